/- Joined texts: RowAt. -/
import Derived.Test.YtkeainhjghdfcaaGreatCwad
import Derived.Test.YtkeainhjghdfcaaGreatCwab
import Derived.Test.YtkeainhjghdfcaaGreatCwaa
import Derived.Test.YtkeainhjghdfcaaGreatCwal

/- rows.At: the span that has a scalar. -/
namespace Go.Proofs.YtkeainhjghdfcaaGreat
open Go.RowKit

def aggS (s : Span) : Value := .agg #[.int .i64 s.f, .int .i64 s.t, .int .i64 s.a, .int .i64 s.b]
def noS : Span := ⟨0, 0, 0, 0⟩
/-- where the search ends -/
structure FoundAt (S : List Span) (r : Int) (i : Nat) : Prop where
  le : i ≤ S.length
  lo : ∀ (j : Nat) (s : Span), j < i → S[j]? = some s → s.t < r
  hi : ∀ (j : Nat) (s : Span), i ≤ j → S[j]? = some s → ¬ s.t < r
theorem spanAt_found {S : List Span} {r : Int} {i : Nat} (hR : Ris S) (hO : ∀ s ∈ S, okS s) (h : FoundAt S r i) : spanAt S r = match S[i]? with
    | some s => if s.f ≤ r then some s else none
    | none => none := by
  cases hi : S[i]? with
  | none =>
    unfold spanAt
    rw [List.find?_eq_none]
    intro s hs
    obtain ⟨j, hj⟩ := List.mem_iff_getElem?.1 hs
    have hl := (List.getElem?_eq_some_iff.1 hj).1
    have hn := List.getElem?_eq_none_iff.1 hi
    have := h.lo j s (by omega) hj
    intro hh
    have := hasS_iff.1 hh
    omega
  | some s =>
    dsimp only
    have hs : s ∈ S := List.mem_of_getElem? hi
    have ht := h.hi i s (Nat.le_refl _) hi
    by_cases hf : s.f ≤ r
    · rw [if_pos hf]
      exact spanAt_of hR.dis hs hf (by omega)
    · rw [if_neg hf]
      unfold spanAt
      rw [List.find?_eq_none]
      intro x hx hh
      obtain ⟨j, hj⟩ := List.mem_iff_getElem?.1 hx
      have hh := hasS_iff.1 hh
      have hok := hO s hs
      unfold okS at hok
      rcases Nat.lt_trichotomy j i with hlt | rfl | hgt
      · have := h.lo j x hlt hj; omega
      · rw [hi] at hj; cases hj; omega
      · obtain ⟨hj1, hj2⟩ := List.getElem?_eq_some_iff.1 hj
        obtain ⟨hi1, hi2⟩ := List.getElem?_eq_some_iff.1 hi
        have := List.pairwise_iff_getElem.1 hR i j hi1 hj1 hgt
        rw [hj2, hi2] at this
        omega

def BsPost (S : List Span) (r : Int) (w : World) (e : Ending) (w' : World) : Prop :=
  ∃ (i : Nat) (ok : Bool), e = .returned (.tuple #[.int .i64 ((i : Nat) : Int), .bool ok]) ∧ Below w.heap.size w w' ∧ FoundAt S r i ∧ ok = (match S[i]? with | some s => decide (s.f ≤ r) | none => false)
theorem ris_lo {S : List Span} {r : Int} (hR : Ris S) (hO : ∀ s ∈ S, okS s) {h : Nat} {x : Span} (hx : S[h]? = some x) (ht : x.t < r) : ∀ (q : Nat) (s : Span), q < h + 1 → S[q]? = some s → s.t < r := by
  intro q s hq hs
  rcases Nat.lt_or_ge q h with hl | hl
  · obtain ⟨a1, a2⟩ := List.getElem?_eq_some_iff.1 hs
    obtain ⟨b1, b2⟩ := List.getElem?_eq_some_iff.1 hx
    have := List.pairwise_iff_getElem.1 hR q h a1 b1 hl
    rw [a2, b2] at this
    have := hO x (List.mem_of_getElem? hx)
    unfold okS at this
    omega
  · have : q = h := by omega
    subst this
    rw [hx] at hs; cases hs; exact ht
theorem ris_hi {S : List Span} {r : Int} (hR : Ris S) (hO : ∀ s ∈ S, okS s) {h : Nat} {x : Span} (hx : S[h]? = some x) (ht : ¬ x.t < r) : ∀ (q : Nat) (s : Span), h ≤ q → S[q]? = some s → ¬ s.t < r := by
  intro q s hq hs
  rcases Nat.lt_or_ge h q with hl | hl
  · obtain ⟨a1, a2⟩ := List.getElem?_eq_some_iff.1 hs
    obtain ⟨b1, b2⟩ := List.getElem?_eq_some_iff.1 hx
    have := List.pairwise_iff_getElem.1 hR h q b1 a1 hl
    rw [a2, b2] at this
    have := hO s (List.mem_of_getElem? hs)
    unfold okS at this
    omega
  · have : q = h := by omega
    subst this
    rw [hx] at hs; cases hs; exact ht
set_option maxRecDepth 100000 in
set_option maxHeartbeats 1000000 in
theorem bsearch_any (v : Value) (S : List Span) (r : Int) (w : World) (hR : SpansIn w v S) (hr : Ris S) (hO : ∀ s ∈ S, okS s) (hl : S.length ≤ 1114112) :
    Calls Tryz.prog 162 #[v, .int .i64 r, .func (.func 163) #[] #[]] w (BsPost S r w) := by
  have HR := Lib.hid hR
  obtain ⟨sa, sc, rfl, hcap, hmax, _, _⟩ := hR
  unfold maxLen at hmax
  have HRis := Lib.hid hr
  have HO := Lib.hid hO
  clear hr hO
  go_enter Tryz.func162, Tryz.ntmps162
  go_wp2
  go_loopw [9, 10] (fun iv jv wr => ∃ i j : Nat, iv = .int .i64 ((i : Nat) : Int) ∧ jv = .int .i64 ((j : Nat) : Int) ∧ i ≤ j ∧ j ≤ S.length ∧ Below w.heap.size w wr ∧ (∀ (q : Nat) (s : Span), q < i → S[q]? = some s → s.t < r) ∧ (∀ (q : Nat) (s : Span), j ≤ q → S[q]? = some s → ¬ s.t < r)) (fun iv jv _ => (intOf jv).toNat - (intOf iv).toNat)
  case atStart => exact ⟨0, S.length, rfl, rfl, Nat.zero_le _, Nat.le_refl _, .refl _ _, fun q s h => by omega, fun q s h h2 => by have := (List.getElem?_eq_some_iff.1 h2).1; omega⟩
  case round =>
    obtain ⟨i, j, rfl, rfl, hij, hjl, hB, hlo, hhi⟩ := hrel
    have HB := Lib.hid hB
    have HLo := Lib.hid hlo
    have HHi := Lib.hid hhi
    have hbs := hB.size
    clear hlo hhi
    by_cases hlt : i < j
    · obtain ⟨h, hh⟩ : ∃ h : Nat, h = (i + j) / 2 := ⟨_, rfl⟩
      have hhl : h < S.length := by omega
      have hih : i ≤ h := by omega
      have hhj : h < j := by omega
      obtain ⟨x, hx⟩ : ∃ x, S[h]? = some x := ⟨S[h], List.getElem?_eq_getElem hhl⟩
      obtain ⟨b, off, cap', hv, _, _, _, d0, d1, d2, d3⟩ := span_cells (HR.out.below hB) hx
      cases hv
      have HX := Lib.hid hx
      clear hB hx
      have s1 : (((i : Nat) : Int) + ((j : Nat) : Int)) / 2 = ((h : Nat) : Int) := by omega
      clear hh
      have e1 := IntWalk.i64_in (((i : Nat) : Int) + ((j : Nat) : Int)) (by omega)
      have p0 : ((i : Nat) : Int) < ((j : Nat) : Int) := by omega
      by_cases h1 : x.t < r
      · go_wp2
        go_roundw
        case rel => exact ⟨h + 1, j, by go_num, rfl, by omega, by omega, HB.out.alloc hbs _, ris_lo HRis.out HO.out HX.out h1, HHi.out⟩
        case measure => simp [intOf]; omega
      · have q1 : decide (x.t < r) = false := by rw [decide_eq_false_iff_not]; exact h1
        have H1 := Lib.hid h1
        clear h1
        go_wp2
        all_goals
          go_roundw
          case rel => exact ⟨i, h, rfl, rfl, by omega, by omega, HB.out.alloc hbs _, HLo.out, ris_hi HRis.out HO.out HX.out H1.out⟩
          case measure => simp [intOf]; omega
    · have hie : i = j := by omega
      subst hie
      have HF := Lib.hid (show FoundAt S r i from ⟨hjl, HLo.out, HHi.out⟩)
      by_cases hin : i < S.length
      · obtain ⟨x, hx⟩ : ∃ x, S[i]? = some x := ⟨S[i], List.getElem?_eq_getElem hin⟩
        obtain ⟨b, off, cap', hv, _, _, _, d0, d1, d2, d3⟩ := span_cells (HR.out.below hB) hx
        cases hv
        have q1 : decide (x.t < r) = false := by rw [decide_eq_false_iff_not]; exact HHi.out i x (Nat.le_refl _) hx
        by_cases hf : x.f ≤ r
        · have q2 : decide (x.f > r) = false := by rw [decide_eq_false_iff_not]; omega
          have HE := Lib.hid (show true = (match S[i]? with | some s => decide (s.f ≤ r) | none => false) by rw [hx]; simp [hf])
          clear hB hx hf
          go_wp2
          go_ret2
          exact ⟨i, true, rfl, HB.out.alloc hbs _, HF.out, HE.out⟩
        · have q2 : x.f > r := by omega
          have HE := Lib.hid (show false = (match S[i]? with | some s => decide (s.f ≤ r) | none => false) by rw [hx]; simp [hf])
          clear hB hx hf
          go_wp2
          go_ret2
          exact ⟨i, false, rfl, HB.out.alloc hbs _, HF.out, HE.out⟩
      · have HE := Lib.hid (show false = (match S[i]? with | some s => decide (s.f ≤ r) | none => false) by rw [List.getElem?_eq_none (by omega)])
        clear hB
        go_wp2
        go_ret2
        exact ⟨i, false, rfl, HB.out, HF.out, HE.out⟩

set_option maxRecDepth 100000 in
set_option maxHeartbeats 1000000 in
theorem at_any (v : Value) (S : List Span) (r : Int) (w : World) (hR : SpansIn w v S) (hG : Good S) (b1 : -2147483648 ≤ r) (b2 : r ≤ 2147483647) :
    Calls Tryz.prog 107 #[v, .int .i32 r] w fun e w' => e = .returned (.tuple #[aggS ((spanAt S r).getD noS), .bool (spanAt S r).isSome]) ∧ Below w.heap.size w w' := by
  have HR := Lib.hid hR
  have HG := Lib.hid hG
  have hfew := good_few hG
  obtain ⟨sa, sc, rfl, hcap, hmax, _, _⟩ := hR
  unfold maxLen at hmax
  clear hG
  go_enter Tryz.func107, Tryz.ntmps107
  have e1 := IntWalk.i64_in r (by omega)
  go_wp2_with fail
  have hB0 : Below w.heap.size w (w.alloc (.cells #[.int .i64 0, .int .i64 0, .int .i64 0, .int .i64 0] 123)) := (Below.refl w.heap.size w).alloc (Nat.le_refl _) _
  have HRow := Lib.hid (heap_alloc_new w (.cells #[.int .i64 0, .int .i64 0, .int .i64 0, .int .i64 0] 123))
  have HB0 := Lib.hid hB0
  clear hB0
  generalize w.alloc (.cells #[.int .i64 0, .int .i64 0, .int .i64 0, .int .i64 0] 123) = w0 at HB0 HRow ⊢
  refine (bsearch_any _ S r w0 (HR.out.below HB0.out) HG.out.ris HG.out.ok hfew).mono ?_
  rintro e w1 ⟨i, ok, rfl, hB, hF, hok⟩
  have hrow : w1.heap[w.heap.size]? = some (.cells #[.int .i64 0, .int .i64 0, .int .i64 0, .int .i64 0] 123 (0, 0)) := (hB.block _ (row_len HRow.out)).trans HRow.out
  have HSp := Lib.hid (spanAt_found HG.out.ris HG.out.ok hF)
  have HB := Lib.hid (below_trans' HB0.out hB)
  have hIn : SpansIn w1 _ S := HR.out.below HB.out
  have z0 : w1.cell? ⟨w.heap.size, 0, none⟩ = some (.int .i64 0) := by rw [cell_of_row _ _ 0 _ _ _ hrow]; rfl
  have f0 : w1.frozen? ⟨w.heap.size, 0, none⟩ = false := by unfold World.frozen?; rw [hrow]; simp
  have z1 : w1.cell? ⟨w.heap.size, 1, none⟩ = some (.int .i64 0) := by rw [cell_of_row _ _ 1 _ _ _ hrow]; rfl
  have f1 : w1.frozen? ⟨w.heap.size, 1, none⟩ = false := by unfold World.frozen?; rw [hrow]; simp
  have z2 : w1.cell? ⟨w.heap.size, 2, none⟩ = some (.int .i64 0) := by rw [cell_of_row _ _ 2 _ _ _ hrow]; rfl
  have f2 : w1.frozen? ⟨w.heap.size, 2, none⟩ = false := by unfold World.frozen?; rw [hrow]; simp
  have z3 : w1.cell? ⟨w.heap.size, 3, none⟩ = some (.int .i64 0) := by rw [cell_of_row _ _ 3 _ _ _ hrow]; rfl
  have f3 : w1.frozen? ⟨w.heap.size, 3, none⟩ = false := by unfold World.frozen?; rw [hrow]; simp
  have hil := hF.le
  clear hrow hF hB
  cases hi : S[i]? with
  | none =>
    rw [hi] at hok
    dsimp only at hok
    subst hok
    have HN := Lib.hid (show spanAt S r = none by rw [HSp.out, hi])
    clear hi hIn
    go_wp2_with fail
    refine ret_cell_tmp (x := .bool false) (ad := ⟨w.heap.size, 0, none⟩) rfl rfl rfl (run_loadVar_mid _ _ 0 _ (spenc noS) _ (range4 (by go_simp; rfl) (by go_simp; rfl) (by go_simp; rfl) (by go_simp; rfl)) Tryz.underlying123 rfl (by kernel_rfl)) rfl ⟨by rw [HN.out]; rfl, (((HB.out.setCell (Nat.le_refl _) _).setCell (Nat.le_refl _) _).setCell (Nat.le_refl _) _).setCell (Nat.le_refl _) _⟩
  | some x =>
    obtain ⟨b, off, cap', hv, _, _, hil2, d0, d1, d2, d3⟩ := span_cells hIn hi
    cases hv
    rw [hi] at hok
    dsimp only at hok
    by_cases hf : x.f ≤ r
    · rw [decide_eq_true hf] at hok
      subst hok
      have HN := Lib.hid (show spanAt S r = some x by rw [HSp.out, hi]; dsimp only; rw [if_pos hf])
      clear hi hIn hf
      go_wp2_with fail
      refine ret_cell_tmp (x := .bool true) (ad := ⟨w.heap.size, 0, none⟩) rfl rfl rfl (run_loadVar_mid _ _ 0 _ (spenc x) _ (range4 (by go_simp) (by go_simp) (by go_simp) (by go_simp)) Tryz.underlying123 rfl (by kernel_rfl)) rfl ⟨by rw [HN.out]; rfl, (((HB.out.setCell (Nat.le_refl _) _).setCell (Nat.le_refl _) _).setCell (Nat.le_refl _) _).setCell (Nat.le_refl _) _⟩
    · rw [decide_eq_false hf] at hok
      subst hok
      have HN := Lib.hid (show spanAt S r = none by rw [HSp.out, hi]; dsimp only; rw [if_neg hf])
      clear hi hIn hf d0 d1 d2 d3
      go_wp2_with fail
      refine ret_cell_tmp (x := .bool false) (ad := ⟨w.heap.size, 0, none⟩) rfl rfl rfl (run_loadVar_mid _ _ 0 _ (spenc noS) _ (range4 (by go_simp; rfl) (by go_simp; rfl) (by go_simp; rfl) (by go_simp; rfl)) Tryz.underlying123 rfl (by kernel_rfl)) rfl ⟨by rw [HN.out]; rfl, (((HB.out.setCell (Nat.le_refl _) _).setCell (Nat.le_refl _) _).setCell (Nat.le_refl _) _).setCell (Nat.le_refl _) _⟩
end Go.Proofs.YtkeainhjghdfcaaGreat
