/- Joined texts: UnitE UnitI UnitJ UnitK. -/
import Derived.Test.YtblajooebmjfoaaGreatZeaa
import Derived.Test.YtblajooebmjfoaaGreatZaaa
import Derived.Test.YtblajooebmjfoaaGreatZcac
import Derived.Test.YtblajooebmjfoaaGreatZcaa
import Derived.Test.YtblajooebmjfoaaGreatZeab
import Derived.Test.YtblajooebmjfoaaGreatZeac
/- The document's places: At. -/
namespace Go.Proofs.YtblajooebmjfoaaGreat
open Go.RowKit

theorem rkind_cases (k : Int) : ((0 ≤ k ∧ k ≤ 4) ∧ kindOk k = true) ∨ (k < 0 ∧ kindOk k = false) ∨ ((0 ≤ k ∧ decide (k ≤ 4) = false) ∧ kindOk k = false) := by
  unfold kindOk
  by_cases h1 : 0 ≤ k
  · by_cases h2 : k ≤ 4
    · exact .inl ⟨⟨h1, h2⟩, by simp [h1, h2]⟩
    · exact .inr (.inr ⟨⟨h1, by simp [h2]⟩, by simp [h2]⟩)
  · exact .inr (.inl ⟨by omega, by simp [h1]⟩)
theorem ps_cell_at {w : World} {b off n cap : Nat} {L : List Ps} (hR : PsIn w (.slice (some ⟨b, off, none⟩) n cap) L) {i : Nat} {x : Ps} (hx : L[i]? = some x) {k : Nat} (hk : k < 5) : w.cell? ⟨b, off + i * 5 + k, none⟩ = some (.int .i64 (psN x k)) := by
  obtain ⟨a, cap', hv, _, _, _, hcells⟩ := hR
  cases hv
  have hl := (List.getElem?_eq_some_iff.1 hx).1
  obtain ⟨b', off', he, _, hcq⟩ := hcells (by omega)
  cases he
  exact flat_cell psE_len hcq hx k (psE_at x hk)
theorem range5a {w : World} {b : Nat} {p : Ps} {t : TypeId} (h : w.heap[b]? = some (.cells #[.int .i64 p.1, .int .i64 p.2.1, .int .i64 p.2.2.1, .int .i64 p.2.2.2.1, .int .i64 p.2.2.2.2] t (0, 0))) : w.rangeAt b 0 [.int .i64 p.1, .int .i64 p.2.1, .int .i64 p.2.2.1, .int .i64 p.2.2.2.1, .int .i64 p.2.2.2.2] :=
  range5 (row_cells (i := 0) h rfl) (row_cells (i := 1) h rfl) (row_cells (i := 2) h rfl) (row_cells (i := 3) h rfl) (row_cells (i := 4) h rfl)
theorem row_far {w : World} {b c i : Nat} {v : Value} {cs : Array Value} {t : TypeId} {f : Nat × Nat} (h : w.heap[c]? = some (.cells cs t f)) (hn : c ≠ b) : (w.setCell ⟨b, i, none⟩ v).heap[c]? = some (.cells cs t f) :=
  ((setCell_grown w ⟨b, i, none⟩ v).block c (row_len h) (by intro e; exact hn (Option.some.inj e))).trans h
/-- a place's box, given other numbers -/
theorem box5_set {w : World} {b : Nat} {p q : Ps} {t : TypeId} (h : w.heap[b]? = some (.cells #[.int .i64 p.1, .int .i64 p.2.1, .int .i64 p.2.2.1, .int .i64 p.2.2.2.1, .int .i64 p.2.2.2.2] t (0, 0))) :
    (((((w.setCell ⟨b, 0, none⟩ (.int .i64 q.1)).setCell ⟨b, 1, none⟩ (.int .i64 q.2.1)).setCell ⟨b, 2, none⟩ (.int .i64 q.2.2.1)).setCell ⟨b, 3, none⟩ (.int .i64 q.2.2.2.1)).setCell ⟨b, 4, none⟩ (.int .i64 q.2.2.2.2)).heap[b]? = some (.cells #[.int .i64 q.1, .int .i64 q.2.1, .int .i64 q.2.2.1, .int .i64 q.2.2.2.1, .int .i64 q.2.2.2.2] t (0, 0)) := by
  have h1 := heap_setCell_same _ b 0 _ _ (Value.int .i64 q.1) h
  have h2 := heap_setCell_same _ b 1 _ _ (Value.int .i64 q.2.1) h1
  have h3 := heap_setCell_same _ b 2 _ _ (Value.int .i64 q.2.2.1) h2
  have h4 := heap_setCell_same _ b 3 _ _ (Value.int .i64 q.2.2.2.1) h3
  have h5 := heap_setCell_same _ b 4 _ _ (Value.int .i64 q.2.2.2.2) h4
  exact h5
theorem run_pos2 {w : World} {b : Nat} {x0 x1 x2 x3 x4 : Int} (z0 : w.cell? ⟨b, 0, none⟩ = some (.int .i64 x0)) (z1 : w.cell? ⟨b, 1, none⟩ = some (.int .i64 x1)) (z2 : w.cell? ⟨b, 2, none⟩ = some (.int .i64 x2)) (z3 : w.cell? ⟨b, 3, none⟩ = some (.int .i64 x3)) (z4 : w.cell? ⟨b, 4, none⟩ = some (.int .i64 x4)) : (loadVar 45 ⟨b, 0, none⟩).run Tryz.prog w = .ok (.agg #[.int .i64 x0, .int .i64 x1, .int .i64 x2, .int .i64 x3, .int .i64 x4]) w :=
  run_loadVar_mid _ _ 0 _ [.int .i64 x0, .int .i64 x1, .int .i64 x2, .int .i64 x3, .int .i64 x4] _ (range5 z0 z1 z2 z3 z4) Tryz.underlying45 rfl (by kernel_rfl)
set_option maxRecDepth 100000 in
set_option maxHeartbeats 4000000 in
theorem rat_any {w : World} {v : Value} {L : List Ps} (kind n : Int) (hR : PsIn w v L) (hP : L.Pairwise psLe) (h0 : L[0]? = some noP) (hl : L.length ≤ 1114112) :
    Calls Tryz.prog 22 #[v, .int .i64 kind, .int .i64 n] w fun e w' => e = .returned (.tuple #[psV (atP L kind n), .bool (kindOk kind)]) ∧ Below w.heap.size w w' := by
  obtain ⟨sa, sc, rfl, hcap, hmax⟩ := ps_shape hR
  unfold maxLen at hmax
  have HR := Lib.hid hR
  have HP := Lib.hid hP
  have hL0 : 0 < L.length := (List.getElem?_eq_some_iff.1 h0).1
  have H0 := Lib.hid h0
  clear hR hP
  go_enter Tryz.func22, Tryz.ntmps22
  go_upto_region 1 with fail
  have hb := below1 w (.cells #[.int .i64 0, .int .i64 0, .int .i64 0, .int .i64 0, .int .i64 0] 45)
  have hr := heap_alloc_new w (.cells #[.int .i64 0, .int .i64 0, .int .i64 0, .int .i64 0, .int .i64 0] 45)
  have hsz : (w.alloc (.cells #[.int .i64 0, .int .i64 0, .int .i64 0, .int .i64 0, .int .i64 0] 45)).heap.size = w.heap.size + 1 := by simp
  generalize w.alloc (.cells #[.int .i64 0, .int .i64 0, .int .i64 0, .int .i64 0, .int .i64 0] 45) = w1 at hb hr hsz ⊢
  have HB1 := Lib.hid hb
  have HR1 := Lib.hid (PsIn.below HR.out hb)
  have HRow := Lib.hid hr
  clear hb hr
  by_cases hk : kindOk kind = true
  · have hk' := hk
    unfold kindOk at hk'
    rw [Bool.and_eq_true, decide_eq_true_eq, decide_eq_true_eq] at hk'
    obtain ⟨k, rfl⟩ : ∃ k : Nat, kind = (k : Int) := ⟨kind.toNat, by omega⟩
    have HK := Lib.hid (show atP L (k : Int) n = lastLe L k n by unfold atP; rw [if_pos hk]; rfl)
    have HKk := Lib.hid hk
    have hk5 : k < 5 := by omega
    have q1 : decide ((k : Int) < 0) = false := decide_eq_false (by omega)
    have q2 : decide ((k : Int) > 4) = false := decide_eq_false (by omega)
    obtain ⟨b, off, cap', hv, _, _, _, _, d0, d1, d2, d3, d4⟩ := ps_cells HR1.out h0
    cases hv
    have d0 : w1.cell? ⟨b, off, none⟩ = some (.int .i64 0) := by simpa using d0
    have d1 : w1.cell? ⟨b, off + 1, none⟩ = some (.int .i64 0) := by simpa using d1
    have d2 : w1.cell? ⟨b, off + 2, none⟩ = some (.int .i64 0) := by simpa using d2
    have d3 : w1.cell? ⟨b, off + 3, none⟩ = some (.int .i64 0) := by simpa using d3
    have d4 : w1.cell? ⟨b, off + 4, none⟩ = some (.int .i64 0) := by simpa using d4
    have l0 : (0 : Int) < (L.length : Int) := by omega
    clear hk hk' h0
    go_upto_region 4 with fail
    have hb2 := below1 w1 (.cells #[.int .i64 0, .int .i64 0, .int .i64 0, .int .i64 0, .int .i64 0] 45)
    have hr2 := heap_alloc_new w1 (.cells #[.int .i64 0, .int .i64 0, .int .i64 0, .int .i64 0, .int .i64 0] 45)
    have hr1 := (hb2.block _ (row_len HRow.out)).trans HRow.out
    have HB2 := Lib.hid (below_trans' HB1.out hb2)
    rw [hsz] at hr2
    generalize w1.alloc (.cells #[.int .i64 0, .int .i64 0, .int .i64 0, .int .i64 0, .int .i64 0] 45) = w2 at hr1 hr2 HB2 ⊢
    have HW := Lib.hid (show w2.heap[w.heap.size + 1]? = some (.cells #[.int .i64 noP.1, .int .i64 noP.2.1, .int .i64 noP.2.2.1, .int .i64 noP.2.2.2.1, .int .i64 noP.2.2.2.2] 45 (0, 0)) from hr2)
    have HZ := Lib.hid hr1
    have hh2 : w.heap.size + 2 ≤ w2.heap.size := by have := row_len hr2; omega
    obtain ⟨h, hh⟩ : ∃ h, w.heap.size = h := ⟨_, rfl⟩
    have HH := Lib.hid hh
    rw [hh] at HW HZ hh2 ⊢
    clear hr1 hr2 hb2 HRow HB1 HR1 hh d0 d1 d2 d3 d4 hsz
    go_wp2_with fail
    go_loopw [9] (fun iv wr => ∃ (i : Nat) (p : Ps), i ≤ L.length ∧ iv = .int .i64 ((i : Nat) : Int) ∧ Below w.heap.size w wr ∧ wr.heap[h]? = some (.cells #[.int .i64 0, .int .i64 0, .int .i64 0, .int .i64 0, .int .i64 0] 45 (0, 0)) ∧ wr.heap[h + 1]? = some (.cells #[.int .i64 p.1, .int .i64 p.2.1, .int .i64 p.2.2.1, .int .i64 p.2.2.2.1, .int .i64 p.2.2.2.2] 45 (0, 0)) ∧ p = midP L k n i) (fun iv _ => L.length - (intOf iv).toNat)
    case atStart => exact ⟨0, noP, Nat.zero_le _, rfl, HB2.out, HZ.out, HW.out, (mid_zero H0.out).symm⟩
    case round =>
      obtain ⟨i, p, hi, rfl, hB, hz, hw, hp⟩ := hrel
      have HBr := Lib.hid hB
      have HZr := Lib.hid hz
      have HWr := Lib.hid hw
      have HPm := Lib.hid hp
      by_cases hlt : i < L.length
      · obtain ⟨x, hx⟩ : ∃ x, L[i]? = some x := ⟨L[i], List.getElem?_eq_getElem hlt⟩
        have hIn := PsIn.below HR.out hB
        have dk := ps_cell_at hIn hx hk5
        obtain ⟨_, _, _, hv, _, _, _, _, d0, d1, d2, d3, d4⟩ := ps_cells hIn hx
        cases hv
        have HX := Lib.hid hx
        have f0 := row_warm hw 0
        have f1 := row_warm hw 1
        have f2 := row_warm hw 2
        have f3 := row_warm hw 3
        have f4 := row_warm hw 4
        have z0 := row_cells (i := 0) hw rfl
        have z1 := row_cells (i := 1) hw rfl
        have z2 := row_cells (i := 2) hw rfl
        have z3 := row_cells (i := 3) hw rfl
        have z4 := row_cells (i := 4) hw rfl
        have s0 : (i : Int) < (L.length : Int) := by omega
        have s1 : (0 : Int) ≤ (i : Int) := by omega
        have s2 : (k : Int) < 5 := by omega
        have s3 : (0 : Int) ≤ (k : Int) := by omega
        have e1 := IntWalk.i64_in ((i : Int) + 1) (by omega)
        clear hB hz hw hp hx hIn hlt
        by_cases hle : psN x k ≤ n
        · have HM := Lib.hid (mid_le HP.out HX.out hle)
          generalize psN x k = y at dk hle
          obtain ⟨x0, x1, x2, x3, x4⟩ := x
          go_wp2_with fail
          go_roundw
          case rel =>
            refine ⟨i + 1, (x0, x1, x2, x3, x4), by omega, by go_num, ?_, ?_, box5_set (q := (x0, x1, x2, x3, x4)) HWr.out, HM.out.symm⟩
            · exact (((((HBr.out).setCell (by rw [HH.out]; simp) _).setCell (by rw [HH.out]; simp) _).setCell (by rw [HH.out]; simp) _).setCell (by rw [HH.out]; simp) _).setCell (by rw [HH.out]; simp) _
            · exact row_far (row_far (row_far (row_far (row_far HZr.out (by omega)) (by omega)) (by omega)) (by omega)) (by omega)
          case measure => simp [intOf] <;> omega
        · have HM := Lib.hid (mid_gt HP.out HX.out hle)
          have q3 : decide (psN x k ≤ n) = false := decide_eq_false hle
          generalize psN x k = y at dk q3
          clear hle f0 f1 f2 f3 f4 z0 z1 z2 z3 z4
          go_wp2_with fail
          go_roundw
          case rel => exact ⟨i + 1, p, by omega, by go_num, HBr.out, HZr.out, HWr.out, by rw [HM.out]; exact HPm.out⟩
          case measure => simp [intOf] <;> omega
      · have hie : i = L.length := by omega
        subst hie
        have HV := Lib.hid (show p = atP L (k : Int) n by rw [hp, HK.out, mid_end H0.out])
        have f0 := row_warm hz 0
        have f1 := row_warm hz 1
        have f2 := row_warm hz 2
        have f3 := row_warm hz 3
        have f4 := row_warm hz 4
        have z0 := row_cells (i := 0) hz rfl
        have z1 := row_cells (i := 1) hz rfl
        have z2 := row_cells (i := 2) hz rfl
        have z3 := row_cells (i := 3) hz rfl
        have z4 := row_cells (i := 4) hz rfl
        have y0 := row_cells (i := 0) hw rfl
        have y1 := row_cells (i := 1) hw rfl
        have y2 := row_cells (i := 2) hw rfl
        have y3 := row_cells (i := 3) hw rfl
        have y4 := row_cells (i := 4) hw rfl
        obtain ⟨p0, p1, p2, p3, p4⟩ := p
        have s0 : decide ((L.length : Int) < (L.length : Int)) = false := by simp
        clear hB hz hw hp hlt hi
        go_wp2_with fail
        refine ret_cell_tmp (x := .bool true) (ad := ⟨h, 0, none⟩) rfl rfl rfl (run_pos2 (x0 := p0) (x1 := p1) (x2 := p2) (x3 := p3) (x4 := p4) (by go_simp) (by go_simp) (by go_simp) (by go_simp) (by go_simp)) rfl ⟨by rw [← HV.out, HKk.out]; rfl, ?_⟩
        have hB := HBr.out
        rw [HH.out] at hB ⊢
        exact ((((hB.setCell (by simp) _).setCell (by simp) _).setCell (by simp) _).setCell (by simp) _).setCell (by simp) _
  · have HKk := Lib.hid (show kindOk kind = false by simpa using hk)
    have HV := Lib.hid (show atP L kind n = noP by unfold atP; rw [if_neg hk])
    have hr := HRow.out
    have f0 := row_warm hr 0
    have f1 := row_warm hr 1
    have f2 := row_warm hr 2
    have f3 := row_warm hr 3
    have f4 := row_warm hr 4
    have z0 := row_cells (i := 0) hr rfl
    have z1 := row_cells (i := 1) hr rfl
    have z2 := row_cells (i := 2) hr rfl
    have z3 := row_cells (i := 3) hr rfl
    have z4 := row_cells (i := 4) hr rfl
    clear hr HRow h0
    rcases rkind_cases kind with ⟨_, k3⟩ | ⟨k1, _⟩ | ⟨⟨k1, k2⟩, _⟩
    · rw [HKk.out] at k3; cases k3
    all_goals
      try have q1 : decide (kind < 0) = false := decide_eq_false (by omega)
      try have q2 : kind > 4 := by rw [decide_eq_false_iff_not] at k2; omega
      clear hk
      go_wp2_with fail
      refine ret_cell_tmp (x := .bool false) (ad := ⟨w.heap.size, 0, none⟩) rfl rfl rfl (run_pos2 (x0 := 0) (x1 := 0) (x2 := 0) (x3 := 0) (x4 := 0) (by go_simp) (by go_simp) (by go_simp) (by go_simp) (by go_simp)) rfl ⟨by rw [HV.out, HKk.out]; rfl, ?_⟩
      exact ((((HB1.out.setCell (by simp) _).setCell (by simp) _).setCell (by simp) _).setCell (by simp) _).setCell (by simp) _
end Go.Proofs.YtblajooebmjfoaaGreat

/- The document's places: Pos, All. -/
namespace Go.Proofs.YtblajooebmjfoaaGreat
open Go.RowKit

theorem int5_all (p : Ps) : ∀ (i : Nat) (u : Value), (#[Value.int .i64 p.1, .int .i64 p.2.1, .int .i64 p.2.2.1, .int .i64 p.2.2.2.1, .int .i64 p.2.2.2.2] : Array Value)[i]? = some u → ∃ n : Int, u = Value.int .i64 n := fun j u hu => by
  match j with
  | 0 => exact ⟨_, (Option.some.inj hu).symm⟩
  | 1 => exact ⟨_, (Option.some.inj hu).symm⟩
  | 2 => exact ⟨_, (Option.some.inj hu).symm⟩
  | 3 => exact ⟨_, (Option.some.inj hu).symm⟩
  | 4 => exact ⟨_, (Option.some.inj hu).symm⟩
  | j + 5 => simp at hu
theorem runes_kept {w w' : World} {u : Value} {c : List Int} {b : Nat} {cs : Array Value} {t : TypeId} (h : RunesIn w u c) (hc : w.heap[b]? = some (.cells cs t (0, 0))) (hcs : ∀ (i : Nat) (u : Value), cs[i]? = some u → ∃ n : Int, u = Value.int .i64 n) (hK : Kept (fun j => j = b) w w') : RunesIn w' u c := by
  obtain ⟨a, cap, rfl, h1, h2, h3, h4⟩ := h
  refine ⟨a, cap, rfl, h1, h2, h3, fun hn => ?_⟩
  obtain ⟨g, off, rfl, hg, hq⟩ := h4 hn
  have hne : g ≠ b := fun e => by
    subst e
    obtain ⟨x, hx⟩ : ∃ x, c[0]? = some x := ⟨c[0], List.getElem?_eq_getElem hn⟩
    have d0 := flat_cell runeE_len hq hx 0 rfl
    rw [cell_of_row _ _ _ _ _ _ hc] at d0
    obtain ⟨n, hn⟩ := hcs _ _ (by simpa using d0)
    cases hn
  exact ⟨g, off, rfl, Nat.lt_of_lt_of_le hg hK.size, fun j u hu => hK.cell (hq j u hu) hne⟩
section
variable {R : List Rw} {s : List Int} {w : World} {v sv : Value}
set_option maxRecDepth 100000 in
set_option maxHeartbeats 8000000 in
theorem rpos_any (H : (tabOf R).Ok) (hR : RowsIn w v R) (hs : RunesIn w sv s) (ok : RunesOk s) (hl : s.length ≤ 100000) {i : Nat} (hi : i ≤ s.length) :
    Calls Tryz.prog 55 #[v, sv, .int .i64 (i : Int)] w fun e w' => e = .returned (psV (PL R s i)) ∧ Below w.heap.size w w' := by
  have HR := Lib.hid hR
  have HS := Lib.hid hs
  have HOk := Lib.hid ok
  have HTk := Lib.hid H
  obtain ⟨sl, cap, rfl, hcap, hmax, _⟩ := runes_cells hs
  unfold maxLen at hmax
  clear hR hs ok H
  go_enter Tryz.func55, Tryz.ntmps55
  go_upto_region 2 with fail
  have hb := below1 w (.cells #[.int .i64 0, .int .i64 0, .int .i64 0, .int .i64 0, .int .i64 0] 45)
  have hr := heap_alloc_new w (.cells #[.int .i64 0, .int .i64 0, .int .i64 0, .int .i64 0, .int .i64 0] 45)
  have hsz : (w.alloc (.cells #[.int .i64 0, .int .i64 0, .int .i64 0, .int .i64 0, .int .i64 0] 45)).heap.size = w.heap.size + 1 := by simp
  generalize w.alloc (.cells #[.int .i64 0, .int .i64 0, .int .i64 0, .int .i64 0, .int .i64 0] 45) = w1 at hb hr hsz ⊢
  have hb2 := below1 w1 (.cells #[.int .i64 0, .int .i64 0, .int .i64 0, .int .i64 0, .int .i64 0] 45)
  have hr2 := heap_alloc_new w1 (.cells #[.int .i64 0, .int .i64 0, .int .i64 0, .int .i64 0, .int .i64 0] 45)
  have hr1 := (hb2.block _ (row_len hr)).trans hr
  have HB2 := Lib.hid (below_trans' hb hb2)
  rw [hsz] at hr2
  generalize w1.alloc (.cells #[.int .i64 0, .int .i64 0, .int .i64 0, .int .i64 0, .int .i64 0] 45) = w2 at hr1 hr2 HB2 ⊢
  have HZ := Lib.hid hr1
  obtain ⟨h, hh⟩ : ∃ h, w.heap.size = h := ⟨_, rfl⟩
  have HH := Lib.hid hh
  rw [hh] at HZ hr2 ⊢
  have f0 := row_warm hr2 0
  have z0 := row_cells (i := 0) hr2 rfl
  have HW := Lib.hid hr2
  clear hb hb2 hr hr1 hr2 hsz hh
  go_upto_region 4 with fail
  have HW3 := Lib.hid (heap_setCell_same _ (h + 1) 0 _ _ (Value.int .i64 (i : Int)) HW.out)
  have HZ3 := Lib.hid (row_far (b := h + 1) (i := 0) (v := Value.int .i64 (i : Int)) HZ.out (by omega))
  have HB3 := Lib.hid (HB2.out.setCell (p := ⟨h + 1, 0, none⟩) (by rw [HH.out]; simp) (Value.int .i64 (i : Int)))
  generalize w2.setCell ⟨h + 1, 0, none⟩ (.int .i64 (i : Int)) = w3 at HW3 HZ3 HB3 ⊢
  clear f0 z0 HW HZ HB2
  go_loopw [8] (fun kv wr => ∃ (k : Nat) (p1 p2 p3 : Int), k ≤ i ∧ kv = .int .i64 ((k : Nat) : Int) ∧ Below w.heap.size w wr ∧ wr.heap[h]? = some (.cells #[.int .i64 0, .int .i64 0, .int .i64 0, .int .i64 0, .int .i64 0] 45 (0, 0)) ∧ wr.heap[h + 1]? = some (.cells #[.int .i64 (i : Int), .int .i64 p1, .int .i64 p2, .int .i64 p3, .int .i64 0] 45 (0, 0)) ∧ p1 = (bytesTo s k : Int) ∧ p2 = (unitsTo s k : Int) ∧ p3 = (ahd (starts (tabOf R) s) (k : Int) : Int)) (fun kv _ => i - (intOf kv).toNat)
  case atStart => exact ⟨0, 0, 0, 0, Nat.zero_le _, rfl, HB3.out, HZ3.out, HW3.out, rfl, rfl, by have h0 : ahd (starts (tabOf R) s) ((0 : Nat) : Int) = 0 := ahd_eq ⟨Nat.zero_le _, fun j x hj => by omega, fun j x _ hx => by omega⟩; rw [h0]; rfl⟩
  case round =>
    obtain ⟨k, p1, p2, p3, hk, rfl, hB, hz, hw, hp1, hp2, hp3⟩ := hrel
    have HBr := Lib.hid hB
    have HZr := Lib.hid hz
    have HWr := Lib.hid hw
    have HP1 := Lib.hid hp1
    have HP2 := Lib.hid hp2
    have HP3 := Lib.hid hp3
    by_cases hlt : k < i
    · obtain ⟨x, hx⟩ : ∃ x, s[k]? = some x := ⟨s[k], List.getElem?_eq_getElem (by omega)⟩
      have HX := Lib.hid hx
      obtain ⟨rb, roff, _, hv, _, _, _, hrb, l0⟩ := rune_cell (HS.out.below hB) hx
      cases hv
      have hrb2 : rb < h := by
        obtain ⟨rb', roff', _, hv, _, _, _, hrb', _⟩ := rune_cell HS.out hx
        cases hv
        have := HH.out
        omega
      have y1 := row_cells (i := 1) hw rfl
      have z1 := row_warm hw 1
      have hby := bytesTo_le s k (by omega)
      have hun := unitsTo_le s k (by omega)
      have hsx := sizeN_rng x
      have HPut := Lib.hid (fun W : World => rput_any x W)
      obtain ⟨ps, hps⟩ : ∃ ps, ps = put x := ⟨_, rfl⟩
      rw [← hps] at HPut
      have hpz : ps.size = sizeN x := by rw [hps, put_size]
      have g1 := IntWalk.i64_in (p1 + ((sizeN x : Nat) : Int)) (by omega)
      have s0 : (k : Int) < (i : Int) := by omega
      have s1 : (0 : Int) ≤ (k : Int) := by omega
      have s2 : (k : Int) < (s.length : Int) := by omega
      clear hB hz hw hp1 hp2 hp3 hx hps
      go_upto_region 6 with fail
      refine wp_region_held_drew (S := fun w' => w'.cell? ⟨rb, roff + k, none⟩ = some (.int .i32 x)) (by kernel_rfl) l0 (fun hHeld => ?_)
      refine hd_take 0 rfl (by kernel_rfl) (by kernel_rfl) (by kernel_rfl) (fun _ _ _ h => h) (by rfl) (by intro w hSw; (try dsimp only at hSw); go_simp; first | done | with_reducible rfl) hHeld ?_
      try simp only [Act.put, List.setIfInBounds_toArray, List.set_cons_zero, List.set_cons_succ]
      refine hd_take 2 rfl (by kernel_rfl) (by kernel_rfl) (by kernel_rfl) (fun _ _ _ h => h) (by rfl) (by intro w hSw; (try dsimp only at hSw); go_simp; first | done | with_reducible rfl) hHeld ?_
      try simp only [Act.put, List.setIfInBounds_toArray, List.set_cons_zero, List.set_cons_succ]
      refine hd_take 3 rfl (by kernel_rfl) (by kernel_rfl) (by kernel_rfl) (fun _ _ _ h => h) (by rfl) (by intro w hSw; (try dsimp only at hSw); go_simp; first | done | with_reducible rfl) hHeld ?_
      try simp only [Act.put, List.setIfInBounds_toArray, List.set_cons_zero, List.set_cons_succ]
      refine hd_take 4 rfl (by kernel_rfl) (by kernel_rfl) (by kernel_rfl) (fun _ _ _ h => h) (by rfl) (by intro w hSw; (try dsimp only at hSw); go_simp; first | done | with_reducible rfl) hHeld ?_
      try simp only [Act.put, List.setIfInBounds_toArray, List.set_cons_zero, List.set_cons_succ]
      refine hd_take 5 rfl (by kernel_rfl) (by kernel_rfl) (by kernel_rfl) (fun _ _ _ h => h) (by rfl) (by intro w hSw; (try dsimp only at hSw); go_simp; first | done | with_reducible rfl) hHeld ?_
      try simp only [Act.put, List.setIfInBounds_toArray, List.set_cons_zero, List.set_cons_succ]
      refine hd_two 1 6 (by kernel_rfl) rfl rfl (fun K hK => ?_) (fun K hK => ?_)
      case' refine_1 =>
        go_simp
        refine hK.out _ _ l0 (fun hHeld => ?_)
        clear hK K
        try simp only [Act.put, List.setIfInBounds_toArray, List.set_cons_zero, List.set_cons_succ]
        refine hd_step 6 (by kernel_rfl) rfl (fun K hK => ?_)
        go_simp
        go_at_call 93
        refine (HPut.out _).mono ?_
        rintro e w4 ⟨rfl, hB4⟩
        have l4 := cell_later hB4 l0
        have hw4 := (hB4.block _ (row_len HWr.out)).trans HWr.out
        have y4 := row_cells (i := 1) hw4 rfl
        have z4 := row_warm hw4 1
        have HW4 := Lib.hid hw4
        have HZ4 := Lib.hid ((hB4.block _ (row_len HZr.out)).trans HZr.out)
        have HB4 := Lib.hid (below_trans' (show Below w.heap.size w wr.drew from below_dN HBr.out 1) hB4)
        clear hB4 hw4
        go_wp2_with fail
        refine hK.out _ _ l4 (fun hHeld => ?_)
        clear hK K
        try simp only [Act.put, List.setIfInBounds_toArray, List.set_cons_zero, List.set_cons_succ]
        refine hd_take 7 rfl (by kernel_rfl) (by kernel_rfl) (by kernel_rfl) (fun _ _ _ h => h) (by rfl) (by intro w hSw; (try dsimp only at hSw); go_simp; first | done | with_reducible rfl) hHeld ?_
        try simp only [Act.put, List.setIfInBounds_toArray, List.set_cons_zero, List.set_cons_succ]
      case' refine_2 =>
        go_simp
        go_at_call 93
        refine (HPut.out _).mono ?_
        rintro e w4 ⟨rfl, hB4⟩
        have l4 := cell_later hB4 l0
        have hw4 := (hB4.block _ (row_len HWr.out)).trans HWr.out
        have y4 := row_cells (i := 1) hw4 rfl
        have z4 := row_warm hw4 1
        have HW4 := Lib.hid hw4
        have HZ4 := Lib.hid ((hB4.block _ (row_len HZr.out)).trans HZr.out)
        have HB4 := Lib.hid (below_trans' (show Below w.heap.size w wr.drew from below_dN HBr.out 1) hB4)
        clear hB4 hw4
        go_wp2_with fail
        refine hK.out _ _ l4 (fun hHeld => ?_)
        clear hK K
        try simp only [Act.put, List.setIfInBounds_toArray, List.set_cons_zero, List.set_cons_succ]
        refine hd_take 7 rfl (by kernel_rfl) (by kernel_rfl) (by kernel_rfl) (fun _ _ _ h => h) (by rfl) (by intro w hSw; (try dsimp only at hSw); go_simp; first | done | with_reducible rfl) hHeld ?_
        try simp only [Act.put, List.setIfInBounds_toArray, List.set_cons_zero, List.set_cons_succ]
        refine hd_step 1 (by kernel_rfl) rfl (fun K hK => ?_)
        go_simp
        refine hK.out _ _ l4 (fun hHeld => ?_)
        clear hK K
        try simp only [Act.put, List.setIfInBounds_toArray, List.set_cons_zero, List.set_cons_succ]
      all_goals
        refine hd_step 8 (by kernel_rfl) rfl (fun K hK => ?_)
        go_simp
        refine hK.out _ _ l4 (fun hHeld => ?_)
        clear hK K
        try simp only [Act.put, List.setIfInBounds_toArray, List.set_cons_zero, List.set_cons_succ]
        refine hd_take 9 rfl (by kernel_rfl) (by kernel_rfl) (by kernel_rfl) (fun _ _ _ h => h) (by rfl) (by intro w hSw; (try dsimp only at hSw); go_simp; first | done | with_reducible rfl) hHeld ?_
        try simp only [Act.put, List.setIfInBounds_toArray, List.set_cons_zero, List.set_cons_succ]
        refine hd_step 10 (by kernel_rfl) rfl (fun K hK => ?_)
        go_simp
        refine hK.out _ _ ((World.cell?_setCell_other _ _ _ _ (fun e => by injection e with e1; omega)).trans l4) (fun hHeld => ?_)
        clear hK K
        try simp only [Act.put, List.setIfInBounds_toArray, List.set_cons_zero, List.set_cons_succ]
        refine wpAnyH_done (by kernel_rfl) ?_ _
      all_goals
        have HW5 := Lib.hid (heap_setCell_same _ (h + 1) 1 _ _ (Value.int .i64 (p1 + ((sizeN x : Nat) : Int))) HW4.out)
        have HZ5 := Lib.hid (row_far (b := h + 1) (i := 1) (v := Value.int .i64 (p1 + ((sizeN x : Nat) : Int))) HZ4.out (by omega))
        have HB5 := Lib.hid (HB4.out.setCell (p := ⟨h + 1, 1, none⟩) (by rw [HH.out]; simp) (Value.int .i64 (p1 + ((sizeN x : Nat) : Int))))
        generalize w4.setCell ⟨h + 1, 1, none⟩ (.int .i64 (p1 + ((sizeN x : Nat) : Int))) = w5 at HW5 HZ5 HB5 ⊢
        clear hHeld y4 z4 l4 HW4 HZ4 HB4 l0 y1 z1 HWr HZr HBr HPut g1
        have HP1' := Lib.hid (show p1 + ((sizeN x : Nat) : Int) = (bytesTo s (k + 1) : Int) by rw [bytesTo_succ HX.out, HP1.out]; simp)
        generalize p1 + ((sizeN x : Nat) : Int) = P1 at HW5 HP1' ⊢
        have g2 := IntWalk.i64_in (p2 + 1) (by have := HP2.out; omega)
        have g3 := IntWalk.i64_in (p2 + 1 + 1) (by have := HP2.out; omega)
        have y2 := row_cells (i := 2) HW5.out rfl
        have z2 := row_warm HW5.out 2
        go_upto_region 8 with fail
        have HW6 := Lib.hid (heap_setCell_same _ (h + 1) 2 _ _ (Value.int .i64 (p2 + 1)) HW5.out)
        have HZ6 := Lib.hid (row_far (b := h + 1) (i := 2) (v := Value.int .i64 (p2 + 1)) HZ5.out (by omega))
        have HB6 := Lib.hid (HB5.out.setCell (p := ⟨h + 1, 2, none⟩) (by rw [HH.out]; simp) (Value.int .i64 (p2 + 1)))
        generalize w5.setCell ⟨h + 1, 2, none⟩ (.int .i64 (p2 + 1)) = w6 at HW6 HZ6 HB6 ⊢
        clear y2 z2 HW5 HZ5 HB5 g2
        obtain ⟨_, _, _, hv, _, _, _, _, l0⟩ := rune_cell (HS.out.below HB6.out) HX.out
        cases hv
        have y2 := row_cells (i := 2) HW6.out rfl
        have z2 := row_warm HW6.out 2
        by_cases hx1 : x > 65535
        case' neg =>
          have q1 : decide (x > 65535) = false := decide_eq_false hx1
          have HUn := Lib.hid (show unN x = 1 by unfold unN; rw [if_neg (by omega)])
          clear hx1
          go_upto_region 10 with fail
          have HW7 := HW6
          have HZ7 := HZ6
          have HB7 := HB6
          generalize w6 = w7 at HW7 HZ7 HB7 ⊢
          have HP2' := Lib.hid (show p2 + 1 = (unitsTo s (k + 1) : Int) by rw [unitsTo_succ HX.out, HUn.out]; have := HP2.out; omega)
          generalize p2 + 1 = P2 at HW7 HP2'
          clear HW6 HZ6 HB6 HUn y2 z2 g3 l0
        case' pos =>
          go_wp2_with fail
          refine (rvalid_any x w6).mono ?_
          rintro e w' ⟨rfl, rfl⟩
          by_cases hvx : validB x = true
          case' neg =>
            rw [Bool.eq_false_iff.2 hvx]
            have HUn := Lib.hid (show unN x = 1 by unfold unN; rw [if_neg (by intro h1; exact hvx h1.2)])
            clear hvx hx1
            go_upto_region 10 with fail
            have HW7 := HW6
            have HZ7 := HZ6
            have HB7 := HB6
            generalize w6 = w7 at HW7 HZ7 HB7 ⊢
            have HP2' := Lib.hid (show p2 + 1 = (unitsTo s (k + 1) : Int) by rw [unitsTo_succ HX.out, HUn.out]; have := HP2.out; omega)
            generalize p2 + 1 = P2 at HW7 HP2'
            clear HW6 HZ6 HB6 HUn y2 z2 g3 l0
          case' pos =>
            rw [hvx]
            have HUn := Lib.hid (show unN x = 2 by unfold unN; rw [if_pos ⟨hx1, hvx⟩])
            clear hvx hx1
            go_upto_region 10 with fail
            have HW7 := Lib.hid (heap_setCell_same _ (h + 1) 2 _ _ (Value.int .i64 (p2 + 1 + 1)) HW6.out)
            have HZ7 := Lib.hid (row_far (b := h + 1) (i := 2) (v := Value.int .i64 (p2 + 1 + 1)) HZ6.out (by omega))
            have HB7 := Lib.hid (HB6.out.setCell (p := ⟨h + 1, 2, none⟩) (by rw [HH.out]; simp) (Value.int .i64 (p2 + 1 + 1)))
            generalize w6.setCell ⟨h + 1, 2, none⟩ (.int .i64 (p2 + 1 + 1)) = w7 at HW7 HZ7 HB7 ⊢
            have HP2' := Lib.hid (show p2 + 1 + 1 = (unitsTo s (k + 1) : Int) by rw [unitsTo_succ HX.out, HUn.out]; have := HP2.out; omega)
            generalize p2 + 1 + 1 = P2 at HW7 HP2'
            clear HW6 HZ6 HB6 HUn y2 z2 g3 l0
        all_goals
          have hS := starts_sorted (tabOf R) s
          have hal := ahd_le (starts (tabOf R) s) (k : Int)
          have hSl := starts_len (tabOf R) s
          have HAs := Lib.hid (ahd_succ hS k)
          have e1 := IntWalk.i64_in ((k : Int) + 1) (by omega)
          have g4 := IntWalk.i64_in (p3 + 1) (by have := HP3.out; omega)
          go_wp2_with fail
          refine (begins_any k (HR.out.below HB7.out) (HS.out.below HB7.out) HOk.out (by omega) (by omega)).mono ?_
          rintro e w' ⟨rfl, q, rfl⟩
          have HW8 := Lib.hid (show (w7.drewN q).heap[h + 1]? = _ from HW7.out)
          have HZ8 := Lib.hid (show (w7.drewN q).heap[h]? = _ from HZ7.out)
          have HB8 := Lib.hid (below_dN HB7.out q)
          generalize w7.drewN q = w8 at HW8 HZ8 HB8 ⊢
          clear HW7 HZ7 HB7 hS hal hSl
          by_cases hbg : begAt (tabOf R) s k = true
          · rw [hbg]
            have HP3' := Lib.hid (show p3 + 1 = (ahd (starts (tabOf R) s) ((k + 1 : Nat) : Int) : Int) by
              have h1 := HAs.out
              rw [if_pos ((starts_mem (tabOf R) s k).2 hbg)] at h1
              have h2 : ((k + 1 : Nat) : Int) = (k : Int) + 1 := by omega
              rw [h2, h1, HP3.out]; omega)
            have y3 := row_cells (i := 3) HW8.out rfl
            have z3 := row_warm HW8.out 3
            clear hbg
            go_wp2_with fail
            go_roundw
            case rel => exact ⟨k + 1, P1, P2, p3 + 1, by omega, by go_num, HB8.out.setCell (p := ⟨h + 1, 3, none⟩) (by rw [HH.out]; simp) _, row_far HZ8.out (by omega), heap_setCell_same _ (h + 1) 3 _ _ (Value.int .i64 (p3 + 1)) HW8.out, HP1'.out, HP2'.out, HP3'.out⟩
            case measure => simp [intOf] <;> omega
          · rw [Bool.eq_false_iff.2 hbg]
            have HP3' := Lib.hid (show p3 = (ahd (starts (tabOf R) s) ((k + 1 : Nat) : Int) : Int) by
              have h1 := HAs.out
              rw [if_neg (fun h => hbg ((starts_mem (tabOf R) s k).1 h))] at h1
              have h2 : ((k + 1 : Nat) : Int) = (k : Int) + 1 := by omega
              rw [h2, h1, HP3.out]; omega)
            clear hbg
            go_wp2_with fail
            go_roundw
            case rel => exact ⟨k + 1, P1, P2, p3, by omega, by go_num, HB8.out, HZ8.out, HW8.out, HP1'.out, HP2'.out, HP3'.out⟩
            case measure => simp [intOf] <;> omega
    · have hki : k = i := by omega
      have s0 : decide ((k : Int) < (i : Int)) = false := decide_eq_false (by omega)
      have HNe := Lib.hid (clus_ne (tabOf R) s.length s (Nat.le_refl _))
      have HMem := Lib.hid (clus_mem (tabOf R) s.length s (Nat.le_refl _))
      obtain ⟨LL, hLL⟩ : ∃ LL, LL = clus (tabOf R) s := ⟨_, rfl⟩
      have HCl := Lib.hid (rclusters_any HTk.out (HR.out.below hB) (HS.out.below hB) HOk.out (by omega))
      rw [← hLL] at HCl HNe HMem
      have HLL := Lib.hid hLL
      have hLl : LL.length ≤ s.length := by rw [hLL]; exact clusN_len (tabOf R) s.length s
      clear hlt hB hz hw hp1 hp2 hp3 hLL
      go_wp2_with fail
      refine HCl.out.mono ?_
      rintro e w5 ⟨tu, rfl, hB5, hX5⟩
      have HX5 := Lib.hid hX5
      obtain ⟨ta, tcap, rfl, ht1, ht2⟩ := texts_shape hX5
      unfold maxLen at ht2
      have HZ5 := Lib.hid ((hB5.block _ (row_len HZr.out)).trans HZr.out)
      have HW5 := Lib.hid ((hB5.block _ (row_len HWr.out)).trans HWr.out)
      have HB5 := Lib.hid (below_trans' HBr.out hB5)
      clear hB5 hX5 HCl HBr HZr HWr
      go_wp2_with fail
      go_loopw [10, 11] (fun ev kv wr => ∃ (m : Nat) (p4 : Int), m ≤ LL.length ∧ ev = .int .i64 ((bd (starts (tabOf R) s) s.length m : Nat) : Int) ∧ kv = .int .i64 ((m : Nat) : Int) ∧ Below w.heap.size w wr ∧ Kept (fun j => j = h + 1) w5 wr ∧ wr.heap[h]? = some (.cells #[.int .i64 0, .int .i64 0, .int .i64 0, .int .i64 0, .int .i64 0] 45 (0, 0)) ∧ wr.heap[h + 1]? = some (.cells #[.int .i64 (i : Int), .int .i64 p1, .int .i64 p2, .int .i64 p3, .int .i64 p4] 45 (0, 0)) ∧ p4 = colsTo R s m ∧ bd (starts (tabOf R) s) s.length m ≤ i) (fun _ kv _ => LL.length - (intOf kv).toNat)
      case atStart =>
        have h0 := bd_zero (bds_of (R := R) (s := s))
        exact ⟨0, 0, Nat.zero_le _, by rw [h0]; rfl, rfl, HB5.out, Kept.refl _ _, HZ5.out, HW5.out, by simp [colsTo, lineG, wdG], by rw [h0]; exact Nat.zero_le _⟩
      case round =>
        obtain ⟨m, p4, hm, rfl, rfl, hB, hK, hz, hw, hp4, hbi⟩ := hrel
        have HBm := Lib.hid hB
        have HKm := Lib.hid hK
        have HZm := Lib.hid hz
        have HWm := Lib.hid hw
        have HP4 := Lib.hid hp4
        by_cases hlt : m < LL.length
        · obtain ⟨c, hc⟩ : ∃ c, LL[m]? = some c := ⟨LL[m], List.getElem?_eq_getElem hlt⟩
          have hcm := List.mem_of_getElem? hc
          have HC := Lib.hid hc
          have hcl := (HNe.out c hcm).2
          have hbd := clus_bd (s := s) HTk.out (by rw [← HLL.out]; exact hc)
          have HOkc := Lib.hid (show RunesOk c from fun x hx => HOk.out x (HMem.out c hcm x hx))
          obtain ⟨tb, toff, cp, cu, hv, _, _, _, _, d00, hcu⟩ := texts_cell HX5.out hc
          cases hv
          obtain ⟨ca, ccap, rfl, _, _, _⟩ := runes_cells hcu
          have htne : tb ≠ h + 1 := fun e => by
            subst e
            rw [cell_of_row _ _ _ _ _ _ HW5.out] at d00
            obtain ⟨n, hn⟩ := int5_all ((i : Int), p1, p2, p3, 0) _ _ (by simpa using d00)
            cases hn
          have d0 := hK.cell d00 htne
          have HCu := Lib.hid (runes_kept hcu HW5.out (int5_all ((i : Int), p1, p2, p3, 0)) hK)
          have hble := bd_le (bds_of (R := R) (s := s)) (m + 1)
          obtain ⟨B, hBd⟩ : ∃ B, B = bd (starts (tabOf R) s) s.length m := ⟨_, rfl⟩
          obtain ⟨B', hBd'⟩ : ∃ B', B' = bd (starts (tabOf R) s) s.length (m + 1) := ⟨_, rfl⟩
          rw [← hBd, ← hBd'] at hbd
          rw [← hBd'] at hble
          rw [← hBd] at hbi ⊢
          have HBd := Lib.hid hBd
          have HBd' := Lib.hid hBd'
          have s1 : (m : Int) < (LL.length : Int) := by omega
          have s2 : (0 : Int) ≤ (m : Int) := by omega
          have s3 : (B : Int) + (c.length : Int) = (B' : Int) := by omega
          have g1 := IntWalk.i64_in (B' : Int) (by omega)
          have g2 := IntWalk.i64_in ((m : Int) + 1) (by omega)
          have hbd1 := hbd.1
          clear hB hK hz hw hp4 hc hcm hcu hBd hBd' d00 htne
          by_cases hend : i < B'
          · have s4 : (B' : Int) > (i : Int) := by omega
            have HEn := Lib.hid (endsTo_eq (R := R) (s := s) (k := m) (i := i) hbd1 (by rw [← HBd.out]; exact hbi) (by rw [← HBd'.out]; exact hend))
            go_upto_region 24 with fail
            have f0 := row_warm HZm.out 0
            have f1 := row_warm HZm.out 1
            have f2 := row_warm HZm.out 2
            have f3 := row_warm HZm.out 3
            have f4 := row_warm HZm.out 4
            have z0 := row_cells (i := 0) HZm.out rfl
            have z1 := row_cells (i := 1) HZm.out rfl
            have z2 := row_cells (i := 2) HZm.out rfl
            have z3 := row_cells (i := 3) HZm.out rfl
            have z4 := row_cells (i := 4) HZm.out rfl
            have y0 := row_cells (i := 0) HWm.out rfl
            have y1 := row_cells (i := 1) HWm.out rfl
            have y2 := row_cells (i := 2) HWm.out rfl
            have y3 := row_cells (i := 3) HWm.out rfl
            have y4 := row_cells (i := 4) HWm.out rfl
            have HPL := Lib.hid (show PL R s i = ((i : Int), p1, p2, p3, p4) by
              unfold PL
              rw [HEn.out, ← HP4.out, ← hki, HP1.out, HP2.out, HP3.out])
            go_wp2_with fail
            refine ret_cell1 (ad := ⟨h, 0, none⟩) rfl rfl (run_pos2 (x0 := (i : Int)) (x1 := p1) (x2 := p2) (x3 := p3) (x4 := p4) (by go_simp) (by go_simp) (by go_simp) (by go_simp) (by go_simp)) rfl ⟨by rw [HPL.out]; rfl, ?_⟩
            have hBf := HBm.out
            rw [HH.out] at hBf ⊢
            exact ((((hBf.setCell (Nat.le_refl _) _).setCell (Nat.le_refl _) _).setCell (Nat.le_refl _) _).setCell (Nat.le_refl _) _).setCell (Nat.le_refl _) _
          · have s4 : decide ((B' : Int) > (i : Int)) = false := decide_eq_false (by omega)
            have hgl := glOf_le R c
            have HGof := Lib.hid (rgof_any (HR.out.below HBm.out) HCu.out HOkc.out (by omega))
            have HGo := Lib.hid (show ∀ g ∈ glOf R c, g.2 = 1 ∨ g.2 = 2 from fun g hg => (lineG_ok R (LL := [c]) g (by simpa [lineG] using hg)).1)
            have HCt := Lib.hid (show colsTo R s (m + 1) = colsTo R s m + wdG (glOf R c) from colsTo_succ R (by rw [← HLL.out]; exact HC.out))
            have hp4r : 0 ≤ p4 ∧ p4 ≤ 4 * s.length := by
              have h1 := HP4.out
              have h2 := wdG_rng (L := lineG R ((clus (tabOf R) s).take m)) (fun g hg => (lineG_ok R g hg).1)
              have h3 := lineG_take_le R s m
              have h4 : p4 = wdG (lineG R ((clus (tabOf R) s).take m)) := h1
              omega
            have HP4r := Lib.hid hp4r
            obtain ⟨G, hG⟩ : ∃ G, G = glOf R c := ⟨_, rfl⟩
            rw [← hG] at HGof HGo HCt hgl
            clear hG hp4r
            go_wp2_with fail
            refine HGof.out.mono ?_
            rintro e w6 ⟨gu, rfl, hB6, hG6⟩
            have HG6 := Lib.hid hG6
            obtain ⟨ga, gc, rfl, hg1, hg2⟩ := gly_shape hG6
            unfold maxLen at hg2
            have HK6 := Lib.hid (HKm.out.trans (Kept.of_below hB6))
            have HZ6 := Lib.hid ((hB6.block _ (row_len HZm.out)).trans HZm.out)
            have HW6 := Lib.hid ((hB6.block _ (row_len HWm.out)).trans HWm.out)
            have HB6 := Lib.hid (below_trans' HBm.out hB6)
            clear hB6 hG6 HGof HBm HKm HZm HWm d0
            go_wp2_with fail
            go_loopw [13] (fun nv wr2 => ∃ (q : Nat) (P4 : Int), q ≤ G.length ∧ nv = .int .i64 ((q : Nat) : Int) ∧ Below w.heap.size w wr2 ∧ Kept (fun j => j = h + 1) w5 wr2 ∧ Kept (fun j => j = h + 1) w6 wr2 ∧ wr2.heap[h]? = some (.cells #[.int .i64 0, .int .i64 0, .int .i64 0, .int .i64 0, .int .i64 0] 45 (0, 0)) ∧ wr2.heap[h + 1]? = some (.cells #[.int .i64 (i : Int), .int .i64 p1, .int .i64 p2, .int .i64 p3, .int .i64 P4] 45 (0, 0)) ∧ P4 = p4 + wdG (G.take q)) (fun nv _ => G.length - (intOf nv).toNat)
            case atStart => exact ⟨0, p4, Nat.zero_le _, rfl, HB6.out, HK6.out, Kept.refl _ _, HZ6.out, HW6.out, by simp [wdG]⟩
            case round =>
              obtain ⟨q, P4, hq, rfl, hB, hK, hK2, hz, hw, hP4⟩ := hrel
              have HBq := Lib.hid hB
              have HKq := Lib.hid hK
              have HKq2 := Lib.hid hK2
              have HZq := Lib.hid hz
              have HWq := Lib.hid hw
              have hwr := wdG_rng (L := G.take q) (fun g hg => HGo.out g (List.mem_of_mem_take hg))
              rw [List.length_take] at hwr
              have hp4r := HP4r.out
              by_cases hlt : q < G.length
              · obtain ⟨y, hy⟩ : ∃ y, G[q]? = some y := ⟨G[q], List.getElem?_eq_getElem hlt⟩
                have hyo := HGo.out y (List.mem_of_getElem? hy)
                have HN := Lib.hid (show wdG (G.take (q + 1)) = wdG (G.take q) + y.2 by rw [take_snoc hy, wdG_app, wdG_one])
                have HPq := Lib.hid hP4
                obtain ⟨y1, y2⟩ := y
                have hy2 : y2 = 1 ∨ y2 = 2 := hyo
                obtain ⟨gb, goff, gcap, hv, hgb, hgne, d0, d1⟩ := gly_apart HG6.out HW6.out (int5_all ((i : Int), p1, p2, p3, p4)) hy
                cases hv
                have d0 := hK2.cell d0 hgne
                have d1 := hK2.cell d1 hgne
                have c4 := row_cells (i := 4) hw rfl
                have f4 := row_warm hw 4
                have e2 := IntWalk.i64_in (P4 + y2) (by omega)
                have e3 := IntWalk.i64_in ((q : Int) + 1) (by omega)
                have s5 : (q : Int) < (G.length : Int) := by omega
                have s6 : (0 : Int) ≤ (q : Int) := by omega
                clear hB hK hK2 hz hw hP4 hy hyo hwr hlt
                go_upto_region 23 with fail
                refine wp_region_held_drew (S := fun w' => w'.cell? ⟨gb, goff + q * 2 + 1, none⟩ = some (.int .i64 y2)) (by kernel_rfl) d1 (fun hHeld => ?_)
                refine hd_take 0 rfl (by kernel_rfl) (by kernel_rfl) (by kernel_rfl) (fun _ _ _ h => h) (by rfl) (by intro w hSw; (try dsimp only at hSw); go_simp; first | done | with_reducible rfl) hHeld ?_
                try simp only [Act.put, List.setIfInBounds_toArray, List.set_cons_zero, List.set_cons_succ]
                refine hd_take 2 rfl (by kernel_rfl) (by kernel_rfl) (by kernel_rfl) (fun _ _ _ h => h) (by rfl) (by intro w hSw; (try dsimp only at hSw); go_simp; first | done | with_reducible rfl) hHeld ?_
                try simp only [Act.put, List.setIfInBounds_toArray, List.set_cons_zero, List.set_cons_succ]
                refine hd_take 3 rfl (by kernel_rfl) (by kernel_rfl) (by kernel_rfl) (fun _ _ _ h => h) (by rfl) (by intro w hSw; (try dsimp only at hSw); go_simp; first | done | with_reducible rfl) hHeld ?_
                try simp only [Act.put, List.setIfInBounds_toArray, List.set_cons_zero, List.set_cons_succ]
                refine hd_take 4 rfl (by kernel_rfl) (by kernel_rfl) (by kernel_rfl) (fun _ _ _ h => h) (by rfl) (by intro w hSw; (try dsimp only at hSw); go_simp; first | done | with_reducible rfl) hHeld ?_
                try simp only [Act.put, List.setIfInBounds_toArray, List.set_cons_zero, List.set_cons_succ]
                refine hd_take 5 rfl (by kernel_rfl) (by kernel_rfl) (by kernel_rfl) (fun _ _ _ h => h) (by rfl) (by intro w hSw; (try dsimp only at hSw); go_simp; first | done | with_reducible rfl) hHeld ?_
                try simp only [Act.put, List.setIfInBounds_toArray, List.set_cons_zero, List.set_cons_succ]
                refine hd_take 6 rfl (by kernel_rfl) (by kernel_rfl) (by kernel_rfl) (fun _ _ _ h => h) (by rfl) (by intro w hSw; (try dsimp only at hSw); go_simp; first | done | with_reducible rfl) hHeld ?_
                try simp only [Act.put, List.setIfInBounds_toArray, List.set_cons_zero, List.set_cons_succ]
                refine hd_step 1 (by kernel_rfl) rfl (fun K hK => ?_)
                go_simp
                refine hK.out _ _ d1 (fun hHeld => ?_)
                clear hK K
                try simp only [Act.put, List.setIfInBounds_toArray, List.set_cons_zero, List.set_cons_succ]
                refine hd_step 7 (by kernel_rfl) rfl (fun K hK => ?_)
                go_simp
                refine hK.out _ _ d1 (fun hHeld => ?_)
                clear hK K
                try simp only [Act.put, List.setIfInBounds_toArray, List.set_cons_zero, List.set_cons_succ]
                refine hd_take 8 rfl (by kernel_rfl) (by kernel_rfl) (by kernel_rfl) (fun _ _ _ h => h) (by rfl) (by intro w hSw; (try dsimp only at hSw); go_simp; first | done | with_reducible rfl) hHeld ?_
                try simp only [Act.put, List.setIfInBounds_toArray, List.set_cons_zero, List.set_cons_succ]
                refine hd_step 9 (by kernel_rfl) rfl (fun K hK => ?_)
                go_simp
                refine hK.out _ _ ((World.cell?_setCell_other _ _ _ _ (fun e => by injection e with e1; exact hgne e1.symm)).trans d1) (fun hHeld => ?_)
                clear hK K
                try simp only [Act.put, List.setIfInBounds_toArray, List.set_cons_zero, List.set_cons_succ]
                refine wpAnyH_done (by kernel_rfl) ?_ _
                have HB7 := Lib.hid (below_dN (HBq.out.setCell (p := ⟨h + 1, 4, none⟩) (by rw [HH.out]; simp) (Value.int .i64 (P4 + y2))) 1)
                have HK7 := Lib.hid ((HKq.out.trans (kept_setCell wr ⟨h + 1, 4, none⟩ (Value.int .i64 (P4 + y2)) rfl)).trans (Kept.of_below (below_dN (Below.refl _ _) 1)))
                have HK72 := Lib.hid ((HKq2.out.trans (kept_setCell wr ⟨h + 1, 4, none⟩ (Value.int .i64 (P4 + y2)) rfl)).trans (Kept.of_below (below_dN (Below.refl _ _) 1)))
                have HZ7 := Lib.hid (show ((wr.setCell ⟨h + 1, 4, none⟩ (Value.int .i64 (P4 + y2))).drewN 1).heap[h]? = _ from row_far HZq.out (by omega))
                have HW7 := Lib.hid (show ((wr.setCell ⟨h + 1, 4, none⟩ (Value.int .i64 (P4 + y2))).drewN 1).heap[h + 1]? = _ from heap_setCell_same _ (h + 1) 4 _ _ (Value.int .i64 (P4 + y2)) HWq.out)
                rw [show (wr.setCell ⟨h + 1, 4, none⟩ (Value.int .i64 (P4 + y2))).drew = (wr.setCell ⟨h + 1, 4, none⟩ (Value.int .i64 (P4 + y2))).drewN 1 from rfl]
                generalize (wr.setCell ⟨h + 1, 4, none⟩ (Value.int .i64 (P4 + y2))).drewN 1 = w7 at HB7 HK7 HK72 HZ7 HW7 ⊢
                clear hHeld d0 d1 c4 f4 HBq HKq HKq2 HZq HWq
                go_wp2_with fail
                go_roundw
                case rel => exact ⟨q + 1, P4 + y2, by omega, by go_num, HB7.out, HK7.out, HK72.out, HZ7.out, HW7.out, by rw [HN.out, HPq.out]; simp [Int.add_assoc]⟩
                case measure => simp [intOf] <;> omega
              · have hqe : q = G.length := by omega
                subst hqe
                rw [List.take_length] at hP4
                have s5 : decide ((G.length : Int) < (G.length : Int)) = false := by simp
                have HPe := Lib.hid (show P4 = colsTo R s (m + 1) by rw [hP4, HCt.out, ← HP4.out])
                clear hB hK hK2 hz hw hP4 hlt hwr
                go_wp2_with fail
                go_roundw
                case rel => exact ⟨m + 1, P4, by omega, by rw [← HBd'.out], by go_num, HBq.out, HKq.out, HZq.out, HWq.out, HPe.out, by rw [← HBd'.out]; omega⟩
                case measure => simp [intOf] <;> omega
        · have hme : m = LL.length := by omega
          subst hme
          have hbe : bd (starts (tabOf R) s) s.length LL.length = s.length := by
            rw [HLL.out, ← starts_clus HTk.out]; exact bd_end
          rw [hbe] at hbi
          have hie : i = s.length := by omega
          have HEn := Lib.hid (show endsTo (tabOf R) s i = LL.length by rw [hie, endsTo_end, HLL.out])
          have s1 : decide ((LL.length : Int) < (LL.length : Int)) = false := by simp
          clear hlt hB hK hz hw hp4
          have f0 := row_warm HZm.out 0
          have f1 := row_warm HZm.out 1
          have f2 := row_warm HZm.out 2
          have f3 := row_warm HZm.out 3
          have f4 := row_warm HZm.out 4
          have z0 := row_cells (i := 0) HZm.out rfl
          have z1 := row_cells (i := 1) HZm.out rfl
          have z2 := row_cells (i := 2) HZm.out rfl
          have z3 := row_cells (i := 3) HZm.out rfl
          have z4 := row_cells (i := 4) HZm.out rfl
          have y0 := row_cells (i := 0) HWm.out rfl
          have y1 := row_cells (i := 1) HWm.out rfl
          have y2 := row_cells (i := 2) HWm.out rfl
          have y3 := row_cells (i := 3) HWm.out rfl
          have y4 := row_cells (i := 4) HWm.out rfl
          have HPL := Lib.hid (show PL R s i = ((i : Int), p1, p2, p3, p4) by
            unfold PL
            rw [HEn.out, ← HP4.out, ← hki, HP1.out, HP2.out, HP3.out])
          go_wp2_with fail
          refine ret_cell1 (ad := ⟨h, 0, none⟩) rfl rfl (run_pos2 (x0 := (i : Int)) (x1 := p1) (x2 := p2) (x3 := p3) (x4 := p4) (by go_simp) (by go_simp) (by go_simp) (by go_simp) (by go_simp)) rfl ⟨by rw [HPL.out]; rfl, ?_⟩
          have hBf := HBm.out
          rw [HH.out] at hBf ⊢
          exact ((((hBf.setCell (Nat.le_refl _) _).setCell (Nat.le_refl _) _).setCell (Nat.le_refl _) _).setCell (Nat.le_refl _) _).setCell (Nat.le_refl _) _
end
end Go.Proofs.YtblajooebmjfoaaGreat

/- The document's places: All. -/
namespace Go.Proofs.YtblajooebmjfoaaGreat
open Go.RowKit

theorem EP5 : ElemT Tryz.prog 43 45 5 40 := elemT_of (by kernel_rfl) (z := .agg #[.int .i64 0, .int .i64 0, .int .i64 0, .int .i64 0, .int .i64 0]) (by kernel_rfl) rfl (by decide) (by decide)
section
variable {R : List Rw} {s : List Int} {w : World} {v sv : Value}
set_option maxRecDepth 100000 in
set_option maxHeartbeats 4000000 in
theorem rall_any (H : (tabOf R).Ok) (hR : RowsIn w v R) (hs : RunesIn w sv s) (ok : RunesOk s) (hl : s.length ≤ 100000) :
    Calls Tryz.prog 20 #[v, sv] w fun e w' => ∃ u, e = .returned u ∧ Below w.heap.size w w' ∧ PsIn w' u (PLs R s) := by
  have HR := Lib.hid hR
  have HS := Lib.hid hs
  have HPos := Lib.hid (fun (W : World) (h1 : RowsIn W v R) (h2 : RunesIn W sv s) (k : Nat) (hk : k ≤ s.length) => rpos_any (w := W) H h1 h2 ok hl hk)
  obtain ⟨sl, cap, rfl, hcap, hmax, _⟩ := runes_cells hs
  unfold maxLen at hmax
  clear hR hs ok H
  go_enter Tryz.func20, Tryz.ntmps20
  go_wp2_with fail
  go_loopw [5, 6] (fun ov iv wr => ∃ (k : Nat) (L : List Ps), k ≤ s.length + 1 ∧ iv = .int .i64 ((k : Nat) : Int) ∧ Below w.heap.size w wr ∧ wr.ownsRow w.heap.size 45 5 ov L.length (L.flatMap psE) ∧ L = (PLs R s).take k) (fun _ iv _ => s.length + 1 - (intOf iv).toNat)
  case atStart => exact ⟨0, [], Nat.zero_le _, rfl, .refl _ _, World.ownsRow_nil _ _ _ _, rfl⟩
  case round =>
    obtain ⟨k, L, hk, rfl, hB, hO, hL⟩ := hrel
    have HB := Lib.hid hB
    have HO := Lib.hid hO
    have HL := Lib.hid hL
    have hLl : L.length = k := by rw [hL]; exact PLs_take_len hk
    obtain ⟨pa, pc, rfl⟩ := slice_of_owns hO
    by_cases hlt : k ≤ s.length
    · have HCall := Lib.hid (HPos.out wr (HR.out.below hB) (HS.out.below hB) k hlt)
      have s0 : (k : Int) ≤ (s.length : Int) := by omega
      have e1 := IntWalk.i64_in ((k : Int) + 1) (by omega)
      have HLn := Lib.hid (show L ++ [PL R s k] = (PLs R s).take (k + 1) by rw [PLs_take hlt, hL])
      have hbig : (L.length + 1) * 40 ≤ 140737488355328 := by omega
      generalize PL R s k = p at HCall HLn
      obtain ⟨p0, p1, p2, p3, p4⟩ := p
      unfold psV at HCall
      have HLl := Lib.hid hLl
      clear hB hO hL hLl
      go_wp2_with fail
      refine HCall.out.mono ?_
      rintro e w1 ⟨rfl, hB1⟩
      have hbs := Nat.le_trans HB.out.size hB1.size
      have HB1 := Lib.hid (below_trans' HB.out hB1)
      have HO1 := Lib.hid (owns_stays HO.out hB1)
      clear hB1 HB HO HCall
      go_wp2_with (at_builtin; go_loud (refine wpList_app1 _ rfl (.tmp 13) (.tmp 18) _ rfl EP5 _ _ _ rfl HO1.out 1 1 (psE (p0, p1, p2, p3, p4)) rfl (by decide) rfl (psE_one _) hbig hbs ?_); intro g cp7 w7 ho7 hg7 hf7; have HB7 := Lib.hid (below_app HB1.out hbs HO1.out (Nat.le_refl _) hg7); have HO7 := Lib.hid ho7; clear ho7 hg7 hf7)
      go_roundw
      case rel => exact ⟨k + 1, L ++ [(p0, p1, p2, p3, p4)], by omega, by go_num, HB7.out, by rw [List.length_append, flat_snoc]; exact HO7.out, HLn.out⟩
      case measure => simp [intOf] <;> omega
    · have hke : k = s.length + 1 := by omega
      have s0 : decide ((k : Int) ≤ (s.length : Int)) = false := decide_eq_false (by omega)
      have HE := Lib.hid (show L = PLs R s by rw [hL, hke]; exact List.take_of_length_le (by rw [PLs_len]; exact Nat.le_refl _))
      clear hB hO hL hlt
      go_wp2_with fail
      go_ret
      exact ⟨_, rfl, HB.out, by rw [← HE.out]; exact rd_of_owns HO.out⟩
end
end Go.Proofs.YtblajooebmjfoaaGreat

/- UnitsTurns: its walk. -/
namespace Go.Proofs.YtblajooebmjfoaaGreat
open Go.RowKit

set_option maxRecDepth 100000 in
set_option maxHeartbeats 8000000 in
theorem unitsTurns_any (v0 : Value) (l0 : List Int) (f n t : Int) (w : World) (hl : RunesIn w v0 l0) (hok : RunesOk l0) :
    Calls Tryz.prog 5 #[v0, .int .i64 f, .int .i64 n, .int .i64 t] w fun e w' => e = .returned (.bool true) ∧ Below w.heap.size w w' := by
  obtain ⟨R, HFc, hrows⟩ := apiRows_any
  have HF := Lib.hid HFc
  have HRows := Lib.hid hrows
  have HTk := Lib.hid HFc.seg.tab
  have HFew := Lib.hid (few_any hl 40)
  clear HFc hrows hl
  obtain ⟨l, hll⟩ : ∃ l, l = l0.take 40 := ⟨_, rfl⟩
  rw [← hll] at HFew
  have HOk := Lib.hid (show RunesOk l by rw [hll]; exact hok.take 40)
  have hlen : l.length ≤ 40 := by rw [hll, List.length_take]; omega
  clear hll hok
  go_enter Tryz.func5, Tryz.ntmps5
  go_wp2_with fail
  refine HFew.out.mono ?_
  rintro e w' ⟨⟨sv, rfl, hS⟩, rfl⟩
  have HS := Lib.hid hS
  obtain ⟨sl, cap, rfl, _, _, _⟩ := runes_cells hS
  clear hS HFew
  go_wp2_with fail
  refine (HRows.out w).mono ?_
  rintro e w1 ⟨v, rfl, hB1, hR1⟩
  have HB1 := Lib.hid hB1
  have HR1 := Lib.hid hR1
  have HS1 := Lib.hid (HS.out.below hB1)
  clear hB1 hR1 HS
  go_wp2_with fail
  refine (build_tb v R w1 HR1.out HF.out.ok).mono ?_
  rintro e w2 ⟨tp, rfl, hB2, hT⟩
  have HT2 := Lib.hid hT
  have HR2 := Lib.hid (HR1.out.below hB2)
  have HS2 := Lib.hid (HS1.out.below hB2)
  have HB2 := Lib.hid (below_trans' HB1.out hB2)
  clear hB2 hT HB1 HR1 HS1
  go_wp2_with fail
  refine (uof_any HTk.out HT2.out HS2.out HOk.out (by omega)).mono ?_
  rintro e w3 ⟨u, rfl, hB3, hM⟩
  have HPw := Lib.hid (PLs_mono (s := l) HTk.out)
  have hLl : (PLs R l).length ≤ 1114112 := by rw [PLs_len]; omega
  have HZ0 := Lib.hid (show (PLs R l)[0]? = some noP by rw [PLs_get (Nat.zero_le _), PL_zero])
  have HAll := Lib.hid (fun (W : World) (h1 : RowsIn W v R) (h2 : RunesIn W (.slice sl l.length cap) l) => rall_any HTk.out h1 h2 HOk.out (by omega))
  generalize PLs R l = L at hM HPw hLl HZ0 HAll
  have HM3 := Lib.hid hM
  have HR3 := Lib.hid (HR2.out.below hB3)
  have HS3 := Lib.hid (HS2.out.below hB3)
  have HB3 := Lib.hid (below_trans' HB2.out hB3)
  clear hM hB3 HB2 HR2 HS2 HT2
  go_wp2_with fail
  refine (uturn_any f n t HM3.out HPw.out hLl).mono ?_
  rintro e w4 ⟨rfl, hB4⟩
  have HR4 := Lib.hid (HR3.out.below hB4)
  have HS4 := Lib.hid (HS3.out.below hB4)
  have HB4 := Lib.hid (below_trans' HB3.out hB4)
  clear hB4 HB3 HR3 HS3 HM3
  go_wp2_with fail
  refine (HAll.out w4 HR4.out HS4.out).mono ?_
  rintro e w5 ⟨au, rfl, hB5, hA⟩
  have HB5 := Lib.hid (below_trans' HB4.out hB5)
  clear hB5 HB4 HR4 HS4 HAll
  go_wp2_with fail
  refine (rat_any f n hA HPw.out HZ0.out hLl).mono ?_
  rintro e w6 ⟨rfl, hB6⟩
  have HB6 := Lib.hid (below_trans' HB5.out hB6)
  obtain ⟨p, hp⟩ : ∃ p, p = atP L f n := ⟨_, rfl⟩
  obtain ⟨kn, hkn⟩ : ∃ kn, kn = turnN L f n t := ⟨_, rfl⟩
  have HKn := Lib.hid (show kn = if kindOk f = true ∧ kindOk t = true then psN p t.toNat else 0 by rw [hkn, hp]; rfl)
  rw [← hp, ← hkn]
  obtain ⟨p0, p1, p2, p3, p4⟩ := p
  unfold psV
  have hb7 := below1 w6 (.cells #[.int .i64 p0, .int .i64 p1, .int .i64 p2, .int .i64 p3, .int .i64 p4] 45)
  have HRw := Lib.hid (heap_alloc_new w6 (.cells #[.int .i64 p0, .int .i64 p1, .int .i64 p2, .int .i64 p3, .int .i64 p4] 45))
  have HB7 := Lib.hid (below_trans' HB6.out hb7)
  clear hA hB6 HB5 hb7 HB6 hp hkn HPw HZ0 hLl
  rcases kind_cases f with ⟨_, k3⟩ | ⟨_, k3⟩ | ⟨_, k3⟩
  all_goals rcases kind_cases t with ⟨⟨t2, t3⟩, t4⟩ | ⟨t2, t4⟩ | ⟨⟨t2, t3⟩, t4⟩
  all_goals
    have hkv := HKn.out
    rw [k3, t4] at hkv
  case inl.inl =>
    rw [show (kindOk f && kindOk t) = true by rw [k3, t4]; rfl, k3]
    obtain ⟨k, rfl⟩ : ∃ k : Nat, t = (k : Int) := ⟨t.toNat, by omega⟩
    rw [if_pos ⟨rfl, rfl⟩] at hkv
    have c1 := row_cells HRw.out (psV_at (p0, p1, p2, p3, p4) (k := k) (by omega))
    have hkv : kn = psN (p0, p1, p2, p3, p4) k := hkv
    rw [← hkv] at c1
    have q1 : decide ((k : Int) < 0) = false := decide_eq_false (by omega)
    have q2 : decide ((k : Int) > 4) = false := decide_eq_false (by omega)
    have s3 : (k : Int) < 5 := by omega
    clear hkv k3 t4 t3 t2
    go_wp2_with fail
    refine (fin41 HB7.out).mono ?_
    rintro e w8 ⟨rfl, hB8⟩
    go_wp2_with fail
    go_ret
    exact ⟨rfl, hB8⟩
  all_goals
    rw [if_neg (by decide)] at hkv
    rw [show (kindOk f && kindOk t) = false by rw [k3, t4]; rfl, k3]
    subst hkv
    try have q1 : decide (t < 0) = false := decide_eq_false (by omega)
    try have q2 : t > 4 := by rw [decide_eq_false_iff_not] at t3; omega
    clear k3 t4
    go_wp2_with fail
    refine (fin41 HB7.out).mono ?_
    rintro e w8 ⟨rfl, hB8⟩
    go_wp2_with fail
    go_ret
    exact ⟨rfl, hB8⟩
end Go.Proofs.YtblajooebmjfoaaGreat
