/- Joined texts: IdxS UnitA UnitM UnitC UnitD. -/
import Derived.Test.YthlpelfogplomaaGreatZbac
import Derived.Test.YthlpelfogplomaaGreatZeaa
import Derived.Test.YthlpelfogplomaaGreatZcab
import Derived.Test.YthlpelfogplomaaGreatZaaa
/- seg.Starts once more: what it makes is its own (starts_any of SegE tells only that it reads so). -/
namespace Go.Proofs.YthlpelfogplomaaGreat
open Go.RowKit

section
variable {R : List Rw} {s : List Int} {w : World} {sv : Value} {tp : Nat}
set_option maxRecDepth 100000 in
set_option maxHeartbeats 8000000 in
theorem starts_own (H : (tabOf R).Ok) (hT : Tb R w tp) (hs : RunesIn w sv s) (ok : RunesOk s) (hl : s.length ≤ 1000000) :
    Calls Tryz.prog 69 #[.pointer (some ⟨tp, 0, none⟩), sv] w fun e w' => ∃ u, e = .returned u ∧ Below w.heap.size w w' ∧ w'.ownsRow w.heap.size 3 1 u (starts (tabOf R) s).length ((starts (tabOf R) s).flatMap nE) := by
  have HT := Lib.hid hT
  have HS := Lib.hid hs
  have HOk := Lib.hid ok
  have HSt := Lib.hid (starts_of H s)
  obtain ⟨sl, cap, rfl, hcap, hmax, _⟩ := runes_cells hs
  unfold maxLen at hmax
  have hW := (Below.refl w.heap.size w).alloc (Nat.le_refl _) (.cells #[.bool false, .int .i64 0, .int .i64 0, .int .i64 0, .bool false] 205)
  have hR0 : stRow (w.alloc (.cells #[.bool false, .int .i64 0, .int .i64 0, .int .i64 0, .bool false] 205)) w.heap.size St0 := heap_alloc_new w _
  have HW := Lib.hid hW
  have HR0 := Lib.hid hR0
  clear hT hs ok hW hR0
  go_enter Tryz.func69, Tryz.ntmps69
  go_wp2_with fail
  go_loopw [6, 13] (fun ov iv wr => ∃ (k : Nat) (L : List Nat) (st : St), k ≤ s.length ∧ L.length ≤ k ∧ iv = .int .i64 ((k : Nat) : Int) ∧ Below w.heap.size w wr ∧ wr.ownsRow (w.heap.size + 1) 3 1 ov L.length (L.flatMap nE) ∧ stRow wr w.heap.size st ∧ L ++ startsF (tabOf R) st k (s.drop k) = starts (tabOf R) s) (fun _ iv _ => s.length - (intOf iv).toNat)
  case atStart => exact ⟨0, [], St0, Nat.zero_le _, Nat.le_refl _, rfl, HW.out, World.ownsRow_nil _ _ _ _, HR0.out, HSt.out⟩
  case round =>
    obtain ⟨k, L, st, hk, hLk, rfl, hB, hO, hR, hE⟩ := hrel
    have HB := Lib.hid hB
    have HE := Lib.hid hE
    have HRr := Lib.hid hR
    obtain ⟨pa, pc, rfl⟩ := slice_of_owns hO
    have HO := Lib.hid hO
    clear hB hO hE
    by_cases hlt : k < s.length
    · obtain ⟨x, hx⟩ : ∃ x, s[k]? = some x := ⟨s[k], List.getElem?_eq_getElem hlt⟩
      have HI := Lib.hid (HOk.out.get hx)
      have HD := Lib.hid (startsF_step (T := tabOf R) (st := st) hx)
      obtain ⟨b0, off, cap', hv, _, _, _, _, d0⟩ := rune_cell (HS.out.below HB.out) hx
      cases hv
      obtain ⟨s0, s1, s2, s3, s4⟩ := st
      have c0 : wr.cell? ⟨w.heap.size, 0, none⟩ = some (.bool s0) := row_cells hR rfl
      have c1 : wr.cell? ⟨w.heap.size, 1, none⟩ = some (.int .i64 s1) := row_cells hR rfl
      have c2 : wr.cell? ⟨w.heap.size, 2, none⟩ = some (.int .i64 s2) := row_cells hR rfl
      have c3 : wr.cell? ⟨w.heap.size, 3, none⟩ = some (.int .i64 s3) := row_cells hR rfl
      have c4 : wr.cell? ⟨w.heap.size, 4, none⟩ = some (.bool s4) := row_cells hR rfl
      have HCall := Lib.hid (step_any ⟨s0, s1, s2, s3, s4⟩ x wr (HT.out.below HB.out) HI.out)
      clear hx hR
      go_wp2_with fail
      refine HCall.out.mono ?_
      rintro e w1 ⟨rfl, hB1⟩
      generalize hn : nextSt (tabOf R) ⟨s0, s1, s2, s3, s4⟩ x = n at HD ⊢
      obtain ⟨n0, n1, n2, n3, n4⟩ := n
      unfold stV
      dsimp only
      have HR1 := Lib.hid (HRr.out.kept hB1)
      have HO1 := Lib.hid (owns_stays HO.out hB1)
      have HB1 := Lib.hid (HB.out.trans (hB1.mono HB.out.size))
      have hsb1 := HR1.out.lt
      clear hn hB1 HRr HO HB c0 c1 c2 c3 c4 d0
      cases hc : cutB (tabOf R) ⟨s0, s1, s2, s3, s4⟩ x with
      | true =>
        have HN := Lib.hid (show (L ++ [k]) ++ startsF (tabOf R) ⟨n0, n1, n2, n3, n4⟩ (k + 1) (s.drop (k + 1)) = starts (tabOf R) s by rw [← HE.out, HD.out, hc]; simp)
        clear hc
        have HOa := Lib.hid (World.ownsRow.alloc HO1.out (.cells #[.bool n0, .int .i64 n1, .int .i64 n2, .int .i64 n3, .bool n4] 205))
        have HBa := Lib.hid (HB1.out.alloc HB1.out.size (.cells #[.bool n0, .int .i64 n1, .int .i64 n2, .int .i64 n3, .bool n4] 205))
        have hbl : w.heap.size + 1 ≤ (w1.alloc (.cells #[.bool n0, .int .i64 n1, .int .i64 n2, .int .i64 n3, .bool n4] 205)).heap.size := by simp; omega
        have HNr := Lib.hid (show stRow (w1.alloc (.cells #[.bool n0, .int .i64 n1, .int .i64 n2, .int .i64 n3, .bool n4] 205)) w1.heap.size ⟨n0, n1, n2, n3, n4⟩ from heap_alloc_new w1 _)
        have HSr := Lib.hid (show stRow (w1.alloc (.cells #[.bool n0, .int .i64 n1, .int .i64 n2, .int .i64 n3, .bool n4] 205)) w.heap.size ⟨s0, s1, s2, s3, s4⟩ from (Below.heap_alloc _ _ _ hsb1).trans HR1.out)
        have HSz := Lib.hid (show (w1.alloc (.cells #[.bool n0, .int .i64 n1, .int .i64 n2, .int .i64 n3, .bool n4] 205)).heap.size = w1.heap.size + 1 by simp)
        go_wp2_with (at_builtin; refine wpList_app1 _ rfl (.tmp 26) (.tmp 28) _ rfl EI _ _ _ rfl HOa.out 1 1 (nE k) (by rw [HSz.out]; rfl) (by decide) rfl (nE_one k) (by omega) hbl ?_; intro g cap w7 ho7 hg7 hf7; have HB2 := Lib.hid (below_app HBa.out HBa.out.size HOa.out (by omega) hg7); have hS7 : stRow w7 w.heap.size ⟨s0, s1, s2, s3, s4⟩ := (hg7.block _ (HSr.out.lt) (fun e => by have := (HOa.out.lt _ e.symm).1; omega)).trans HSr.out; have hN7 : stRow w7 w1.heap.size ⟨n0, n1, n2, n3, n4⟩ := (hg7.block _ (HNr.out.lt) (fun e => by have := (HO1.out.lt _ e.symm).2; omega)).trans HNr.out; have HO2 := Lib.hid ho7; have e0 : w7.cell? ⟨w1.heap.size, 0, none⟩ = some (.bool n0) := row_cells hN7 rfl; have e1 : w7.cell? ⟨w1.heap.size, 1, none⟩ = some (.int .i64 n1) := row_cells hN7 rfl; have e2 : w7.cell? ⟨w1.heap.size, 2, none⟩ = some (.int .i64 n2) := row_cells hN7 rfl; have e3 : w7.cell? ⟨w1.heap.size, 3, none⟩ = some (.int .i64 n3) := row_cells hN7 rfl; have e4 : w7.cell? ⟨w1.heap.size, 4, none⟩ = some (.bool n4) := row_cells hN7 rfl; have c0 : w7.cell? ⟨w.heap.size, 0, none⟩ = some (.bool s0) := row_cells hS7 rfl; have c1 : w7.cell? ⟨w.heap.size, 1, none⟩ = some (.int .i64 s1) := row_cells hS7 rfl; have c2 : w7.cell? ⟨w.heap.size, 2, none⟩ = some (.int .i64 s2) := row_cells hS7 rfl; have c3 : w7.cell? ⟨w.heap.size, 3, none⟩ = some (.int .i64 s3) := row_cells hS7 rfl; have c4 : w7.cell? ⟨w.heap.size, 4, none⟩ = some (.bool s4) := row_cells hS7 rfl; have y0 := row_warm hS7 0; have y1 := row_warm hS7 1; have y2 := row_warm hS7 2; have y3 := row_warm hS7 3; have y4 := row_warm hS7 4; have HS7 := Lib.hid hS7; clear ho7 hg7 hf7 hS7 hN7)
        go_wp2_with fail
        go_roundw
        case rel => exact ⟨k + 1, L ++ [k], ⟨n0, n1, n2, n3, n4⟩, by omega, by simp; omega, by go_num, ((((HB2.out.setCell (Nat.le_refl _) _).setCell (Nat.le_refl _) _).setCell (Nat.le_refl _) _).setCell (Nat.le_refl _) _).setCell (Nat.le_refl _) _, by
                      have ho := owns_store (owns_store (owns_store (owns_store (owns_store HO2.out (b := w.heap.size) (i := 0) (u := .bool n0) (by omega)) (b := w.heap.size) (i := 1) (u := .int .i64 n1) (by omega)) (b := w.heap.size) (i := 2) (u := .int .i64 n2) (by omega)) (b := w.heap.size) (i := 3) (u := .int .i64 n3) (by omega)) (b := w.heap.size) (i := 4) (u := .bool n4) (by omega)
                      rw [flat_snoc, List.length_append]; exact ho, stRow_set HS7.out ⟨n0, n1, n2, n3, n4⟩, HN.out⟩
        case measure => simp [intOf] <;> omega
      | false =>
        have HN := Lib.hid (show L ++ startsF (tabOf R) ⟨n0, n1, n2, n3, n4⟩ (k + 1) (s.drop (k + 1)) = starts (tabOf R) s by rw [← HE.out, HD.out, hc]; simp)
        clear hc
        have HO2 := Lib.hid (World.ownsRow.alloc HO1.out (.cells #[.bool n0, .int .i64 n1, .int .i64 n2, .int .i64 n3, .bool n4] 205))
        have HB2 := Lib.hid (HB1.out.alloc HB1.out.size (.cells #[.bool n0, .int .i64 n1, .int .i64 n2, .int .i64 n3, .bool n4] 205))
        have hS7 : stRow (w1.alloc (.cells #[.bool n0, .int .i64 n1, .int .i64 n2, .int .i64 n3, .bool n4] 205)) w.heap.size ⟨s0, s1, s2, s3, s4⟩ := (Below.heap_alloc _ _ _ hsb1).trans HR1.out
        have c0 : (w1.alloc (.cells #[.bool n0, .int .i64 n1, .int .i64 n2, .int .i64 n3, .bool n4] 205)).cell? ⟨w.heap.size, 0, none⟩ = some (.bool s0) := row_cells hS7 rfl
        have c1 : (w1.alloc (.cells #[.bool n0, .int .i64 n1, .int .i64 n2, .int .i64 n3, .bool n4] 205)).cell? ⟨w.heap.size, 1, none⟩ = some (.int .i64 s1) := row_cells hS7 rfl
        have c2 : (w1.alloc (.cells #[.bool n0, .int .i64 n1, .int .i64 n2, .int .i64 n3, .bool n4] 205)).cell? ⟨w.heap.size, 2, none⟩ = some (.int .i64 s2) := row_cells hS7 rfl
        have c3 : (w1.alloc (.cells #[.bool n0, .int .i64 n1, .int .i64 n2, .int .i64 n3, .bool n4] 205)).cell? ⟨w.heap.size, 3, none⟩ = some (.int .i64 s3) := row_cells hS7 rfl
        have c4 : (w1.alloc (.cells #[.bool n0, .int .i64 n1, .int .i64 n2, .int .i64 n3, .bool n4] 205)).cell? ⟨w.heap.size, 4, none⟩ = some (.bool s4) := row_cells hS7 rfl
        have y0 := row_warm hS7 0
        have y1 := row_warm hS7 1
        have y2 := row_warm hS7 2
        have y3 := row_warm hS7 3
        have y4 := row_warm hS7 4
        have hN7 : stRow (w1.alloc (.cells #[.bool n0, .int .i64 n1, .int .i64 n2, .int .i64 n3, .bool n4] 205)) w1.heap.size ⟨n0, n1, n2, n3, n4⟩ := heap_alloc_new w1 _
        have e0 : (w1.alloc (.cells #[.bool n0, .int .i64 n1, .int .i64 n2, .int .i64 n3, .bool n4] 205)).cell? ⟨w1.heap.size, 0, none⟩ = some (.bool n0) := row_cells hN7 rfl
        have e1 : (w1.alloc (.cells #[.bool n0, .int .i64 n1, .int .i64 n2, .int .i64 n3, .bool n4] 205)).cell? ⟨w1.heap.size, 1, none⟩ = some (.int .i64 n1) := row_cells hN7 rfl
        have e2 : (w1.alloc (.cells #[.bool n0, .int .i64 n1, .int .i64 n2, .int .i64 n3, .bool n4] 205)).cell? ⟨w1.heap.size, 2, none⟩ = some (.int .i64 n2) := row_cells hN7 rfl
        have e3 : (w1.alloc (.cells #[.bool n0, .int .i64 n1, .int .i64 n2, .int .i64 n3, .bool n4] 205)).cell? ⟨w1.heap.size, 3, none⟩ = some (.int .i64 n3) := row_cells hN7 rfl
        have e4 : (w1.alloc (.cells #[.bool n0, .int .i64 n1, .int .i64 n2, .int .i64 n3, .bool n4] 205)).cell? ⟨w1.heap.size, 4, none⟩ = some (.bool n4) := row_cells hN7 rfl
        go_upto_region 9 with fail
        generalize (w1.alloc (.cells #[.bool n0, .int .i64 n1, .int .i64 n2, .int .i64 n3, .bool n4] 205)) = w7 at HO2 HB2 hS7 e0 e1 e2 e3 e4 c0 c1 c2 c3 c4 y0 y1 y2 y3 y4 ⊢
        have HS7 := Lib.hid hS7
        clear hS7 hN7
        go_wp2_with fail
        go_roundw
        case rel => exact ⟨k + 1, L, ⟨n0, n1, n2, n3, n4⟩, by omega, by omega, by go_num, ((((HB2.out.setCell (Nat.le_refl _) _).setCell (Nat.le_refl _) _).setCell (Nat.le_refl _) _).setCell (Nat.le_refl _) _).setCell (Nat.le_refl _) _,
                      owns_store (owns_store (owns_store (owns_store (owns_store HO2.out (by omega)) (by omega)) (by omega)) (by omega)) (by omega), stRow_set HS7.out ⟨n0, n1, n2, n3, n4⟩, HN.out⟩
        case measure => simp [intOf] <;> omega
    · have hke : k = s.length := by omega
      subst hke
      have HF := Lib.hid (show L = starts (tabOf R) s by rw [← HE.out, List.drop_length]; simp [startsF])
      clear hlt hk
      go_wp2_with fail
      go_ret
      exact ⟨_, rfl, HB.out, by rw [← HF.out]; exact owns_mono HO.out (Nat.le_succ _)⟩
end
end Go.Proofs.YthlpelfogplomaaGreat

/- units.Of: the cells in it. -/
namespace Go.Proofs.YthlpelfogplomaaGreat
open Go.RowKit

theorem EP : ElemT Tryz.prog 117 122 5 40 := elemT_of (by kernel_rfl) (z := .agg #[.int .i64 0, .int .i64 0, .int .i64 0, .int .i64 0, .int .i64 0]) (by kernel_rfl) rfl (by decide) (by decide)
/-- what units.Of keeps in boxes: the result (h), the map (h + 2), p (h + 3), next (h + 4) -/
structure UW (W wr : World) (h : Nat) (mv : Value) (L : List Ps) (p q : Ps) : Prop where
  below : Below h W wr
  hs : h + 5 ≤ wr.heap.size
  r : wr.heap[h]? = some (.cells #[.slice none 0 0] 119 (0, 0))
  pm : wr.heap[h + 2]? = some (.cells #[mv] 119 (0, 0))
  pp : wr.heap[h + 3]? = some (.cells #[.int .i64 p.1, .int .i64 p.2.1, .int .i64 p.2.2.1, .int .i64 p.2.2.2.1, .int .i64 p.2.2.2.2] 122 (0, 0))
  pn : wr.heap[h + 4]? = some (.cells #[.int .i64 q.1, .int .i64 q.2.1, .int .i64 q.2.2.1, .int .i64 q.2.2.2.1, .int .i64 q.2.2.2.2] 122 (0, 0))
  own : wr.ownsRow (h + 1) 122 5 mv L.length (L.flatMap psE)
  sep : ∀ b, mv.ownBlock = some b → b = h + 1 ∨ h + 5 ≤ b
section
variable {W wr wr' : World} {h : Nat} {mv : Value} {L : List Ps} {p q : Ps}
theorem UW.later (H : UW W wr h mv L p q) (hB : Below wr.heap.size wr wr') : UW W wr' h mv L p q :=
  have hs := H.hs
  ⟨H.below.trans (hB.mono (by omega)), Nat.le_trans hs hB.size, (hB.block h (by omega)).trans H.r, (hB.block (h + 2) (by omega)).trans H.pm, (hB.block (h + 3) (by omega)).trans H.pp, (hB.block (h + 4) (by omega)).trans H.pn, owns_stays H.own hB, H.sep⟩
theorem UW.setP (H : UW W wr h mv L p q) (i : Nat) (v : Value) (p' : Ps) (hp : (#[Value.int .i64 p.1, .int .i64 p.2.1, .int .i64 p.2.2.1, .int .i64 p.2.2.2.1, .int .i64 p.2.2.2.2] : Array Value).setIfInBounds i v = #[.int .i64 p'.1, .int .i64 p'.2.1, .int .i64 p'.2.2.1, .int .i64 p'.2.2.2.1, .int .i64 p'.2.2.2.2]) :
    UW W (wr.setCell ⟨h + 3, i, none⟩ v) h mv L p' q := by
  have hg := setCell_grown wr ⟨h + 3, i, none⟩ v
  have hs := H.hs
  refine ⟨H.below.setCell (by show h ≤ h + 3; omega) v, Nat.le_trans hs hg.size, (hg.block h (by omega) (by intro e; cases e)).trans H.r, (hg.block (h + 2) (by omega) (by intro e; simp at e)).trans H.pm, ?_, (hg.block (h + 4) (by omega) (by intro e; simp at e)).trans H.pn, ?_, H.sep⟩
  · rw [← hp]; exact heap_setCell_same _ _ _ _ _ _ H.pp
  · refine H.own.kept hg ?_
    refine .inr fun e => ?_
    rcases H.sep (h + 3) e with h1 | h1 <;> omega
theorem UW.setN (H : UW W wr h mv L p q) (i : Nat) (v : Value) (q' : Ps) (hq : (#[Value.int .i64 q.1, .int .i64 q.2.1, .int .i64 q.2.2.1, .int .i64 q.2.2.2.1, .int .i64 q.2.2.2.2] : Array Value).setIfInBounds i v = #[.int .i64 q'.1, .int .i64 q'.2.1, .int .i64 q'.2.2.1, .int .i64 q'.2.2.2.1, .int .i64 q'.2.2.2.2]) :
    UW W (wr.setCell ⟨h + 4, i, none⟩ v) h mv L p q' := by
  have hg := setCell_grown wr ⟨h + 4, i, none⟩ v
  have hs := H.hs
  refine ⟨H.below.setCell (by show h ≤ h + 4; omega) v, Nat.le_trans hs hg.size, (hg.block h (by omega) (by intro e; cases e)).trans H.r, (hg.block (h + 2) (by omega) (by intro e; simp at e)).trans H.pm, (hg.block (h + 3) (by omega) (by intro e; simp at e)).trans H.pp, ?_, ?_, H.sep⟩
  · rw [← hq]; exact heap_setCell_same _ _ _ _ _ _ H.pn
  · refine H.own.kept hg ?_
    refine .inr fun e => ?_
    rcases H.sep (h + 4) e with h1 | h1 <;> omega
theorem UW.push (H : UW W wr h mv L p q) {w7 : World} {g cap : Nat} {x : Ps} (ho : w7.ownsRow (h + 1) 122 5 (.slice (some ⟨g, 0, none⟩) (L.length + 1) cap) (L.length + 1) (L.flatMap psE ++ psE x)) (hg : wr.grownBy w7 mv.ownBlock) (hf : mv.ownBlock = some g ∨ wr.heap.size ≤ g) :
    UW W (w7.setCell ⟨h + 2, 0, none⟩ (.slice (some ⟨g, 0, none⟩) (L.length + 1) cap)) h (.slice (some ⟨g, 0, none⟩) (L.length + 1) cap) (L ++ [x]) p q := by
  have hs := H.hs
  have hne : ∀ k, k = h ∨ k = h + 2 ∨ k = h + 3 ∨ k = h + 4 → some k ≠ mv.ownBlock := fun k hk e => by
    rcases H.sep k e.symm with h1 | h1 <;> omega
  have hgg : g = h + 1 ∨ h + 5 ≤ g := by
    rcases hf with hf | hf
    · exact H.sep g hf
    · exact .inr (by omega)
  have hg2 := setCell_grown w7 ⟨h + 2, 0, none⟩ (.slice (some ⟨g, 0, none⟩) (L.length + 1) cap)
  have h7 : h + 5 ≤ w7.heap.size := Nat.le_trans hs hg.size
  have hb7 : Below h W w7 := H.below.grown hg (by omega) (fun k e => by rcases H.sep k e with h1 | h1 <;> omega)
  refine ⟨hb7.setCell (by show h ≤ h + 2; omega) _, Nat.le_trans h7 hg2.size, ?_, ?_, ?_, ?_, ?_, fun b e => ?_⟩
  · exact (hg2.block h (by omega) (by intro e; simp at e)).trans ((hg.block h (by omega) (fun e => hne h (.inl rfl) e)).trans H.r)
  · exact heap_setCell_same _ _ _ _ _ _ ((hg.block (h + 2) (by omega) (fun e => hne (h + 2) (.inr (.inl rfl)) e)).trans H.pm)
  · exact (hg2.block (h + 3) (by omega) (by intro e; simp at e)).trans ((hg.block (h + 3) (by omega) (fun e => hne (h + 3) (.inr (.inr (.inl rfl))) e)).trans H.pp)
  · exact (hg2.block (h + 4) (by omega) (by intro e; simp at e)).trans ((hg.block (h + 4) (by omega) (fun e => hne (h + 4) (.inr (.inr (.inr rfl))) e)).trans H.pn)
  · rw [List.length_append, flat_snoc]
    exact ho.kept hg2 (.inr (fun e => by simp [Value.ownBlock] at e; omega))
  · have e' : g = b := by simpa [Value.ownBlock] using e
    omega
end
abbrev zero5 : Array Value := #[.int .i64 0, .int .i64 0, .int .i64 0, .int .i64 0, .int .i64 0]
theorem UW.start (w : World) (n : Nat) (cs : Array Value) (hcs : cs.size = n * 5) (hn : n ≤ maxLen) :
    UW w (((((w.alloc (.cells #[.slice none 0 0] 119)).alloc (.cells cs 122)).alloc (.cells #[.slice (some ⟨w.heap.size + 1, 0, none⟩) 0 n] 119)).alloc (.cells #[.int .i64 0, .int .i64 0, .int .i64 0, .int .i64 0, .int .i64 0] 122)).alloc (.cells #[.int .i64 0, .int .i64 0, .int .i64 0, .int .i64 0, .int .i64 0] 122))
      w.heap.size (.slice (some ⟨w.heap.size + 1, 0, none⟩) 0 n) [] (0, 0, 0, 0, 0) (0, 0, 0, 0, 0) := by
  have s1 : (w.alloc (.cells #[.slice none 0 0] 119)).heap.size = w.heap.size + 1 := by simp
  have h1 := heap_alloc_new w (.cells #[.slice none 0 0] 119)
  have b1 := (Below.refl w.heap.size w).alloc (Nat.le_refl _) (.cells #[.slice none 0 0] 119)
  generalize w.alloc (.cells #[.slice none 0 0] 119) = w1 at s1 h1 b1 ⊢
  have o2 := World.ownsRow_made (e := 122) (size := 5) (base := w.heap.size + 1) w1 cs n (by omega) hn hcs
  rw [s1] at o2
  have s2 : (w1.alloc (.cells cs 122)).heap.size = w.heap.size + 2 := by simp [s1]
  have h2 := (Below.heap_alloc w1 (.cells cs 122) w.heap.size (by omega)).trans h1
  have b2 := b1.alloc (by omega) (.cells cs 122)
  generalize w1.alloc (.cells cs 122) = w2 at s2 h2 b2 o2 ⊢
  have s3 : (w2.alloc (.cells #[.slice (some ⟨w.heap.size + 1, 0, none⟩) 0 n] 119)).heap.size = w.heap.size + 3 := by simp [s2]
  have h3 := (Below.heap_alloc w2 (.cells #[.slice (some ⟨w.heap.size + 1, 0, none⟩) 0 n] 119) w.heap.size (by omega)).trans h2
  have m3 := heap_alloc_new w2 (.cells #[.slice (some ⟨w.heap.size + 1, 0, none⟩) 0 n] 119)
  rw [s2] at m3
  have b3 := b2.alloc (by omega) (.cells #[.slice (some ⟨w.heap.size + 1, 0, none⟩) 0 n] 119)
  have o3 := o2.alloc (.cells #[.slice (some ⟨w.heap.size + 1, 0, none⟩) 0 n] 119)
  generalize w2.alloc (.cells #[.slice (some ⟨w.heap.size + 1, 0, none⟩) 0 n] 119) = w3 at s3 h3 m3 b3 o3 ⊢
  have s4 : (w3.alloc (.cells #[.int .i64 0, .int .i64 0, .int .i64 0, .int .i64 0, .int .i64 0] 122)).heap.size = w.heap.size + 4 := by simp [s3]
  have h4 := (Below.heap_alloc w3 (.cells #[.int .i64 0, .int .i64 0, .int .i64 0, .int .i64 0, .int .i64 0] 122) w.heap.size (by omega)).trans h3
  have m4 := (Below.heap_alloc w3 (.cells #[.int .i64 0, .int .i64 0, .int .i64 0, .int .i64 0, .int .i64 0] 122) (w.heap.size + 2) (by omega)).trans m3
  have p4 := heap_alloc_new w3 (.cells #[.int .i64 0, .int .i64 0, .int .i64 0, .int .i64 0, .int .i64 0] 122)
  rw [s3] at p4
  have b4 := b3.alloc (by omega) (.cells #[.int .i64 0, .int .i64 0, .int .i64 0, .int .i64 0, .int .i64 0] 122)
  have o4 := o3.alloc (.cells #[.int .i64 0, .int .i64 0, .int .i64 0, .int .i64 0, .int .i64 0] 122)
  generalize w3.alloc (.cells #[.int .i64 0, .int .i64 0, .int .i64 0, .int .i64 0, .int .i64 0] 122) = w4 at s4 h4 m4 p4 b4 o4 ⊢
  have n5 := heap_alloc_new w4 (.cells #[.int .i64 0, .int .i64 0, .int .i64 0, .int .i64 0, .int .i64 0] 122)
  rw [s4] at n5
  exact ⟨b4.alloc (by omega) _, by simp [s4], (Below.heap_alloc w4 _ w.heap.size (by omega)).trans h4, (Below.heap_alloc w4 _ (w.heap.size + 2) (by omega)).trans m4, (Below.heap_alloc w4 _ (w.heap.size + 3) (by omega)).trans p4, n5, o4.alloc _, fun b e => .inl (by simpa [Value.ownBlock] using e.symm)⟩
end Go.Proofs.YthlpelfogplomaaGreat

/- units.Map: what it is, in a world. -/
namespace Go.Proofs.YthlpelfogplomaaGreat
open Go.RowKit

def psV (p : Ps) : Value := .agg #[.int .i64 p.1, .int .i64 p.2.1, .int .i64 p.2.2.1, .int .i64 p.2.2.2.1, .int .i64 p.2.2.2.2]
/-- a row of places -/
abbrev PsIn (w : World) (v : Value) (L : List Ps) : Prop := Rs w.heap.size w psE 5 v L
theorem PsIn.below {w w' : World} {v : Value} {L : List Ps} (h : PsIn w v L) (hb : Below w.heap.size w w') : PsIn w' v L := (Rd.below h hb (Nat.le_refl _)).mono hb.size
/-- a map whose places are those -/
def MapIn (w : World) (v : Value) (L : List Ps) : Prop := ∃ mv, v = .agg #[mv] ∧ PsIn w mv L
theorem MapIn.below {w w' : World} {v : Value} {L : List Ps} (h : MapIn w v L) (hB : Below w.heap.size w w') : MapIn w' v L := by
  obtain ⟨mv, rfl, h⟩ := h
  exact ⟨mv, rfl, PsIn.below h hB⟩
theorem map_zero (w : World) : MapIn w (.agg #[.slice none 0 0]) [] := ⟨_, rfl, Rd.nil _ _ _⟩
theorem ps_cells {w : World} {v : Value} {L : List Ps} (hR : PsIn w v L) {k : Nat} {x : Ps} (hx : L[k]? = some x) : ∃ b off cap, v = .slice (some ⟨b, off, none⟩) L.length cap ∧ cap ≤ maxLen ∧ L.length ≤ cap ∧ k < L.length ∧ b < w.heap.size ∧
    w.cell? ⟨b, off + k * 5, none⟩ = some (.int .i64 x.1) ∧ w.cell? ⟨b, off + k * 5 + 1, none⟩ = some (.int .i64 x.2.1) ∧ w.cell? ⟨b, off + k * 5 + 2, none⟩ = some (.int .i64 x.2.2.1) ∧ w.cell? ⟨b, off + k * 5 + 3, none⟩ = some (.int .i64 x.2.2.2.1) ∧ w.cell? ⟨b, off + k * 5 + 4, none⟩ = some (.int .i64 x.2.2.2.2) := by
  obtain ⟨a, cap, rfl, hcap, hmax, _, hcells⟩ := hR
  have hk := (List.getElem?_eq_some_iff.1 hx).1
  obtain ⟨b, off, rfl, hbl, hcq⟩ := hcells (by omega)
  exact ⟨b, off, cap, rfl, hmax, hcap, hk, hbl, flat_cell psE_len hcq hx 0 rfl, flat_cell psE_len hcq hx 1 rfl, flat_cell psE_len hcq hx 2 rfl, flat_cell psE_len hcq hx 3 rfl, flat_cell psE_len hcq hx 4 rfl⟩
theorem ps_shape {w : World} {v : Value} {L : List Ps} (hR : PsIn w v L) : ∃ a cap, v = .slice a L.length cap ∧ L.length ≤ cap ∧ cap ≤ maxLen := by
  obtain ⟨a, cap, rfl, h1, h2, _⟩ := hR
  exact ⟨a, cap, rfl, h1, h2⟩

end Go.Proofs.YthlpelfogplomaaGreat

/- units.Map: Len, the search for a place. -/
namespace Go.Proofs.YthlpelfogplomaaGreat
open Go.RowKit

def cmpP (p : Ps) (k : Nat) (n : Int) : Int := if psN p k ≤ n then -1 else 1
set_option maxRecDepth 100000 in
set_option maxHeartbeats 1000000 in
theorem pat1_any (p : Ps) (k : Nat) (n : Int) (kb : Nat) (w : World) (hk : k < 5) (hc : w.cell? ⟨kb, 0, none⟩ = some (.int .i64 (k : Int))) :
    Calls Tryz.prog 111 #[psV p, .int .i64 n, .pointer (some ⟨kb, 0, none⟩)] w fun e w' => e = .returned (.int .i64 (cmpP p k n)) ∧ Below w.heap.size w w' := by
  obtain ⟨p0, p1, p2, p3, p4⟩ := p
  unfold psV
  have hb := below1 w (.cells #[.int .i64 p0, .int .i64 p1, .int .i64 p2, .int .i64 p3, .int .i64 p4] 122)
  have c0 := cell_later hb hc
  have hr := heap_alloc_new w (.cells #[.int .i64 p0, .int .i64 p1, .int .i64 p2, .int .i64 p3, .int .i64 p4] 122)
  obtain ⟨x, hx⟩ : ∃ x, x = psN (p0, p1, p2, p3, p4) k := ⟨_, rfl⟩
  have hxc : (#[Value.int .i64 p0, .int .i64 p1, .int .i64 p2, .int .i64 p3, .int .i64 p4] : Array Value)[k]? = some (.int .i64 x) := by
    have := psE_at (p0, p1, p2, p3, p4) hk
    rw [← hx] at this
    simpa [psE] using this
  have c1 := row_cells hr hxc
  have HB := Lib.hid hb
  have HV := Lib.hid (show cmpP (p0, p1, p2, p3, p4) k n = if x ≤ n then -1 else 1 by unfold cmpP; rw [← hx])
  have k0 : (0 : Int) ≤ (k : Int) := by omega
  have k1 : (k : Int) < 5 := by omega
  clear hc hr hxc hx hb
  by_cases h1 : x ≤ n
  · have HR := Lib.hid (show cmpP (p0, p1, p2, p3, p4) k n = -1 by rw [HV.out, if_pos h1])
    clear HV
    go_enter Tryz.func111, Tryz.ntmps111
    go_wp2_with fail
    go_ret
    exact ⟨by rw [HR.out]; rfl, HB.out⟩
  · have q1 : decide (x ≤ n) = false := decide_eq_false h1
    have HR := Lib.hid (show cmpP (p0, p1, p2, p3, p4) k n = 1 by rw [HV.out, if_neg h1])
    clear HV h1
    go_enter Tryz.func111, Tryz.ntmps111
    go_wp2_with fail
    go_ret
    exact ⟨by rw [HR.out]; rfl, HB.out⟩
set_option maxRecDepth 100000 in
set_option maxHeartbeats 1000000 in
theorem psearch_any (v : Value) (L : List Ps) (k : Nat) (n : Int) (kb : Nat) (w : World) (hR : PsIn w v L) (hP : L.Pairwise psLe) (hl : L.length ≤ 1114112) (hk : k < 5) (hc : w.cell? ⟨kb, 0, none⟩ = some (.int .i64 (k : Int))) :
    Calls Tryz.prog 110 #[v, .int .i64 n, .func (.func 111) #[] #[.pointer (some ⟨kb, 0, none⟩)]] w fun e w' => ∃ ok, e = .returned (.tuple #[.int .i64 (cntLe L k n : Nat), .bool ok]) ∧ Below w.heap.size w w' := by
  have HR := Lib.hid hR
  obtain ⟨sa, sc, rfl, hcap, hmax⟩ := ps_shape hR
  unfold maxLen at hmax
  have HP := Lib.hid (fun (i j : Nat) (p q : Ps) (h1 : L[i]? = some p) (h2 : L[j]? = some q) (h3 : i ≤ j) => mono_at hP h1 h2 h3 k)
  have HC := Lib.hid hc
  clear hP hR hc
  go_enter Tryz.func110, Tryz.ntmps110
  go_wp2
  go_loopw [9, 10] (fun iv jv wr => ∃ i j : Nat, iv = .int .i64 ((i : Nat) : Int) ∧ jv = .int .i64 ((j : Nat) : Int) ∧ i ≤ j ∧ j ≤ L.length ∧ Below w.heap.size w wr ∧ (∀ (q : Nat) (s : Ps), q < i → L[q]? = some s → psN s k ≤ n) ∧ (∀ (q : Nat) (s : Ps), j ≤ q → L[q]? = some s → n < psN s k)) (fun iv jv _ => (intOf jv).toNat - (intOf iv).toNat)
  case atStart => exact ⟨0, L.length, rfl, rfl, Nat.zero_le _, Nat.le_refl _, .refl _ _, fun q s h => by omega, fun q s h h2 => by have := (List.getElem?_eq_some_iff.1 h2).1; omega⟩
  case round =>
    obtain ⟨i, j, rfl, rfl, hij, hjl, hB, hlo, hhi⟩ := hrel
    have HB := Lib.hid hB
    have HLo := Lib.hid hlo
    have HHi := Lib.hid hhi
    clear hlo hhi
    by_cases hlt : i < j
    · obtain ⟨h, hh⟩ : ∃ h : Nat, h = (i + j) / 2 := ⟨_, rfl⟩
      have hhl : h < L.length := by omega
      have hih : i ≤ h := by omega
      have hhj : h < j := by omega
      obtain ⟨x, hx⟩ : ∃ x, L[h]? = some x := ⟨L[h], List.getElem?_eq_getElem hhl⟩
      obtain ⟨b, off, cap', hv, _, _, _, _, d0, d1, d2, d3, d4⟩ := ps_cells (PsIn.below HR.out hB) hx
      cases hv
      have HX := Lib.hid hx
      have s1 : (((i : Nat) : Int) + ((j : Nat) : Int)) / 2 = ((h : Nat) : Int) := by omega
      have e1 := IntWalk.i64_in (((i : Nat) : Int) + ((j : Nat) : Int)) (by omega)
      have e2 := IntWalk.i64_in ((h : Int) + 1) (by omega)
      have p0 : ((i : Nat) : Int) < ((j : Nat) : Int) := by omega
      have HCall := Lib.hid (pat1_any x k n kb wr hk (cell_later hB HC.out))
      unfold psV at HCall
      clear hB hx hh
      go_wp2_with fail
      refine HCall.out.mono ?_
      rintro e w2 ⟨rfl, hB2⟩
      have HB2 := Lib.hid (below_trans' HB.out hB2)
      clear hB2 HB d0 d1 d2 d3 d4 HCall
      by_cases h1 : psN x k ≤ n
      · rw [show cmpP x k n = -1 by unfold cmpP; rw [if_pos h1]]
        have H1 := Lib.hid h1
        clear h1
        go_wp2_with fail
        go_roundw
        case rel => exact ⟨h + 1, j, by go_num, rfl, by omega, by omega, HB2.out, fun q s hq hs => Int.le_trans (HP.out q h s x hs HX.out (by omega)) H1.out, HHi.out⟩
        case measure => simp [intOf]; omega
      · rw [show cmpP x k n = 1 by unfold cmpP; rw [if_neg h1]]
        have H1 := Lib.hid (show n < psN x k by omega)
        clear h1
        go_wp2_with fail
        go_roundw
        case rel => exact ⟨i, h, rfl, rfl, by omega, by omega, HB2.out, HLo.out, fun q s hq hs => Int.lt_of_lt_of_le H1.out (HP.out h q x s HX.out hs hq)⟩
        case measure => simp [intOf]; omega
    · have hie : i = j := by omega
      subst hie
      have HF := Lib.hid (show cntLe L k n = i from cnt_eq ⟨hjl, HLo.out, fun q s hq hs => by have := HHi.out q s hq hs; omega⟩)
      by_cases hin : i < L.length
      · obtain ⟨x, hx⟩ : ∃ x, L[i]? = some x := ⟨L[i], List.getElem?_eq_getElem hin⟩
        obtain ⟨b, off, cap', hv, _, _, _, _, d0, d1, d2, d3, d4⟩ := ps_cells (PsIn.below HR.out hB) hx
        cases hv
        have h1 := HHi.out i x (Nat.le_refl _) hx
        have HCall := Lib.hid (pat1_any x k n kb wr hk (cell_later hB HC.out))
        rw [show cmpP x k n = 1 by unfold cmpP; rw [if_neg (by omega)]] at HCall
        unfold psV at HCall
        have p0 : decide ((i : Int) < (i : Int)) = false := by simp
        clear hB hx h1 hlt
        go_wp2_with fail
        refine HCall.out.mono ?_
        rintro e w2 ⟨rfl, hB2⟩
        have HB2 := Lib.hid (below_trans' HB.out hB2)
        clear hB2
        go_wp2_with fail
        go_ret2
        exact ⟨false, by rw [HF.out]; rfl, HB2.out⟩
      · have p0 : decide ((i : Int) < (i : Int)) = false := by simp
        clear hB hlt
        go_wp2
        go_ret2
        exact ⟨false, by rw [HF.out]; rfl, HB.out⟩
end Go.Proofs.YthlpelfogplomaaGreat

/- units.Map: Len, At, Turn. -/
namespace Go.Proofs.YthlpelfogplomaaGreat
open Go.RowKit

theorem range5o {w : World} {b o : Nat} {u0 u1 u2 u3 u4 : Value} (h0 : w.cell? ⟨b, o, none⟩ = some u0) (h1 : w.cell? ⟨b, o + 1, none⟩ = some u1) (h2 : w.cell? ⟨b, o + 2, none⟩ = some u2) (h3 : w.cell? ⟨b, o + 3, none⟩ = some u3) (h4 : w.cell? ⟨b, o + 4, none⟩ = some u4) : w.rangeAt b o [u0, u1, u2, u3, u4] := fun j x hx => by
  match j with
  | 0 => simp at hx; subst hx; exact h0
  | 1 => simp at hx; subst hx; exact h1
  | 2 => simp at hx; subst hx; exact h2
  | 3 => simp at hx; subst hx; exact h3
  | 4 => simp at hx; subst hx; exact h4
  | j + 5 => simp at hx
/-- the last place of all -/
def endP (L : List Ps) : Ps := (L[L.length - 1]?).getD noP
abbrev zPos : Obj := .cells #[.int .i64 0, .int .i64 0, .int .i64 0, .int .i64 0, .int .i64 0] 122
abbrev cPos (p : Ps) : Obj := .cells #[.int .i64 p.1, .int .i64 p.2.1, .int .i64 p.2.2.1, .int .i64 p.2.2.2.1, .int .i64 p.2.2.2.2] 122
set_option maxRecDepth 100000 in
set_option maxHeartbeats 1000000 in
theorem ulen_any {w : World} {v : Value} {L : List Ps} (h : MapIn w v L) : Calls Tryz.prog 63 #[v] w fun e w' => e = .returned (psV (endP L)) ∧ Below w.heap.size w w' := by
  obtain ⟨mv, rfl, hR⟩ := h
  obtain ⟨sa, sc, rfl, hcap, hmax⟩ := ps_shape hR
  unfold maxLen at hmax
  have HR := Lib.hid hR
  clear hR
  go_enter Tryz.func63, Tryz.ntmps63
  go_upto_region 1 with fail
  have hb := below1 w (.cells #[.slice sa L.length sc] 119)
  have c0 := row_cells (i := 0) (heap_alloc_new w (.cells #[.slice sa L.length sc] 119)) rfl
  have hsz : (w.alloc (.cells #[.slice sa L.length sc] 119)).heap.size = w.heap.size + 1 := by simp
  generalize w.alloc (.cells #[.slice sa L.length sc] 119) = w1 at hb c0 hsz ⊢
  have hb2 := below1 w1 (.cells #[.int .i64 0, .int .i64 0, .int .i64 0, .int .i64 0, .int .i64 0] 122)
  have hr := heap_alloc_new w1 (.cells #[.int .i64 0, .int .i64 0, .int .i64 0, .int .i64 0, .int .i64 0] 122)
  have c0 := cell_later hb2 c0
  have HB := Lib.hid (hb.trans (hb2.mono (by omega)))
  generalize w1.alloc (.cells #[.int .i64 0, .int .i64 0, .int .i64 0, .int .i64 0, .int .i64 0] 122) = w2 at hb2 hr c0 HB ⊢
  rw [hsz] at hr
  have f0 := row_warm hr 0
  have f1 := row_warm hr 1
  have f2 := row_warm hr 2
  have f3 := row_warm hr 3
  have f4 := row_warm hr 4
  have z0 := row_cells (i := 0) hr rfl
  have z1 := row_cells (i := 1) hr rfl
  have z2 := row_cells (i := 2) hr rfl
  have z3 := row_cells (i := 3) hr rfl
  have z4 := row_cells (i := 4) hr rfl
  have hR2 := PsIn.below HR.out HB.out
  clear hb hb2 hr
  by_cases h0 : L.length = 0
  · have hL : L = [] := List.eq_nil_of_length_eq_zero h0
    subst hL
    clear hR2
    go_wp2_with fail
    refine ret_cell1 (ad := ⟨w.heap.size + 1, 0, none⟩) rfl rfl (run_loadVar_mid _ _ 0 _ [.int .i64 0, .int .i64 0, .int .i64 0, .int .i64 0, .int .i64 0] _ (range5 (by go_simp) (by go_simp) (by go_simp) (by go_simp) (by go_simp)) Tryz.underlying122 rfl (by kernel_rfl)) rfl ⟨rfl, ((((HB.out.setCell (by simp) _).setCell (by simp) _).setCell (by simp) _).setCell (by simp) _).setCell (by simp) _⟩
  · obtain ⟨x, hx⟩ : ∃ x, L[L.length - 1]? = some x := ⟨L[L.length - 1], List.getElem?_eq_getElem (by omega)⟩
    have HE := Lib.hid (show endP L = x by unfold endP; rw [hx]; rfl)
    obtain ⟨x0, x1, x2, x3, x4⟩ := x
    obtain ⟨b, off, cap', hv, _, _, hml, hbl, d0, d1, d2, d3, d4⟩ := ps_cells hR2 hx
    cases hv
    have e1 := IntWalk.i64_in ((L.length : Int) - 1) (by omega)
    clear hx hR2
    go_wp2_with fail
    refine ret_cell1 (ad := ⟨w.heap.size + 1, 0, none⟩) rfl rfl (run_loadVar_mid _ _ 0 _ [.int .i64 x0, .int .i64 x1, .int .i64 x2, .int .i64 x3, .int .i64 x4] _ (range5 (by go_simp) (by go_simp) (by go_simp) (by go_simp) (by go_simp)) Tryz.underlying122 rfl (by kernel_rfl)) rfl ⟨by rw [HE.out]; rfl, ((((HB.out.setCell (by simp) _).setCell (by simp) _).setCell (by simp) _).setCell (by simp) _).setCell (by simp) _⟩
theorem run_pos {w : World} {b : Nat} {x0 x1 x2 x3 x4 : Int} (z0 : w.cell? ⟨b, 0, none⟩ = some (.int .i64 x0)) (z1 : w.cell? ⟨b, 1, none⟩ = some (.int .i64 x1)) (z2 : w.cell? ⟨b, 2, none⟩ = some (.int .i64 x2)) (z3 : w.cell? ⟨b, 3, none⟩ = some (.int .i64 x3)) (z4 : w.cell? ⟨b, 4, none⟩ = some (.int .i64 x4)) : (loadVar 122 ⟨b, 0, none⟩).run Tryz.prog w = .ok (.agg #[.int .i64 x0, .int .i64 x1, .int .i64 x2, .int .i64 x3, .int .i64 x4]) w :=
  run_loadVar_mid _ _ 0 _ [.int .i64 x0, .int .i64 x1, .int .i64 x2, .int .i64 x3, .int .i64 x4] _ (range5 z0 z1 z2 z3 z4) Tryz.underlying122 rfl (by kernel_rfl)
set_option maxRecDepth 100000 in
set_option maxHeartbeats 4000000 in
theorem uat_any {w : World} {v : Value} {L : List Ps} (kind n : Int) (h : MapIn w v L) (hP : L.Pairwise psLe) (hl : L.length ≤ 1114112) :
    Calls Tryz.prog 62 #[v, .int .i64 kind, .int .i64 n] w fun e w' => e = .returned (.tuple #[psV (atP L kind n), .bool (kindOk kind)]) ∧ Below w.heap.size w w' := by
  obtain ⟨mv, rfl, hR⟩ := h
  obtain ⟨sa, sc, rfl, hcap, hmax⟩ := ps_shape hR
  unfold maxLen at hmax
  have HR := Lib.hid hR
  have HP := Lib.hid hP
  clear hR hP
  go_enter Tryz.func62, Tryz.ntmps62
  go_upto_region 1 with fail
  have hb := below1 w (.cells #[.slice sa L.length sc] 119)
  have c0 := row_cells (i := 0) (heap_alloc_new w (.cells #[.slice sa L.length sc] 119)) rfl
  have hsz : (w.alloc (.cells #[.slice sa L.length sc] 119)).heap.size = w.heap.size + 1 := by simp
  generalize w.alloc (.cells #[.slice sa L.length sc] 119) = w1 at hb c0 hsz ⊢
  have hb1 := below1 w1 (.cells #[.int .i64 kind] 3)
  have k0 := row_cells (i := 0) (heap_alloc_new w1 (.cells #[.int .i64 kind] 3)) rfl
  have c0 := cell_later hb1 c0
  have hsz1 : (w1.alloc (.cells #[.int .i64 kind] 3)).heap.size = w.heap.size + 2 := by simp [hsz]
  generalize w1.alloc (.cells #[.int .i64 kind] 3) = w2 at hb1 k0 c0 hsz1 ⊢
  have hb2 := below1 w2 (.cells #[.int .i64 0, .int .i64 0, .int .i64 0, .int .i64 0, .int .i64 0] 122)
  have hr := heap_alloc_new w2 (.cells #[.int .i64 0, .int .i64 0, .int .i64 0, .int .i64 0, .int .i64 0] 122)
  have c0 := cell_later hb2 c0
  have k0 := cell_later hb2 k0
  have HB := Lib.hid ((hb.trans (hb1.mono (by omega))).trans (hb2.mono (by omega)))
  generalize w2.alloc (.cells #[.int .i64 0, .int .i64 0, .int .i64 0, .int .i64 0, .int .i64 0] 122) = w3 at hb2 hr c0 k0 HB ⊢
  rw [hsz1] at hr
  rw [hsz] at k0
  obtain ⟨h, hh⟩ : ∃ h, w.heap.size = h := ⟨_, rfl⟩
  have HH := Lib.hid hh
  rw [show w.heap.size + 1 + 1 = w.heap.size + 2 from rfl]
  rw [hh] at hr k0 c0 ⊢
  have HRw := Lib.hid hr
  clear hb hb1 hb2 hr hsz hsz1 hh
  by_cases hk : kindOk kind = true
  · have hk' := hk
    unfold kindOk at hk'
    rw [Bool.and_eq_true, decide_eq_true_eq, decide_eq_true_eq] at hk'
    obtain ⟨k, rfl⟩ : ∃ k : Nat, kind = (k : Int) := ⟨kind.toNat, by omega⟩
    have HK := Lib.hid (show atP L (k : Int) n = lastLe L k n by unfold atP; rw [if_pos hk]; rfl)
    have HKk := Lib.hid hk
    have hk5 : k < 5 := by omega
    have q1 : decide ((k : Int) < 0) = false := decide_eq_false (by omega)
    have q2 : decide ((k : Int) > 4) = false := decide_eq_false (by omega)
    have HS := Lib.hid (psearch_any _ L k n (h + 1) w3 (PsIn.below HR.out HB.out) HP.out hl hk5 k0)
    clear hk hk'
    go_wp2_with fail
    refine HS.out.mono ?_
    rintro e w4 ⟨ok, rfl, hB4⟩
    have c0 := cell_later hB4 c0
    have hr : w4.heap[h + 2]? = some (.cells #[.int .i64 0, .int .i64 0, .int .i64 0, .int .i64 0, .int .i64 0] 122 (0, 0)) := (hB4.block _ (row_len HRw.out)).trans HRw.out
    have f0 := row_warm hr 0
    have f1 := row_warm hr 1
    have f2 := row_warm hr 2
    have f3 := row_warm hr 3
    have f4 := row_warm hr 4
    have z0 := row_cells (i := 0) hr rfl
    have z1 := row_cells (i := 1) hr rfl
    have z2 := row_cells (i := 2) hr rfl
    have z3 := row_cells (i := 3) hr rfl
    have z4 := row_cells (i := 4) hr rfl
    have HB4 := Lib.hid (below_trans' HB.out hB4)
    have hcl := cnt_le (L := L) (k := k) (n := n)
    have HLe := Lib.hid (show lastLe L k n = if cntLe L k n = 0 then noP else (L[cntLe L k n - 1]?).getD noP from rfl)
    obtain ⟨c, hc⟩ : ∃ c, c = cntLe L k n := ⟨_, rfl⟩
    rw [← hc] at hcl HLe ⊢
    clear hr k0 HS HRw hB4 hc
    by_cases hc0 : c = 0
    · subst hc0
      have HV := Lib.hid (show atP L (k : Int) n = noP by rw [HK.out, HLe.out, if_pos rfl])
      clear HR
      go_wp2_with fail
      refine ret_cell_tmp (x := .bool true) (ad := ⟨h + 2, 0, none⟩) rfl rfl rfl (run_pos (x0 := 0) (x1 := 0) (x2 := 0) (x3 := 0) (x4 := 0) (by go_simp) (by go_simp) (by go_simp) (by go_simp) (by go_simp)) rfl ⟨by rw [HV.out, HKk.out]; rfl, ?_⟩
      have hB := HB4.out
      rw [HH.out] at hB ⊢
      exact ((((hB.setCell (by simp) _).setCell (by simp) _).setCell (by simp) _).setCell (by simp) _).setCell (by simp) _
    · obtain ⟨x, hx⟩ : ∃ x, L[c - 1]? = some x := ⟨L[c - 1], List.getElem?_eq_getElem (by omega)⟩
      have HV := Lib.hid (show atP L (k : Int) n = x by rw [HK.out, HLe.out, if_neg hc0, hx]; rfl)
      obtain ⟨x0, x1, x2, x3, x4⟩ := x
      obtain ⟨b, off, cap', hv, _, _, hml, hbl, d0, d1, d2, d3, d4⟩ := ps_cells (PsIn.below HR.out HB4.out) hx
      cases hv
      have e1 := IntWalk.i64_in ((c : Int) - 1) (by omega)
      have e2 : ((c : Int) == 0) = false := by simpa using hc0
      clear hx HR
      go_wp2_with fail
      refine ret_cell_tmp (x := .bool true) (ad := ⟨h + 2, 0, none⟩) rfl rfl rfl (run_pos (x0 := x0) (x1 := x1) (x2 := x2) (x3 := x3) (x4 := x4) (by go_simp) (by go_simp) (by go_simp) (by go_simp) (by go_simp)) rfl ⟨by rw [HV.out, HKk.out]; rfl, ?_⟩
      have hB := HB4.out
      rw [HH.out] at hB ⊢
      exact ((((hB.setCell (by simp) _).setCell (by simp) _).setCell (by simp) _).setCell (by simp) _).setCell (by simp) _
  · have HKk := Lib.hid (show kindOk kind = false by simpa using hk)
    have HV := Lib.hid (show atP L kind n = noP by unfold atP; rw [if_neg hk])
    have hr := HRw.out
    have f0 := row_warm hr 0
    have f1 := row_warm hr 1
    have f2 := row_warm hr 2
    have f3 := row_warm hr 3
    have f4 := row_warm hr 4
    have z0 := row_cells (i := 0) hr rfl
    have z1 := row_cells (i := 1) hr rfl
    have z2 := row_cells (i := 2) hr rfl
    have z3 := row_cells (i := 3) hr rfl
    have z4 := row_cells (i := 4) hr rfl
    clear hr HRw HR
    by_cases hn : kind < 0
    case' pos => skip
    case' neg =>
      have q1 : decide (kind < 0) = false := decide_eq_false hn
      have q2 : kind > 4 := by
        unfold kindOk at hk
        rw [Bool.and_eq_true, decide_eq_true_eq, decide_eq_true_eq] at hk
        omega
      clear hn
    all_goals
      clear hk
      go_wp2_with fail
      refine ret_cell_tmp (x := .bool false) (ad := ⟨h + 2, 0, none⟩) rfl rfl rfl (run_pos (x0 := 0) (x1 := 0) (x2 := 0) (x3 := 0) (x4 := 0) (by go_simp) (by go_simp) (by go_simp) (by go_simp) (by go_simp)) rfl ⟨by rw [HV.out, HKk.out]; rfl, ?_⟩
      have hB := HB.out
      rw [HH.out] at hB ⊢
      exact ((((hB.setCell (by simp) _).setCell (by simp) _).setCell (by simp) _).setCell (by simp) _).setCell (by simp) _
theorem psV_at (p : Ps) {k : Nat} (h : k < 5) : (#[Value.int .i64 p.1, .int .i64 p.2.1, .int .i64 p.2.2.1, .int .i64 p.2.2.2.1, .int .i64 p.2.2.2.2] : Array Value)[k]? = some (.int .i64 (psN p k)) := by
  have := psE_at p h
  simpa [psE] using this
/-- a number, turned -/
def turnN (L : List Ps) (f n t : Int) : Int := if kindOk f = true ∧ kindOk t = true then psN (atP L f n) t.toNat else 0
end Go.Proofs.YthlpelfogplomaaGreat
