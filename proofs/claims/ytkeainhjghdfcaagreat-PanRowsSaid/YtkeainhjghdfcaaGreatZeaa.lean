/- Joined texts: PanE. -/
import Derived.Test.YtkeainhjghdfcaaGreatZdac
import Derived.Test.YtkeainhjghdfcaaGreatZaaz
/- Pan: chapter 48's example. -/
namespace Go.Proofs.YtkeainhjghdfcaaGreat
open Go.RowKit

def panTx : List Int := [97, 98, 99, 100, 101, 102]
def panGl : List Gy := [(⟨#[97]⟩, 1), (⟨#[98]⟩, 1), (⟨#[99]⟩, 1), (⟨#[100]⟩, 1), (⟨#[101]⟩, 1), (⟨#[102]⟩, 1)]
def panEx (R : List Rw) : Bool := decide (lineG R (clus (tabOf R) panTx) = panGl) && (decide (ahd (starts (tabOf R) panTx) 0 = 0) && (decide (ahd (starts (tabOf R) panTx) 6 = 6) && (decide (aheadG R (clus (tabOf R) panTx) 0 = 0) && decide (aheadG R (clus (tabOf R) panTx) 6 = 6))))
structure PanEx (R : List Rw) : Prop where
  l : lineG R (clus (tabOf R) panTx) = panGl
  a0 : aheadG R (clus (tabOf R) panTx) (ahd (starts (tabOf R) panTx) 0) = 0
  a6 : aheadG R (clus (tabOf R) panTx) (ahd (starts (tabOf R) panTx) 6) = 6
theorem panEx_of {R : List Rw} (h : panEx R = true) : PanEx R := by
  unfold panEx at h
  simp only [Bool.and_eq_true, decide_eq_true_eq] at h
  obtain ⟨h1, h2, h3, h4, h5⟩ := h
  exact ⟨h1, by rw [h2, h4], by rw [h3, h5]⟩
set_option maxRecDepth 100000 in
theorem panExRows_any : ∃ R : List Rw, RFacts R ∧ PanEx R ∧ ∀ w, Calls Tryz.prog 17 #[] w (LitPost R w) :=
  ⟨((((((((rowsFn Tryz.f51) ++ rowsFn Tryz.f52) ++ rowsFn Tryz.f53) ++ rowsFn Tryz.f54) ++ rowsFn Tryz.f55) ++ rowsFn Tryz.f56) ++ rowsFn Tryz.f57) ++ rowsFn Tryz.f58), rfacts_of (by kernel_rfl) (by kernel_rfl) (by kernel_rfl) (by kernel_rfl) (by kernel_rfl) (by kernel_rfl), panEx_of (show panEx _ = true by kernel_rfl), fun w => apiRows_of _ _ _ _ _ _ _ _ (of_decide_eq_true (by kernel_rfl)) (of_decide_eq_true (by kernel_rfl)) (of_decide_eq_true (by kernel_rfl)) (of_decide_eq_true (by kernel_rfl)) (of_decide_eq_true (by kernel_rfl)) (of_decide_eq_true (by kernel_rfl)) (of_decide_eq_true (by kernel_rfl)) (of_decide_eq_true (by kernel_rfl)) classes_any pairs_any outs_any breaks_any picts_any conjs_any wides_any letters_any w⟩
theorem panR0 : choF (wdL panGl) 0 5 = ⟨0, 4, false, true, 0⟩ := by kernel_rfl
theorem panR6 : choF (wdL panGl) 6 5 = ⟨4, 6, true, false, 3⟩ := by kernel_rfl
theorem panG0 : rowG panGl ⟨0, 4, false, true, 0⟩ 5 = [(⟨#[97]⟩, 1), (⟨#[98]⟩, 1), (⟨#[99]⟩, 1), (⟨#[100]⟩, 1), (⟨#[62]⟩, 1)] := by decide
theorem panG6 : rowG panGl ⟨4, 6, true, false, 3⟩ 5 = [(⟨#[60]⟩, 1), (⟨#[101]⟩, 1), (⟨#[102]⟩, 1), (⟨#[32]⟩, 1), (⟨#[32]⟩, 1)] := by decide
set_option maxRecDepth 100000 in
set_option maxHeartbeats 4000000 in
theorem awake48_any (w : World) : Calls Tryz.prog 15 #[] w fun e w' => e = .returned (.bool true) ∧ Below w.heap.size w w' := by
  obtain ⟨R, HFc, HUc, hrows⟩ := panExRows_any
  have HF := Lib.hid HFc
  have HRows := Lib.hid hrows
  have HU := Lib.hid HUc
  clear HFc hrows HUc
  go_enter Tryz.func15, Tryz.ntmps15
  go_wp2_with fail
  refine (HRows.out w).mono ?_
  rintro e w1 ⟨v, rfl, hB1, hR1⟩
  have HB1 := Lib.hid hB1
  go_wp2_with fail
  refine (build_tb v R w1 hR1 HF.out.ok).mono ?_
  rintro e w2 ⟨tp, rfl, hB2, hT⟩
  have HT2 := Lib.hid (hT.below (below1 w2 (.cells #[.int .i32 97, .int .i32 98, .int .i32 99, .int .i32 100, .int .i32 101, .int .i32 102] 21)))
  have HB2 := Lib.hid (below_new (below_trans' HB1.out hB2) (.cells #[.int .i32 97, .int .i32 98, .int .i32 99, .int .i32 100, .int .i32 101, .int .i32 102] 21))
  have HL2 := Lib.hid (show RunesIn (w2.alloc (.cells #[.int .i32 97, .int .i32 98, .int .i32 99, .int .i32 100, .int .i32 101, .int .i32 102] 21)) (.slice (some ⟨w2.heap.size, 0, none⟩) 6 6) panTx from rs_lit runeE_len w2 _ _ _ 6 rfl (by decide) rfl)
  have HOk := Lib.hid (show RunesOk panTx from fun x hx => by simp [panTx] at hx; unfold I32; omega)
  clear hB1 hR1 hB2 hT HB1
  go_wp2_with fail
  refine (prow_yes HF.out.seg.tab HT2.out HL2.out HOk.out (by decide) 0 (cols := 5) (by decide) (by decide)).mono ?_
  rintro e w3 ⟨g, c, rfl, hB3, hO3⟩
  rw [HU.out.l, HU.out.a0, show ((5 : Nat) : Int) = 5 from rfl, panR0, panG0] at hO3
  rw [HU.out.l, HU.out.a0, show ((5 : Nat) : Int) = 5 from rfl, panR0]
  have HG3 := Lib.hid (show GlyIn w3 (.slice (some ⟨g, 0, none⟩) 5 c) [(⟨#[97]⟩, 1), (⟨#[98]⟩, 1), (⟨#[99]⟩, 1), (⟨#[100]⟩, 1), (⟨#[62]⟩, 1)] from rd_of_owns hO3)
  have HB3 := Lib.hid (below_trans' HB2.out hB3)
  have HT3 := Lib.hid (HT2.out.below hB3)
  have HL3 := Lib.hid (HL2.out.below hB3)
  clear hB3 hO3 HB2 HT2 HL2
  go_wp2_with fail
  refine (prow_yes HF.out.seg.tab HT3.out HL3.out HOk.out (by decide) 6 (cols := 5) (by decide) (by decide)).mono ?_
  rintro e w4 ⟨g4, c4, rfl, hB4, hO4⟩
  rw [HU.out.l, HU.out.a6, show ((5 : Nat) : Int) = 5 from rfl, panR6, panG6] at hO4
  rw [HU.out.l, HU.out.a6, show ((5 : Nat) : Int) = 5 from rfl, panR6]
  have HG4 := Lib.hid (show GlyIn w4 (.slice (some ⟨g4, 0, none⟩) 5 c4) [(⟨#[60]⟩, 1), (⟨#[101]⟩, 1), (⟨#[102]⟩, 1), (⟨#[32]⟩, 1), (⟨#[32]⟩, 1)] from rd_of_owns hO4)
  have HB4 := Lib.hid (below_trans' HB3.out hB4)
  have HG3b := Lib.hid (HG3.out.below hB4)
  obtain ⟨_, _, _, hv, _, _, _, z3, _⟩ := gly_cells HG3b.out (k := 3) rfl
  cases hv
  obtain ⟨_, _, _, hv, _, _, _, z4, _⟩ := gly_cells HG3b.out (k := 4) rfl
  cases hv
  obtain ⟨_, _, _, hv, _, _, _, y0, _⟩ := gly_cells HG4.out (k := 0) rfl
  cases hv
  obtain ⟨_, _, _, hv, _, _, _, y2, _⟩ := gly_cells HG4.out (k := 2) rfl
  cases hv
  obtain ⟨_, _, _, hv, _, _, _, y4, _⟩ := gly_cells HG4.out (k := 4) rfl
  cases hv
  have z3 : w4.cell? ⟨g, 6, none⟩ = some (.string ⟨#[100]⟩) := z3
  have z4 : w4.cell? ⟨g, 8, none⟩ = some (.string ⟨#[62]⟩) := z4
  have y0 : w4.cell? ⟨g4, 0, none⟩ = some (.string ⟨#[60]⟩) := y0
  have y2 : w4.cell? ⟨g4, 4, none⟩ = some (.string ⟨#[102]⟩) := y2
  have y4 : w4.cell? ⟨g4, 8, none⟩ = some (.string ⟨#[32]⟩) := y4
  clear hB4 hO4 HB3 HG3 HL3 HT3 HG4 HG3b
  go_wp2_with fail
  go_ret
  exact ⟨rfl, HB4.out⟩
theorem fin48 {w w1 : World} (h1 : Below w.heap.size w w1) : Calls Tryz.prog 15 #[] w1 fun e w' => e = .returned (.bool true) ∧ Below w.heap.size w w' := by
  refine (awake48_any w1).mono ?_
  rintro e w' ⟨rfl, hB⟩
  exact ⟨rfl, below_trans' h1 hB⟩
end Go.Proofs.YtkeainhjghdfcaaGreat
