/- The chapter's example; the laws of chapter 28 that need no grid. -/
import Derived.Test.YtokenlecnbploaaWrapD
import Derived.Test.YtokenlecnbploaaLaw
import Derived.Deep.QuietTactic
import Derived.BigQuiet
namespace Go.Proofs.Ytokenlecnbploaa
open Go.RowKit Go.ChangeShapes

def four : List Gl := [(⟨#[97]⟩, 1), (⟨#[98]⟩, 2), (⟨#[99]⟩, 2), (⟨#[100]⟩, 1)]
theorem four_spots : spotsL 4 four = [(0, 0), (0, 1), (1, 0), (1, 2), (1, 3)] := by decide +kernel
theorem four_thin : thin four := by intro g hg; simp [four] at hg; rcases hg with rfl | rfl | rfl | rfl <;> decide
set_option maxRecDepth 100000 in
set_option maxHeartbeats 400000 in
theorem awake28_any (w : World) : Calls Try.prog 17 #[] w fun e w' => e = .returned (.bool true) ∧ Below w.heap.size w w' := by
  go_enter Try.func17, Try.ntmps17
  go_wp2_with fail
  refine (place_any _ four 4 _ (rs_lit genc_len w _ _ four 4 rfl (by decide) rfl) (by decide) (by decide) four_thin).mono ?_
  rintro e w' ⟨vs, rfl, hB, ho, _⟩
  rw [four_spots] at ho
  obtain ⟨g, cap, rfl, hg1, hg2⟩ := ownBlock_of_owns ho (by decide)
  have hB2 : Below w.heap.size w w' := ((Below.refl _ w).alloc (Nat.le_refl _) _).trans (hB.mono (by simp))
  have c2 : w'.cell? ⟨g, 2, none⟩ = some (.int .i64 0) := ho.cellAt 2 (by decide)
  have c3 : w'.cell? ⟨g, 3, none⟩ = some (.int .i64 1) := ho.cellAt 3 (by decide)
  have c4 : w'.cell? ⟨g, 4, none⟩ = some (.int .i64 1) := ho.cellAt 4 (by decide)
  have c5 : w'.cell? ⟨g, 5, none⟩ = some (.int .i64 0) := ho.cellAt 5 (by decide)
  have c8 : w'.cell? ⟨g, 8, none⟩ = some (.int .i64 1) := ho.cellAt 8 (by decide)
  have c9 : w'.cell? ⟨g, 9, none⟩ = some (.int .i64 3) := ho.cellAt 9 (by decide)
  clear ho hB hg1
  simp only [List.length_cons, List.length_nil, Nat.reduceAdd] at *
  go_wp2
  go_ret
  exact ⟨rfl, hB2⟩

theorem topN_bd (all rows row : Int) (h3 : 1 ≤ rows) (h5 : 0 ≤ row) (h6 : row < all) : 0 ≤ topN all rows row ∧ topN all rows row ≤ row ∧ row - topN all rows row < rows ∧ (all ≤ rows → topN all rows row = 0) ∧ (rows < all → topN all rows row + rows ≤ all) := by
  unfold topN; omega

set_option maxRecDepth 100000 in
set_option maxHeartbeats 1000000 in
theorem wrapTops_any (all rows row : Int) (w : World) : Calls Try.prog 5 #[.int .i64 all, .int .i64 rows, .int .i64 row] w fun e w' => e = .returned (.bool true) ∧ Below w.heap.size w w' := by
  by_cases h : 1 ≤ all ∧ all ≤ 100000 ∧ 1 ≤ rows ∧ rows ≤ 500 ∧ 0 ≤ row ∧ row < all
  · obtain ⟨h1, h2, h3, h4, h5, h6⟩ := h
    obtain ⟨t1, t2, t3, t4, t5⟩ := topN_bd all rows row h3 h5 h6
    have T4 := Lib.hid t4
    have T5 := Lib.hid t5
    clear t4 t5
    by_cases h7 : all ≤ rows
    · have t4 := T4.out h7
      have e0 : (topN all rows row == 0) = true := by simp [t4]
      clear t4
      go_enter Try.func5, Try.ntmps5
      go_wp2_with (first | (go_at_call 18; refine (top_any _ _ _ _ h1 (by omega) h3 (by omega) h5 h6).mono ?_; rintro e w' ⟨rfl, rfl⟩) | (go_at_call 19; refine (refTop_any _ _ _ _ h1 (by omega) h3 (by omega) h5 h6).mono ?_; rintro e w' ⟨rfl, rfl⟩) | (go_at_call 17; refine (awake28_any _).mono ?_; rintro e w' ⟨rfl, hB⟩))
      go_ret
      exact ⟨rfl, hB⟩
    · have t5 := T5.out (by omega)
      go_enter Try.func5, Try.ntmps5
      go_wp2_with (first | (go_at_call 18; refine (top_any _ _ _ _ h1 (by omega) h3 (by omega) h5 h6).mono ?_; rintro e w' ⟨rfl, rfl⟩) | (go_at_call 19; refine (refTop_any _ _ _ _ h1 (by omega) h3 (by omega) h5 h6).mono ?_; rintro e w' ⟨rfl, rfl⟩) | (go_at_call 17; refine (awake28_any _).mono ?_; rintro e w' ⟨rfl, hB⟩))
      go_ret
      exact ⟨rfl, hB⟩
  · have h' : all < 1 ∨ (1 ≤ all ∧ 100000 < all) ∨ (1 ≤ all ∧ all ≤ 100000 ∧ rows < 1) ∨ (1 ≤ all ∧ all ≤ 100000 ∧ 1 ≤ rows ∧ 500 < rows) ∨ (1 ≤ all ∧ all ≤ 100000 ∧ 1 ≤ rows ∧ rows ≤ 500 ∧ row < 0) ∨ (1 ≤ all ∧ all ≤ 100000 ∧ 1 ≤ rows ∧ rows ≤ 500 ∧ 0 ≤ row ∧ all ≤ row) := by omega
    rcases h' with h1 | ⟨h1, h2⟩ | ⟨h1, h2, h3⟩ | ⟨h1, h2, h3, h4⟩ | ⟨h1, h2, h3, h4, h5⟩ | ⟨h1, h2, h3, h4, h5, h6⟩
    all_goals
      clear h
      go_enter Try.func5, Try.ntmps5
      go_wp2_with (go_at_call 17; refine (awake28_any _).mono ?_; rintro e w' ⟨rfl, hB⟩)
      go_ret
      exact ⟨rfl, hB⟩

theorem fewl_thin (l : List Gl) : thin (fewl l) := by
  intro g hg
  unfold fewl at hg
  obtain ⟨x, _, rfl⟩ := List.mem_map.1 hg
  dsimp only
  omega


end Go.Proofs.Ytokenlecnbploaa
