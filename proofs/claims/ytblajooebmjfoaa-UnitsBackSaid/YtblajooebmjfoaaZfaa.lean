/- Joined texts: UnitG. -/
import Derived.Test.YtblajooebmjfoaaZeac
/- UnitsNone: its walk. -/
namespace Go.Proofs.Ytblajooebmjfoaa
open Go.RowKit

theorem cnt_nil (k : Nat) (n : Int) : cntLe [] k n = 0 := rfl
theorem atP_nil (f n : Int) : atP [] f n = noP := by
  unfold atP
  split
  · rfl
  · rfl
theorem turn_nil (f n t : Int) : turnN [] f n t = 0 := by
  unfold turnN
  rw [atP_nil]
  split
  · match t.toNat with
    | 0 => rfl
    | 1 => rfl
    | 2 => rfl
    | 3 => rfl
    | _ + 4 => rfl
  · rfl
theorem endP_nil : endP [] = noP := rfl
theorem fin41 {w w1 : World} (h1 : Below w.heap.size w w1) : Calls Try.prog 38 #[] w1 fun e w' => e = .returned (.bool true) ∧ Below w.heap.size w w' := by
  refine (awake41_any w1).mono ?_
  rintro e w' ⟨rfl, hB⟩
  exact ⟨rfl, below_trans' h1 hB⟩
theorem kind_cases (k : Int) : ((0 ≤ k ∧ k ≤ 4) ∧ kindOk k = true) ∨ (k < 0 ∧ kindOk k = false) ∨ ((0 ≤ k ∧ decide (k ≤ 4) = false) ∧ kindOk k = false) := by
  unfold kindOk
  by_cases h1 : 0 ≤ k
  · by_cases h2 : k ≤ 4
    · exact .inl ⟨⟨h1, h2⟩, by simp [h1, h2]⟩
    · exact .inr (.inr ⟨⟨h1, by simp [h2]⟩, by simp [h2]⟩)
  · exact .inr (.inl ⟨by omega, by simp [h1]⟩)
set_option maxRecDepth 100000 in
set_option maxHeartbeats 8000000 in
theorem unitsNone_any (kind n t : Int) (w : World) :
    Calls Try.prog 10 #[.int .i64 kind, .int .i64 n, .int .i64 t] w fun e w' => e = .returned (.bool true) ∧ Below w.heap.size w w' := by
  have hb0 := below1 w (.cells #[.slice none 0 0] 64)
  have c0 := row_cells (i := 0) (heap_alloc_new w (.cells #[.slice none 0 0] 64)) rfl
  have HB0 := Lib.hid hb0
  clear hb0
  go_enter Try.func10, Try.ntmps10
  go_wp2_with fail
  generalize w.alloc (.cells #[.slice none 0 0] 64) = w0 at c0 HB0 ⊢
  generalize w.heap.size = xb at c0 ⊢
  refine (uat_any kind n (map_zero w0) List.Pairwise.nil (by decide)).mono ?_
  rintro e w1 ⟨rfl, hB1⟩
  rw [atP_nil]
  unfold psV
  have hb2 := below1 w1 (.cells #[.int .i64 0, .int .i64 0, .int .i64 0, .int .i64 0, .int .i64 0] 67)
  have hr := heap_alloc_new w1 (.cells #[.int .i64 0, .int .i64 0, .int .i64 0, .int .i64 0, .int .i64 0] 67)
  have d0 := row_cells (i := 0) hr rfl
  have d1 := row_cells (i := 1) hr rfl
  have d2 := row_cells (i := 2) hr rfl
  have d3 := row_cells (i := 3) hr rfl
  have d4 := row_cells (i := 4) hr rfl
  have c0 := cell_later hb2 (cell_later hB1 c0)
  have HB2 := Lib.hid (below_trans' (below_trans' HB0.out hB1) hb2)
  clear hB1 hb2 HB0 hr
  go_wp2_with fail
  generalize w1.alloc (.cells #[.int .i64 0, .int .i64 0, .int .i64 0, .int .i64 0, .int .i64 0] 67) = w2 at c0 d0 d1 d2 d3 d4 HB2 ⊢
  generalize w1.heap.size = yb at d0 d1 d2 d3 d4 ⊢
  refine (uturn_any kind n t (map_zero w2) List.Pairwise.nil (by decide)).mono ?_
  rintro e w3 ⟨rfl, hB3⟩
  rw [turn_nil]
  have c0 := cell_later hB3 c0
  have d0 := cell_later hB3 d0
  have d1 := cell_later hB3 d1
  have d2 := cell_later hB3 d2
  have d3 := cell_later hB3 d3
  have d4 := cell_later hB3 d4
  have HB3 := Lib.hid (below_trans' HB2.out hB3)
  have t1 := eqin_pos noP noP w3
  rw [show decide ((noP : Ps) = noP) = true from rfl] at t1
  clear hB3 HB2
  rcases kind_cases kind with ⟨⟨k1, k2⟩, k3⟩ | ⟨k1, k3⟩ | ⟨⟨k1, k2⟩, k3⟩
  all_goals rcases kind_cases t with ⟨⟨t2, t3⟩, t4⟩ | ⟨t2, t4⟩ | ⟨⟨t2, t3⟩, t4⟩
  all_goals
    simp only [k3, t4, Bool.and_true, Bool.and_false]
    clear k3 t4
    go_wp2_with fail
    refine (ulen_any (map_zero w3)).mono ?_
    rintro e w4 ⟨rfl, hB4⟩
    rw [endP_nil]
    unfold psV
    have HB4 := Lib.hid (below_trans' HB3.out hB4)
    have t5 := eqin_pos noP noP w4
    rw [show decide ((noP : Ps) = noP) = true from rfl] at t5
    clear hB4 t1
    go_wp2_with fail
    refine (fin41 HB4.out).mono ?_
    rintro e w5 ⟨rfl, hB5⟩
    go_wp2_with fail
    go_ret
    exact ⟨rfl, hB5⟩
end Go.Proofs.Ytblajooebmjfoaa
