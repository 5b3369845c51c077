/- Joined texts: ApiB. -/
import Derived.Test.YtkeainhjghdfcaaGreatCwad

/- api.Rows: its eight literals. -/
namespace Go.Proofs.YtkeainhjghdfcaaGreat
open Go.RowKit

set_option maxRecDepth 100000 in
theorem classes_any (w : World) : Calls Tryz.prog 51 #[] w (LitPost (rowsFn Tryz.f51) w) := by
  go_enter Tryz.func51, Tryz.ntmps51
  iterate 10 go_step
  refine wpList_rowsR 82 (rowsFn Tryz.f51) rfl (.slice none 0 0) (by kernel_rfl) (by kernel_rfl) rfl rfl rfl rfl rfl rfl Tryz.underlying37 (by kernel_rfl) (by kernel_rfl) (by decide) (by decide) (by kernel_rfl) ?_
  intro a'' h0 hdf
  iterate 3 go_step
  refine bodyPost_ret (results_tmp rfl _ _ _) hdf ?_
  rw [h0]
  exact litPost w _ 82 (by kernel_rfl) (of_decide_eq_true (by kernel_rfl))
set_option maxRecDepth 100000 in
theorem pairs_any (w : World) : Calls Tryz.prog 52 #[] w (LitPost (rowsFn Tryz.f52) w) := by
  go_enter Tryz.func52, Tryz.ntmps52
  iterate 10 go_step
  refine wpList_rowsR 178 (rowsFn Tryz.f52) rfl (.slice none 0 0) (by kernel_rfl) (by kernel_rfl) rfl rfl rfl rfl rfl rfl Tryz.underlying37 (by kernel_rfl) (by kernel_rfl) (by decide) (by decide) (by kernel_rfl) ?_
  intro a'' h0 hdf
  iterate 3 go_step
  refine bodyPost_ret (results_tmp rfl _ _ _) hdf ?_
  rw [h0]
  exact litPost w _ 178 (by kernel_rfl) (of_decide_eq_true (by kernel_rfl))
set_option maxRecDepth 100000 in
theorem outs_any (w : World) : Calls Tryz.prog 53 #[] w (LitPost (rowsFn Tryz.f53) w) := by
  go_enter Tryz.func53, Tryz.ntmps53
  iterate 10 go_step
  refine wpList_rowsR 8 (rowsFn Tryz.f53) rfl (.slice none 0 0) (by kernel_rfl) (by kernel_rfl) rfl rfl rfl rfl rfl rfl Tryz.underlying37 (by kernel_rfl) (by kernel_rfl) (by decide) (by decide) (by kernel_rfl) ?_
  intro a'' h0 hdf
  iterate 3 go_step
  refine bodyPost_ret (results_tmp rfl _ _ _) hdf ?_
  rw [h0]
  exact litPost w _ 8 (by kernel_rfl) (of_decide_eq_true (by kernel_rfl))
set_option maxRecDepth 100000 in
theorem breaks_any (w : World) : Calls Tryz.prog 54 #[] w (LitPost (rowsFn Tryz.f54) w) := by
  go_enter Tryz.func54, Tryz.ntmps54
  iterate 10 go_step
  refine wpList_rowsR 69 (rowsFn Tryz.f54) rfl (.slice none 0 0) (by kernel_rfl) (by kernel_rfl) rfl rfl rfl rfl rfl rfl Tryz.underlying37 (by kernel_rfl) (by kernel_rfl) (by decide) (by decide) (by kernel_rfl) ?_
  intro a'' h0 hdf
  iterate 3 go_step
  refine bodyPost_ret (results_tmp rfl _ _ _) hdf ?_
  rw [h0]
  exact litPost w _ 69 (by kernel_rfl) (of_decide_eq_true (by kernel_rfl))
set_option maxRecDepth 100000 in
theorem picts_any (w : World) : Calls Tryz.prog 55 #[] w (LitPost (rowsFn Tryz.f55) w) := by
  go_enter Tryz.func55, Tryz.ntmps55
  iterate 10 go_step
  refine wpList_rowsR 22 (rowsFn Tryz.f55) rfl (.slice none 0 0) (by kernel_rfl) (by kernel_rfl) rfl rfl rfl rfl rfl rfl Tryz.underlying37 (by kernel_rfl) (by kernel_rfl) (by decide) (by decide) (by kernel_rfl) ?_
  intro a'' h0 hdf
  iterate 3 go_step
  refine bodyPost_ret (results_tmp rfl _ _ _) hdf ?_
  rw [h0]
  exact litPost w _ 22 (by kernel_rfl) (of_decide_eq_true (by kernel_rfl))
set_option maxRecDepth 100000 in
theorem conjs_any (w : World) : Calls Tryz.prog 56 #[] w (LitPost (rowsFn Tryz.f56) w) := by
  go_enter Tryz.func56, Tryz.ntmps56
  iterate 10 go_step
  refine wpList_rowsR 5 (rowsFn Tryz.f56) rfl (.slice none 0 0) (by kernel_rfl) (by kernel_rfl) rfl rfl rfl rfl rfl rfl Tryz.underlying37 (by kernel_rfl) (by kernel_rfl) (by decide) (by decide) (by kernel_rfl) ?_
  intro a'' h0 hdf
  iterate 3 go_step
  refine bodyPost_ret (results_tmp rfl _ _ _) hdf ?_
  rw [h0]
  exact litPost w _ 5 (by kernel_rfl) (of_decide_eq_true (by kernel_rfl))
set_option maxRecDepth 100000 in
theorem wides_any (w : World) : Calls Tryz.prog 57 #[] w (LitPost (rowsFn Tryz.f57) w) := by
  go_enter Tryz.func57, Tryz.ntmps57
  iterate 10 go_step
  refine wpList_rowsR 21 (rowsFn Tryz.f57) rfl (.slice none 0 0) (by kernel_rfl) (by kernel_rfl) rfl rfl rfl rfl rfl rfl Tryz.underlying37 (by kernel_rfl) (by kernel_rfl) (by decide) (by decide) (by kernel_rfl) ?_
  intro a'' h0 hdf
  iterate 3 go_step
  refine bodyPost_ret (results_tmp rfl _ _ _) hdf ?_
  rw [h0]
  exact litPost w _ 21 (by kernel_rfl) (of_decide_eq_true (by kernel_rfl))
set_option maxRecDepth 100000 in
theorem letters_any (w : World) : Calls Tryz.prog 58 #[] w (LitPost (rowsFn Tryz.f58) w) := by
  go_enter Tryz.func58, Tryz.ntmps58
  iterate 10 go_step
  refine wpList_rowsR 34 (rowsFn Tryz.f58) rfl (.slice none 0 0) (by kernel_rfl) (by kernel_rfl) rfl rfl rfl rfl rfl rfl Tryz.underlying37 (by kernel_rfl) (by kernel_rfl) (by decide) (by decide) (by kernel_rfl) ?_
  intro a'' h0 hdf
  iterate 3 go_step
  refine bodyPost_ret (results_tmp rfl _ _ _) hdf ?_
  rw [h0]
  exact litPost w _ 34 (by kernel_rfl) (of_decide_eq_true (by kernel_rfl))
end Go.Proofs.YtkeainhjghdfcaaGreat
