/- Joined texts: ApiB. -/
import Derived.Test.YthlpelfogplomaaGreatZaac
/- api.Rows: its eight literals. -/
namespace Go.Proofs.YthlpelfogplomaaGreat
open Go.RowKit

set_option maxRecDepth 100000 in
theorem classes_any (w : World) : Calls Tryz.prog 31 #[] w (LitPost (rowsFn Tryz.f31) w) := by
  go_enter Tryz.func31, Tryz.ntmps31
  iterate 10 go_step
  refine wpList_rowsR 82 (rowsFn Tryz.f31) rfl (.slice none 0 0) (by kernel_rfl) (by kernel_rfl) rfl rfl rfl rfl rfl rfl Tryz.underlying24 (by kernel_rfl) (by kernel_rfl) (by decide) (by decide) (by kernel_rfl) ?_
  intro a'' h0 hdf
  iterate 3 go_step
  refine bodyPost_ret (results_tmp rfl _ _ _) hdf ?_
  rw [h0]
  exact litPost w _ 82 (by kernel_rfl) (of_decide_eq_true (by kernel_rfl))
set_option maxRecDepth 100000 in
theorem pairs_any (w : World) : Calls Tryz.prog 32 #[] w (LitPost (rowsFn Tryz.f32) w) := by
  go_enter Tryz.func32, Tryz.ntmps32
  iterate 10 go_step
  refine wpList_rowsR 178 (rowsFn Tryz.f32) rfl (.slice none 0 0) (by kernel_rfl) (by kernel_rfl) rfl rfl rfl rfl rfl rfl Tryz.underlying24 (by kernel_rfl) (by kernel_rfl) (by decide) (by decide) (by kernel_rfl) ?_
  intro a'' h0 hdf
  iterate 3 go_step
  refine bodyPost_ret (results_tmp rfl _ _ _) hdf ?_
  rw [h0]
  exact litPost w _ 178 (by kernel_rfl) (of_decide_eq_true (by kernel_rfl))
set_option maxRecDepth 100000 in
theorem outs_any (w : World) : Calls Tryz.prog 33 #[] w (LitPost (rowsFn Tryz.f33) w) := by
  go_enter Tryz.func33, Tryz.ntmps33
  iterate 10 go_step
  refine wpList_rowsR 8 (rowsFn Tryz.f33) rfl (.slice none 0 0) (by kernel_rfl) (by kernel_rfl) rfl rfl rfl rfl rfl rfl Tryz.underlying24 (by kernel_rfl) (by kernel_rfl) (by decide) (by decide) (by kernel_rfl) ?_
  intro a'' h0 hdf
  iterate 3 go_step
  refine bodyPost_ret (results_tmp rfl _ _ _) hdf ?_
  rw [h0]
  exact litPost w _ 8 (by kernel_rfl) (of_decide_eq_true (by kernel_rfl))
set_option maxRecDepth 100000 in
theorem breaks_any (w : World) : Calls Tryz.prog 34 #[] w (LitPost (rowsFn Tryz.f34) w) := by
  go_enter Tryz.func34, Tryz.ntmps34
  iterate 10 go_step
  refine wpList_rowsR 69 (rowsFn Tryz.f34) rfl (.slice none 0 0) (by kernel_rfl) (by kernel_rfl) rfl rfl rfl rfl rfl rfl Tryz.underlying24 (by kernel_rfl) (by kernel_rfl) (by decide) (by decide) (by kernel_rfl) ?_
  intro a'' h0 hdf
  iterate 3 go_step
  refine bodyPost_ret (results_tmp rfl _ _ _) hdf ?_
  rw [h0]
  exact litPost w _ 69 (by kernel_rfl) (of_decide_eq_true (by kernel_rfl))
set_option maxRecDepth 100000 in
theorem picts_any (w : World) : Calls Tryz.prog 35 #[] w (LitPost (rowsFn Tryz.f35) w) := by
  go_enter Tryz.func35, Tryz.ntmps35
  iterate 10 go_step
  refine wpList_rowsR 22 (rowsFn Tryz.f35) rfl (.slice none 0 0) (by kernel_rfl) (by kernel_rfl) rfl rfl rfl rfl rfl rfl Tryz.underlying24 (by kernel_rfl) (by kernel_rfl) (by decide) (by decide) (by kernel_rfl) ?_
  intro a'' h0 hdf
  iterate 3 go_step
  refine bodyPost_ret (results_tmp rfl _ _ _) hdf ?_
  rw [h0]
  exact litPost w _ 22 (by kernel_rfl) (of_decide_eq_true (by kernel_rfl))
set_option maxRecDepth 100000 in
theorem conjs_any (w : World) : Calls Tryz.prog 36 #[] w (LitPost (rowsFn Tryz.f36) w) := by
  go_enter Tryz.func36, Tryz.ntmps36
  iterate 10 go_step
  refine wpList_rowsR 5 (rowsFn Tryz.f36) rfl (.slice none 0 0) (by kernel_rfl) (by kernel_rfl) rfl rfl rfl rfl rfl rfl Tryz.underlying24 (by kernel_rfl) (by kernel_rfl) (by decide) (by decide) (by kernel_rfl) ?_
  intro a'' h0 hdf
  iterate 3 go_step
  refine bodyPost_ret (results_tmp rfl _ _ _) hdf ?_
  rw [h0]
  exact litPost w _ 5 (by kernel_rfl) (of_decide_eq_true (by kernel_rfl))
set_option maxRecDepth 100000 in
theorem wides_any (w : World) : Calls Tryz.prog 37 #[] w (LitPost (rowsFn Tryz.f37) w) := by
  go_enter Tryz.func37, Tryz.ntmps37
  iterate 10 go_step
  refine wpList_rowsR 21 (rowsFn Tryz.f37) rfl (.slice none 0 0) (by kernel_rfl) (by kernel_rfl) rfl rfl rfl rfl rfl rfl Tryz.underlying24 (by kernel_rfl) (by kernel_rfl) (by decide) (by decide) (by kernel_rfl) ?_
  intro a'' h0 hdf
  iterate 3 go_step
  refine bodyPost_ret (results_tmp rfl _ _ _) hdf ?_
  rw [h0]
  exact litPost w _ 21 (by kernel_rfl) (of_decide_eq_true (by kernel_rfl))
set_option maxRecDepth 100000 in
theorem letters_any (w : World) : Calls Tryz.prog 38 #[] w (LitPost (rowsFn Tryz.f38) w) := by
  go_enter Tryz.func38, Tryz.ntmps38
  iterate 10 go_step
  refine wpList_rowsR 34 (rowsFn Tryz.f38) rfl (.slice none 0 0) (by kernel_rfl) (by kernel_rfl) rfl rfl rfl rfl rfl rfl Tryz.underlying24 (by kernel_rfl) (by kernel_rfl) (by decide) (by decide) (by kernel_rfl) ?_
  intro a'' h0 hdf
  iterate 3 go_step
  refine bodyPost_ret (results_tmp rfl _ _ _) hdf ?_
  rw [h0]
  exact litPost w _ 34 (by kernel_rfl) (of_decide_eq_true (by kernel_rfl))
end Go.Proofs.YthlpelfogplomaaGreat
