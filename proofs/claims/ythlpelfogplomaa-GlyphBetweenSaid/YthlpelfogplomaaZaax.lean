/- Joined texts: ApiB. -/
import Derived.Test.YthlpelfogplomaaZaac
/- api.Rows: its eight literals. -/
namespace Go.Proofs.Ythlpelfogplomaa
open Go.RowKit

set_option maxRecDepth 100000 in
theorem classes_any (w : World) : Calls Try.prog 34 #[] w (LitPost (rowsFn Try.f34) w) := by
  go_enter Try.func34, Try.ntmps34
  iterate 10 go_step
  refine wpList_rowsR 82 (rowsFn Try.f34) rfl (.slice none 0 0) (by kernel_rfl) (by kernel_rfl) rfl rfl rfl rfl rfl rfl Try.underlying24 (by kernel_rfl) (by kernel_rfl) (by decide) (by decide) (by kernel_rfl) ?_
  intro a'' h0 hdf
  iterate 3 go_step
  refine bodyPost_ret (results_tmp rfl _ _ _) hdf ?_
  rw [h0]
  exact litPost w _ 82 (by kernel_rfl) (of_decide_eq_true (by kernel_rfl))
set_option maxRecDepth 100000 in
theorem pairs_any (w : World) : Calls Try.prog 35 #[] w (LitPost (rowsFn Try.f35) w) := by
  go_enter Try.func35, Try.ntmps35
  iterate 10 go_step
  refine wpList_rowsR 178 (rowsFn Try.f35) rfl (.slice none 0 0) (by kernel_rfl) (by kernel_rfl) rfl rfl rfl rfl rfl rfl Try.underlying24 (by kernel_rfl) (by kernel_rfl) (by decide) (by decide) (by kernel_rfl) ?_
  intro a'' h0 hdf
  iterate 3 go_step
  refine bodyPost_ret (results_tmp rfl _ _ _) hdf ?_
  rw [h0]
  exact litPost w _ 178 (by kernel_rfl) (of_decide_eq_true (by kernel_rfl))
set_option maxRecDepth 100000 in
theorem outs_any (w : World) : Calls Try.prog 36 #[] w (LitPost (rowsFn Try.f36) w) := by
  go_enter Try.func36, Try.ntmps36
  iterate 10 go_step
  refine wpList_rowsR 8 (rowsFn Try.f36) rfl (.slice none 0 0) (by kernel_rfl) (by kernel_rfl) rfl rfl rfl rfl rfl rfl Try.underlying24 (by kernel_rfl) (by kernel_rfl) (by decide) (by decide) (by kernel_rfl) ?_
  intro a'' h0 hdf
  iterate 3 go_step
  refine bodyPost_ret (results_tmp rfl _ _ _) hdf ?_
  rw [h0]
  exact litPost w _ 8 (by kernel_rfl) (of_decide_eq_true (by kernel_rfl))
set_option maxRecDepth 100000 in
theorem breaks_any (w : World) : Calls Try.prog 37 #[] w (LitPost (rowsFn Try.f37) w) := by
  go_enter Try.func37, Try.ntmps37
  iterate 10 go_step
  refine wpList_rowsR 69 (rowsFn Try.f37) rfl (.slice none 0 0) (by kernel_rfl) (by kernel_rfl) rfl rfl rfl rfl rfl rfl Try.underlying24 (by kernel_rfl) (by kernel_rfl) (by decide) (by decide) (by kernel_rfl) ?_
  intro a'' h0 hdf
  iterate 3 go_step
  refine bodyPost_ret (results_tmp rfl _ _ _) hdf ?_
  rw [h0]
  exact litPost w _ 69 (by kernel_rfl) (of_decide_eq_true (by kernel_rfl))
set_option maxRecDepth 100000 in
theorem picts_any (w : World) : Calls Try.prog 38 #[] w (LitPost (rowsFn Try.f38) w) := by
  go_enter Try.func38, Try.ntmps38
  iterate 10 go_step
  refine wpList_rowsR 22 (rowsFn Try.f38) rfl (.slice none 0 0) (by kernel_rfl) (by kernel_rfl) rfl rfl rfl rfl rfl rfl Try.underlying24 (by kernel_rfl) (by kernel_rfl) (by decide) (by decide) (by kernel_rfl) ?_
  intro a'' h0 hdf
  iterate 3 go_step
  refine bodyPost_ret (results_tmp rfl _ _ _) hdf ?_
  rw [h0]
  exact litPost w _ 22 (by kernel_rfl) (of_decide_eq_true (by kernel_rfl))
set_option maxRecDepth 100000 in
theorem conjs_any (w : World) : Calls Try.prog 39 #[] w (LitPost (rowsFn Try.f39) w) := by
  go_enter Try.func39, Try.ntmps39
  iterate 10 go_step
  refine wpList_rowsR 5 (rowsFn Try.f39) rfl (.slice none 0 0) (by kernel_rfl) (by kernel_rfl) rfl rfl rfl rfl rfl rfl Try.underlying24 (by kernel_rfl) (by kernel_rfl) (by decide) (by decide) (by kernel_rfl) ?_
  intro a'' h0 hdf
  iterate 3 go_step
  refine bodyPost_ret (results_tmp rfl _ _ _) hdf ?_
  rw [h0]
  exact litPost w _ 5 (by kernel_rfl) (of_decide_eq_true (by kernel_rfl))
set_option maxRecDepth 100000 in
theorem wides_any (w : World) : Calls Try.prog 40 #[] w (LitPost (rowsFn Try.f40) w) := by
  go_enter Try.func40, Try.ntmps40
  iterate 10 go_step
  refine wpList_rowsR 21 (rowsFn Try.f40) rfl (.slice none 0 0) (by kernel_rfl) (by kernel_rfl) rfl rfl rfl rfl rfl rfl Try.underlying24 (by kernel_rfl) (by kernel_rfl) (by decide) (by decide) (by kernel_rfl) ?_
  intro a'' h0 hdf
  iterate 3 go_step
  refine bodyPost_ret (results_tmp rfl _ _ _) hdf ?_
  rw [h0]
  exact litPost w _ 21 (by kernel_rfl) (of_decide_eq_true (by kernel_rfl))
set_option maxRecDepth 100000 in
theorem letters_any (w : World) : Calls Try.prog 41 #[] w (LitPost (rowsFn Try.f41) w) := by
  go_enter Try.func41, Try.ntmps41
  iterate 10 go_step
  refine wpList_rowsR 34 (rowsFn Try.f41) rfl (.slice none 0 0) (by kernel_rfl) (by kernel_rfl) rfl rfl rfl rfl rfl rfl Try.underlying24 (by kernel_rfl) (by kernel_rfl) (by decide) (by decide) (by kernel_rfl) ?_
  intro a'' h0 hdf
  iterate 3 go_step
  refine bodyPost_ret (results_tmp rfl _ _ _) hdf ?_
  rw [h0]
  exact litPost w _ 34 (by kernel_rfl) (of_decide_eq_true (by kernel_rfl))
end Go.Proofs.Ythlpelfogplomaa
