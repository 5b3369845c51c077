/- Joined texts: ApiB. -/
import Derived.Test.YtblajooebmjfoaaZaac
/- api.Rows: its eight literals. -/
namespace Go.Proofs.Ytblajooebmjfoaa
open Go.RowKit

set_option maxRecDepth 100000 in
theorem classes_any (w : World) : Calls Try.prog 39 #[] w (LitPost (rowsFn Try.f39) w) := by
  go_enter Try.func39, Try.ntmps39
  iterate 10 go_step
  refine wpList_rowsR 82 (rowsFn Try.f39) rfl (.slice none 0 0) (by kernel_rfl) (by kernel_rfl) rfl rfl rfl rfl rfl rfl Try.underlying24 (by kernel_rfl) (by kernel_rfl) (by decide) (by decide) (by kernel_rfl) ?_
  intro a'' h0 hdf
  iterate 3 go_step
  refine bodyPost_ret (results_tmp rfl _ _ _) hdf ?_
  rw [h0]
  exact litPost w _ 82 (by kernel_rfl) (of_decide_eq_true (by kernel_rfl))
set_option maxRecDepth 100000 in
theorem pairs_any (w : World) : Calls Try.prog 40 #[] w (LitPost (rowsFn Try.f40) w) := by
  go_enter Try.func40, Try.ntmps40
  iterate 10 go_step
  refine wpList_rowsR 178 (rowsFn Try.f40) rfl (.slice none 0 0) (by kernel_rfl) (by kernel_rfl) rfl rfl rfl rfl rfl rfl Try.underlying24 (by kernel_rfl) (by kernel_rfl) (by decide) (by decide) (by kernel_rfl) ?_
  intro a'' h0 hdf
  iterate 3 go_step
  refine bodyPost_ret (results_tmp rfl _ _ _) hdf ?_
  rw [h0]
  exact litPost w _ 178 (by kernel_rfl) (of_decide_eq_true (by kernel_rfl))
set_option maxRecDepth 100000 in
theorem outs_any (w : World) : Calls Try.prog 41 #[] w (LitPost (rowsFn Try.f41) w) := by
  go_enter Try.func41, Try.ntmps41
  iterate 10 go_step
  refine wpList_rowsR 8 (rowsFn Try.f41) rfl (.slice none 0 0) (by kernel_rfl) (by kernel_rfl) rfl rfl rfl rfl rfl rfl Try.underlying24 (by kernel_rfl) (by kernel_rfl) (by decide) (by decide) (by kernel_rfl) ?_
  intro a'' h0 hdf
  iterate 3 go_step
  refine bodyPost_ret (results_tmp rfl _ _ _) hdf ?_
  rw [h0]
  exact litPost w _ 8 (by kernel_rfl) (of_decide_eq_true (by kernel_rfl))
set_option maxRecDepth 100000 in
theorem breaks_any (w : World) : Calls Try.prog 42 #[] w (LitPost (rowsFn Try.f42) w) := by
  go_enter Try.func42, Try.ntmps42
  iterate 10 go_step
  refine wpList_rowsR 69 (rowsFn Try.f42) rfl (.slice none 0 0) (by kernel_rfl) (by kernel_rfl) rfl rfl rfl rfl rfl rfl Try.underlying24 (by kernel_rfl) (by kernel_rfl) (by decide) (by decide) (by kernel_rfl) ?_
  intro a'' h0 hdf
  iterate 3 go_step
  refine bodyPost_ret (results_tmp rfl _ _ _) hdf ?_
  rw [h0]
  exact litPost w _ 69 (by kernel_rfl) (of_decide_eq_true (by kernel_rfl))
set_option maxRecDepth 100000 in
theorem picts_any (w : World) : Calls Try.prog 43 #[] w (LitPost (rowsFn Try.f43) w) := by
  go_enter Try.func43, Try.ntmps43
  iterate 10 go_step
  refine wpList_rowsR 22 (rowsFn Try.f43) rfl (.slice none 0 0) (by kernel_rfl) (by kernel_rfl) rfl rfl rfl rfl rfl rfl Try.underlying24 (by kernel_rfl) (by kernel_rfl) (by decide) (by decide) (by kernel_rfl) ?_
  intro a'' h0 hdf
  iterate 3 go_step
  refine bodyPost_ret (results_tmp rfl _ _ _) hdf ?_
  rw [h0]
  exact litPost w _ 22 (by kernel_rfl) (of_decide_eq_true (by kernel_rfl))
set_option maxRecDepth 100000 in
theorem conjs_any (w : World) : Calls Try.prog 44 #[] w (LitPost (rowsFn Try.f44) w) := by
  go_enter Try.func44, Try.ntmps44
  iterate 10 go_step
  refine wpList_rowsR 5 (rowsFn Try.f44) rfl (.slice none 0 0) (by kernel_rfl) (by kernel_rfl) rfl rfl rfl rfl rfl rfl Try.underlying24 (by kernel_rfl) (by kernel_rfl) (by decide) (by decide) (by kernel_rfl) ?_
  intro a'' h0 hdf
  iterate 3 go_step
  refine bodyPost_ret (results_tmp rfl _ _ _) hdf ?_
  rw [h0]
  exact litPost w _ 5 (by kernel_rfl) (of_decide_eq_true (by kernel_rfl))
set_option maxRecDepth 100000 in
theorem wides_any (w : World) : Calls Try.prog 45 #[] w (LitPost (rowsFn Try.f45) w) := by
  go_enter Try.func45, Try.ntmps45
  iterate 10 go_step
  refine wpList_rowsR 21 (rowsFn Try.f45) rfl (.slice none 0 0) (by kernel_rfl) (by kernel_rfl) rfl rfl rfl rfl rfl rfl Try.underlying24 (by kernel_rfl) (by kernel_rfl) (by decide) (by decide) (by kernel_rfl) ?_
  intro a'' h0 hdf
  iterate 3 go_step
  refine bodyPost_ret (results_tmp rfl _ _ _) hdf ?_
  rw [h0]
  exact litPost w _ 21 (by kernel_rfl) (of_decide_eq_true (by kernel_rfl))
set_option maxRecDepth 100000 in
theorem letters_any (w : World) : Calls Try.prog 46 #[] w (LitPost (rowsFn Try.f46) w) := by
  go_enter Try.func46, Try.ntmps46
  iterate 10 go_step
  refine wpList_rowsR 34 (rowsFn Try.f46) rfl (.slice none 0 0) (by kernel_rfl) (by kernel_rfl) rfl rfl rfl rfl rfl rfl Try.underlying24 (by kernel_rfl) (by kernel_rfl) (by decide) (by decide) (by kernel_rfl) ?_
  intro a'' h0 hdf
  iterate 3 go_step
  refine bodyPost_ret (results_tmp rfl _ _ _) hdf ?_
  rw [h0]
  exact litPost w _ 34 (by kernel_rfl) (of_decide_eq_true (by kernel_rfl))
end Go.Proofs.Ytblajooebmjfoaa
