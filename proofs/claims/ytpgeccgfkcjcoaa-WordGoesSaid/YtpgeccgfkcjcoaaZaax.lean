/- Joined texts: ApiB. -/
import Derived.Test.YtpgeccgfkcjcoaaZaac
/- api.Rows: its eight literals. -/
namespace Go.Proofs.Ytpgeccgfkcjcoaa
open Go.RowKit

set_option maxRecDepth 100000 in
theorem classes_any (w : World) : Calls Try.prog 48 #[] w (LitPost (rowsFn Try.f48) w) := by
  go_enter Try.func48, Try.ntmps48
  iterate 10 go_step
  refine wpList_rowsR 82 (rowsFn Try.f48) rfl (.slice none 0 0) (by kernel_rfl) (by kernel_rfl) rfl rfl rfl rfl rfl rfl Try.underlying24 (by kernel_rfl) (by kernel_rfl) (by decide) (by decide) (by kernel_rfl) ?_
  intro a'' h0 hdf
  iterate 3 go_step
  refine bodyPost_ret (results_tmp rfl _ _ _) hdf ?_
  rw [h0]
  exact litPost w _ 82 (by kernel_rfl) (of_decide_eq_true (by kernel_rfl))
set_option maxRecDepth 100000 in
theorem pairs_any (w : World) : Calls Try.prog 49 #[] w (LitPost (rowsFn Try.f49) w) := by
  go_enter Try.func49, Try.ntmps49
  iterate 10 go_step
  refine wpList_rowsR 178 (rowsFn Try.f49) rfl (.slice none 0 0) (by kernel_rfl) (by kernel_rfl) rfl rfl rfl rfl rfl rfl Try.underlying24 (by kernel_rfl) (by kernel_rfl) (by decide) (by decide) (by kernel_rfl) ?_
  intro a'' h0 hdf
  iterate 3 go_step
  refine bodyPost_ret (results_tmp rfl _ _ _) hdf ?_
  rw [h0]
  exact litPost w _ 178 (by kernel_rfl) (of_decide_eq_true (by kernel_rfl))
set_option maxRecDepth 100000 in
theorem outs_any (w : World) : Calls Try.prog 50 #[] w (LitPost (rowsFn Try.f50) w) := by
  go_enter Try.func50, Try.ntmps50
  iterate 10 go_step
  refine wpList_rowsR 8 (rowsFn Try.f50) rfl (.slice none 0 0) (by kernel_rfl) (by kernel_rfl) rfl rfl rfl rfl rfl rfl Try.underlying24 (by kernel_rfl) (by kernel_rfl) (by decide) (by decide) (by kernel_rfl) ?_
  intro a'' h0 hdf
  iterate 3 go_step
  refine bodyPost_ret (results_tmp rfl _ _ _) hdf ?_
  rw [h0]
  exact litPost w _ 8 (by kernel_rfl) (of_decide_eq_true (by kernel_rfl))
set_option maxRecDepth 100000 in
theorem breaks_any (w : World) : Calls Try.prog 51 #[] w (LitPost (rowsFn Try.f51) w) := by
  go_enter Try.func51, Try.ntmps51
  iterate 10 go_step
  refine wpList_rowsR 69 (rowsFn Try.f51) rfl (.slice none 0 0) (by kernel_rfl) (by kernel_rfl) rfl rfl rfl rfl rfl rfl Try.underlying24 (by kernel_rfl) (by kernel_rfl) (by decide) (by decide) (by kernel_rfl) ?_
  intro a'' h0 hdf
  iterate 3 go_step
  refine bodyPost_ret (results_tmp rfl _ _ _) hdf ?_
  rw [h0]
  exact litPost w _ 69 (by kernel_rfl) (of_decide_eq_true (by kernel_rfl))
set_option maxRecDepth 100000 in
theorem picts_any (w : World) : Calls Try.prog 52 #[] w (LitPost (rowsFn Try.f52) w) := by
  go_enter Try.func52, Try.ntmps52
  iterate 10 go_step
  refine wpList_rowsR 22 (rowsFn Try.f52) rfl (.slice none 0 0) (by kernel_rfl) (by kernel_rfl) rfl rfl rfl rfl rfl rfl Try.underlying24 (by kernel_rfl) (by kernel_rfl) (by decide) (by decide) (by kernel_rfl) ?_
  intro a'' h0 hdf
  iterate 3 go_step
  refine bodyPost_ret (results_tmp rfl _ _ _) hdf ?_
  rw [h0]
  exact litPost w _ 22 (by kernel_rfl) (of_decide_eq_true (by kernel_rfl))
set_option maxRecDepth 100000 in
theorem conjs_any (w : World) : Calls Try.prog 53 #[] w (LitPost (rowsFn Try.f53) w) := by
  go_enter Try.func53, Try.ntmps53
  iterate 10 go_step
  refine wpList_rowsR 5 (rowsFn Try.f53) rfl (.slice none 0 0) (by kernel_rfl) (by kernel_rfl) rfl rfl rfl rfl rfl rfl Try.underlying24 (by kernel_rfl) (by kernel_rfl) (by decide) (by decide) (by kernel_rfl) ?_
  intro a'' h0 hdf
  iterate 3 go_step
  refine bodyPost_ret (results_tmp rfl _ _ _) hdf ?_
  rw [h0]
  exact litPost w _ 5 (by kernel_rfl) (of_decide_eq_true (by kernel_rfl))
set_option maxRecDepth 100000 in
theorem wides_any (w : World) : Calls Try.prog 54 #[] w (LitPost (rowsFn Try.f54) w) := by
  go_enter Try.func54, Try.ntmps54
  iterate 10 go_step
  refine wpList_rowsR 21 (rowsFn Try.f54) rfl (.slice none 0 0) (by kernel_rfl) (by kernel_rfl) rfl rfl rfl rfl rfl rfl Try.underlying24 (by kernel_rfl) (by kernel_rfl) (by decide) (by decide) (by kernel_rfl) ?_
  intro a'' h0 hdf
  iterate 3 go_step
  refine bodyPost_ret (results_tmp rfl _ _ _) hdf ?_
  rw [h0]
  exact litPost w _ 21 (by kernel_rfl) (of_decide_eq_true (by kernel_rfl))
set_option maxRecDepth 100000 in
theorem letters_any (w : World) : Calls Try.prog 55 #[] w (LitPost (rowsFn Try.f55) w) := by
  go_enter Try.func55, Try.ntmps55
  iterate 10 go_step
  refine wpList_rowsR 34 (rowsFn Try.f55) rfl (.slice none 0 0) (by kernel_rfl) (by kernel_rfl) rfl rfl rfl rfl rfl rfl Try.underlying24 (by kernel_rfl) (by kernel_rfl) (by decide) (by decide) (by kernel_rfl) ?_
  intro a'' h0 hdf
  iterate 3 go_step
  refine bodyPost_ret (results_tmp rfl _ _ _) hdf ?_
  rw [h0]
  exact litPost w _ 34 (by kernel_rfl) (of_decide_eq_true (by kernel_rfl))
end Go.Proofs.Ytpgeccgfkcjcoaa
