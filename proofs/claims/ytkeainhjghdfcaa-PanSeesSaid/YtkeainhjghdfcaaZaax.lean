/- Joined texts: ApiB. -/
import Derived.Test.YtkeainhjghdfcaaZaac
/- api.Rows: its eight literals. -/
namespace Go.Proofs.Ytkeainhjghdfcaa
open Go.RowKit

set_option maxRecDepth 100000 in
theorem classes_any (w : World) : Calls Try.prog 20 #[] w (LitPost (rowsFn Try.f20) w) := by
  go_enter Try.func20, Try.ntmps20
  iterate 10 go_step
  refine wpList_rowsR 82 (rowsFn Try.f20) rfl (.slice none 0 0) (by kernel_rfl) (by kernel_rfl) rfl rfl rfl rfl rfl rfl Try.underlying41 (by kernel_rfl) (by kernel_rfl) (by decide) (by decide) (by kernel_rfl) ?_
  intro a'' h0 hdf
  iterate 3 go_step
  refine bodyPost_ret (results_tmp rfl _ _ _) hdf ?_
  rw [h0]
  exact litPost w _ 82 (by kernel_rfl) (of_decide_eq_true (by kernel_rfl))
set_option maxRecDepth 100000 in
theorem pairs_any (w : World) : Calls Try.prog 21 #[] w (LitPost (rowsFn Try.f21) w) := by
  go_enter Try.func21, Try.ntmps21
  iterate 10 go_step
  refine wpList_rowsR 178 (rowsFn Try.f21) rfl (.slice none 0 0) (by kernel_rfl) (by kernel_rfl) rfl rfl rfl rfl rfl rfl Try.underlying41 (by kernel_rfl) (by kernel_rfl) (by decide) (by decide) (by kernel_rfl) ?_
  intro a'' h0 hdf
  iterate 3 go_step
  refine bodyPost_ret (results_tmp rfl _ _ _) hdf ?_
  rw [h0]
  exact litPost w _ 178 (by kernel_rfl) (of_decide_eq_true (by kernel_rfl))
set_option maxRecDepth 100000 in
theorem outs_any (w : World) : Calls Try.prog 22 #[] w (LitPost (rowsFn Try.f22) w) := by
  go_enter Try.func22, Try.ntmps22
  iterate 10 go_step
  refine wpList_rowsR 8 (rowsFn Try.f22) rfl (.slice none 0 0) (by kernel_rfl) (by kernel_rfl) rfl rfl rfl rfl rfl rfl Try.underlying41 (by kernel_rfl) (by kernel_rfl) (by decide) (by decide) (by kernel_rfl) ?_
  intro a'' h0 hdf
  iterate 3 go_step
  refine bodyPost_ret (results_tmp rfl _ _ _) hdf ?_
  rw [h0]
  exact litPost w _ 8 (by kernel_rfl) (of_decide_eq_true (by kernel_rfl))
set_option maxRecDepth 100000 in
theorem breaks_any (w : World) : Calls Try.prog 23 #[] w (LitPost (rowsFn Try.f23) w) := by
  go_enter Try.func23, Try.ntmps23
  iterate 10 go_step
  refine wpList_rowsR 69 (rowsFn Try.f23) rfl (.slice none 0 0) (by kernel_rfl) (by kernel_rfl) rfl rfl rfl rfl rfl rfl Try.underlying41 (by kernel_rfl) (by kernel_rfl) (by decide) (by decide) (by kernel_rfl) ?_
  intro a'' h0 hdf
  iterate 3 go_step
  refine bodyPost_ret (results_tmp rfl _ _ _) hdf ?_
  rw [h0]
  exact litPost w _ 69 (by kernel_rfl) (of_decide_eq_true (by kernel_rfl))
set_option maxRecDepth 100000 in
theorem picts_any (w : World) : Calls Try.prog 24 #[] w (LitPost (rowsFn Try.f24) w) := by
  go_enter Try.func24, Try.ntmps24
  iterate 10 go_step
  refine wpList_rowsR 22 (rowsFn Try.f24) rfl (.slice none 0 0) (by kernel_rfl) (by kernel_rfl) rfl rfl rfl rfl rfl rfl Try.underlying41 (by kernel_rfl) (by kernel_rfl) (by decide) (by decide) (by kernel_rfl) ?_
  intro a'' h0 hdf
  iterate 3 go_step
  refine bodyPost_ret (results_tmp rfl _ _ _) hdf ?_
  rw [h0]
  exact litPost w _ 22 (by kernel_rfl) (of_decide_eq_true (by kernel_rfl))
set_option maxRecDepth 100000 in
theorem conjs_any (w : World) : Calls Try.prog 25 #[] w (LitPost (rowsFn Try.f25) w) := by
  go_enter Try.func25, Try.ntmps25
  iterate 10 go_step
  refine wpList_rowsR 5 (rowsFn Try.f25) rfl (.slice none 0 0) (by kernel_rfl) (by kernel_rfl) rfl rfl rfl rfl rfl rfl Try.underlying41 (by kernel_rfl) (by kernel_rfl) (by decide) (by decide) (by kernel_rfl) ?_
  intro a'' h0 hdf
  iterate 3 go_step
  refine bodyPost_ret (results_tmp rfl _ _ _) hdf ?_
  rw [h0]
  exact litPost w _ 5 (by kernel_rfl) (of_decide_eq_true (by kernel_rfl))
set_option maxRecDepth 100000 in
theorem wides_any (w : World) : Calls Try.prog 26 #[] w (LitPost (rowsFn Try.f26) w) := by
  go_enter Try.func26, Try.ntmps26
  iterate 10 go_step
  refine wpList_rowsR 21 (rowsFn Try.f26) rfl (.slice none 0 0) (by kernel_rfl) (by kernel_rfl) rfl rfl rfl rfl rfl rfl Try.underlying41 (by kernel_rfl) (by kernel_rfl) (by decide) (by decide) (by kernel_rfl) ?_
  intro a'' h0 hdf
  iterate 3 go_step
  refine bodyPost_ret (results_tmp rfl _ _ _) hdf ?_
  rw [h0]
  exact litPost w _ 21 (by kernel_rfl) (of_decide_eq_true (by kernel_rfl))
set_option maxRecDepth 100000 in
theorem letters_any (w : World) : Calls Try.prog 27 #[] w (LitPost (rowsFn Try.f27) w) := by
  go_enter Try.func27, Try.ntmps27
  iterate 10 go_step
  refine wpList_rowsR 34 (rowsFn Try.f27) rfl (.slice none 0 0) (by kernel_rfl) (by kernel_rfl) rfl rfl rfl rfl rfl rfl Try.underlying41 (by kernel_rfl) (by kernel_rfl) (by decide) (by decide) (by kernel_rfl) ?_
  intro a'' h0 hdf
  iterate 3 go_step
  refine bodyPost_ret (results_tmp rfl _ _ _) hdf ?_
  rw [h0]
  exact litPost w _ 34 (by kernel_rfl) (of_decide_eq_true (by kernel_rfl))
end Go.Proofs.Ytkeainhjghdfcaa
