/- Joined texts: ApiB. -/
import Derived.Test.YtamgngkiegbglaaZaac
/- api.Rows: its eight literals. -/
namespace Go.Proofs.Ytamgngkiegbglaa
open Go.RowKit

set_option maxRecDepth 100000 in
theorem classes_any (w : World) : Calls Try.prog 58 #[] w (LitPost (rowsFn Try.f58) w) := by
  go_enter Try.func58, Try.ntmps58
  iterate 10 go_step
  refine wpList_rowsR 82 (rowsFn Try.f58) rfl (.slice none 0 0) (by kernel_rfl) (by kernel_rfl) rfl rfl rfl rfl rfl rfl Try.underlying22 (by kernel_rfl) (by kernel_rfl) (by decide) (by decide) (by kernel_rfl) ?_
  intro a'' h0 hdf
  iterate 3 go_step
  refine bodyPost_ret (results_tmp rfl _ _ _) hdf ?_
  rw [h0]
  exact litPost w _ 82 (by kernel_rfl) (of_decide_eq_true (by kernel_rfl))
set_option maxRecDepth 100000 in
theorem pairs_any (w : World) : Calls Try.prog 59 #[] w (LitPost (rowsFn Try.f59) w) := by
  go_enter Try.func59, Try.ntmps59
  iterate 10 go_step
  refine wpList_rowsR 178 (rowsFn Try.f59) rfl (.slice none 0 0) (by kernel_rfl) (by kernel_rfl) rfl rfl rfl rfl rfl rfl Try.underlying22 (by kernel_rfl) (by kernel_rfl) (by decide) (by decide) (by kernel_rfl) ?_
  intro a'' h0 hdf
  iterate 3 go_step
  refine bodyPost_ret (results_tmp rfl _ _ _) hdf ?_
  rw [h0]
  exact litPost w _ 178 (by kernel_rfl) (of_decide_eq_true (by kernel_rfl))
set_option maxRecDepth 100000 in
theorem outs_any (w : World) : Calls Try.prog 60 #[] w (LitPost (rowsFn Try.f60) w) := by
  go_enter Try.func60, Try.ntmps60
  iterate 10 go_step
  refine wpList_rowsR 8 (rowsFn Try.f60) rfl (.slice none 0 0) (by kernel_rfl) (by kernel_rfl) rfl rfl rfl rfl rfl rfl Try.underlying22 (by kernel_rfl) (by kernel_rfl) (by decide) (by decide) (by kernel_rfl) ?_
  intro a'' h0 hdf
  iterate 3 go_step
  refine bodyPost_ret (results_tmp rfl _ _ _) hdf ?_
  rw [h0]
  exact litPost w _ 8 (by kernel_rfl) (of_decide_eq_true (by kernel_rfl))
set_option maxRecDepth 100000 in
theorem breaks_any (w : World) : Calls Try.prog 61 #[] w (LitPost (rowsFn Try.f61) w) := by
  go_enter Try.func61, Try.ntmps61
  iterate 10 go_step
  refine wpList_rowsR 69 (rowsFn Try.f61) rfl (.slice none 0 0) (by kernel_rfl) (by kernel_rfl) rfl rfl rfl rfl rfl rfl Try.underlying22 (by kernel_rfl) (by kernel_rfl) (by decide) (by decide) (by kernel_rfl) ?_
  intro a'' h0 hdf
  iterate 3 go_step
  refine bodyPost_ret (results_tmp rfl _ _ _) hdf ?_
  rw [h0]
  exact litPost w _ 69 (by kernel_rfl) (of_decide_eq_true (by kernel_rfl))
set_option maxRecDepth 100000 in
theorem picts_any (w : World) : Calls Try.prog 62 #[] w (LitPost (rowsFn Try.f62) w) := by
  go_enter Try.func62, Try.ntmps62
  iterate 10 go_step
  refine wpList_rowsR 22 (rowsFn Try.f62) rfl (.slice none 0 0) (by kernel_rfl) (by kernel_rfl) rfl rfl rfl rfl rfl rfl Try.underlying22 (by kernel_rfl) (by kernel_rfl) (by decide) (by decide) (by kernel_rfl) ?_
  intro a'' h0 hdf
  iterate 3 go_step
  refine bodyPost_ret (results_tmp rfl _ _ _) hdf ?_
  rw [h0]
  exact litPost w _ 22 (by kernel_rfl) (of_decide_eq_true (by kernel_rfl))
set_option maxRecDepth 100000 in
theorem conjs_any (w : World) : Calls Try.prog 63 #[] w (LitPost (rowsFn Try.f63) w) := by
  go_enter Try.func63, Try.ntmps63
  iterate 10 go_step
  refine wpList_rowsR 5 (rowsFn Try.f63) rfl (.slice none 0 0) (by kernel_rfl) (by kernel_rfl) rfl rfl rfl rfl rfl rfl Try.underlying22 (by kernel_rfl) (by kernel_rfl) (by decide) (by decide) (by kernel_rfl) ?_
  intro a'' h0 hdf
  iterate 3 go_step
  refine bodyPost_ret (results_tmp rfl _ _ _) hdf ?_
  rw [h0]
  exact litPost w _ 5 (by kernel_rfl) (of_decide_eq_true (by kernel_rfl))
set_option maxRecDepth 100000 in
theorem wides_any (w : World) : Calls Try.prog 64 #[] w (LitPost (rowsFn Try.f64) w) := by
  go_enter Try.func64, Try.ntmps64
  iterate 10 go_step
  refine wpList_rowsR 21 (rowsFn Try.f64) rfl (.slice none 0 0) (by kernel_rfl) (by kernel_rfl) rfl rfl rfl rfl rfl rfl Try.underlying22 (by kernel_rfl) (by kernel_rfl) (by decide) (by decide) (by kernel_rfl) ?_
  intro a'' h0 hdf
  iterate 3 go_step
  refine bodyPost_ret (results_tmp rfl _ _ _) hdf ?_
  rw [h0]
  exact litPost w _ 21 (by kernel_rfl) (of_decide_eq_true (by kernel_rfl))
set_option maxRecDepth 100000 in
theorem letters_any (w : World) : Calls Try.prog 65 #[] w (LitPost (rowsFn Try.f65) w) := by
  go_enter Try.func65, Try.ntmps65
  iterate 10 go_step
  refine wpList_rowsR 34 (rowsFn Try.f65) rfl (.slice none 0 0) (by kernel_rfl) (by kernel_rfl) rfl rfl rfl rfl rfl rfl Try.underlying22 (by kernel_rfl) (by kernel_rfl) (by decide) (by decide) (by kernel_rfl) ?_
  intro a'' h0 hdf
  iterate 3 go_step
  refine bodyPost_ret (results_tmp rfl _ _ _) hdf ?_
  rw [h0]
  exact litPost w _ 34 (by kernel_rfl) (of_decide_eq_true (by kernel_rfl))
end Go.Proofs.Ytamgngkiegbglaa
