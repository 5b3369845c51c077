/- FlowWhole: for every input the law returns true. No condition. -/
import Derived.Test.YthlpelfogplomaaZfaa
import Derived.Test.YthlpelfogplomaaZaaw
import Derived.Test.YthlpelfogplomaaZaaa
namespace Go.Proofs.Ythlpelfogplomaa
open Go.RowKit Go.ChangeShapes Go.WideShapes Go.ChangeAt

set_option maxRecDepth 100000 in
theorem flowWhole_walk : LawWalk Try.prog 3 Try.f3 := by
  intro H enc W base args ds ps hval hA hlt
  rw [Try.params3] at hA hval
  obtain ⟨v0, vs0, d0, ds0, p0, q0, hargs, rfl, rfl, h0, r0⟩ := trodAll_cons hA
  obtain ⟨v1, vs1, d1, ds1, p1, q1, rfl, rfl, rfl, h1, r1⟩ := trodAll_cons r0
  obtain ⟨rfl, rfl, rfl⟩ := trodAll_nil r1
  obtain rfl : args = #[v0, v1] := by cases args; simp_all
  obtain ⟨l, hl0, ok0⟩ := rs_of_trod Try.underlying22 (by kernel_rfl) runeE_len (by decide) (reads_int Try.underlying21) (hval 0 22 v0 rfl rfl) h0
  obtain ⟨c, rfl, _, _, w1⟩ := open_int Try.underlying3 (hval 1 3 v1 rfl rfl) h1
  exact flowWhole_any v0 l c W hl0 (fun x hx => i32_of_wf (ok0 x hx))

set_option maxRecDepth 100000 in
theorem flowWhole_lifted (os : Os) (started : os.Started) (H : Type) (enc : TypeId × Value → H) :
    ReturnsInHanded {} Try.checked os 3 .any (Rows.flowWholeSpec.pre6 enc Try.prog Try.f3 Rows.flowWholeRow.domain false) (Rows.flowWholeSpec.post enc Try.prog Try.f3 false true false false) :=
  lifted_of_walk (C := Try.checked) (s := Rows.flowWholeSpec) (tb := 4) Try.own0 started (by kernel_rfl) Try.func3
    (ChangeSpec.witness6 (enc := enc) (C := Try.checked) false ⟨#[], #[.slice none 0 0, .int .i64 0], []⟩ 8 (by kernel_rfl) (by kernel_rfl) (by kernel_rfl) (by kernel_rfl))
    Try.laidOut0 (by intro t ht; rw [Try.params3] at ht; simp at ht; rcases ht with rfl | rfl <;> exact ⟨by kernel_rfl, of_decide_eq_true (by kernel_rfl)⟩) rfl Try.underlying4 rfl
    (fun ds h => by match ds, h with | [_, _], _ => rfl) flowWhole_walk

set_option maxRecDepth 100000 in
theorem flowWhole_holds : Rows.FlowWholeSaid :=
  OpenClaim.holds_of_wide 3 Try.f3 rfl rfl rfl rfl rfl rfl rfl ⟨rfl, rfl, rfl, rfl, rfl⟩ rfl rfl rfl rfl rfl (by kernel_rfl) Try.func3 (by kernel_rfl)
    (of_decide_eq_true (by kernel_rfl)) (by unfold Func.isWrapper; first | (rw [if_pos (by decide +kernel)]; kernel_rfl) | (rw [if_neg (by decide +kernel)]; exact ⟨rfl, rfl⟩))
    (fun os started H enc _ => flowWhole_lifted os started H enc)
#print axioms flowWhole_holds


end Go.Proofs.Ythlpelfogplomaa
