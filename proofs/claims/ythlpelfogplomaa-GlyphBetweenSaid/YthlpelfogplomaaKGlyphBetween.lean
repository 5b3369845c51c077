/- GlyphBetween: for every input the law returns true. No condition. -/
import Derived.Test.YthlpelfogplomaaZiac
import Derived.Test.YthlpelfogplomaaZaaw
import Derived.Test.YthlpelfogplomaaZaaa
namespace Go.Proofs.Ythlpelfogplomaa
open Go.RowKit Go.ChangeShapes Go.WideShapes Go.ChangeAt

set_option maxRecDepth 100000 in
theorem glyphBetween_walk : LawWalk Try.prog 8 Try.f8 := by
  intro H enc W base args ds ps hval hA hlt
  rw [Try.params8] at hA hval
  obtain ⟨v0, vs0, d0, ds0, p0, q0, hargs, rfl, rfl, h0, r0⟩ := trodAll_cons hA
  obtain ⟨rfl, rfl, rfl⟩ := trodAll_nil r0
  obtain rfl : args = #[v0] := by cases args; simp_all
  obtain ⟨l, hl0, ok0⟩ := rs_of_trod Try.underlying22 (by kernel_rfl) runeE_len (by decide) (reads_int Try.underlying21) (hval 0 22 v0 rfl rfl) h0
  exact glyphBetween_any v0 l W hl0 (fun x hx => i32_of_wf (ok0 x hx))

set_option maxRecDepth 100000 in
theorem glyphBetween_lifted (os : Os) (started : os.Started) (H : Type) (enc : TypeId × Value → H) :
    ReturnsInHanded {} Try.checked os 8 .any (Rows.glyphBetweenSpec.pre6 enc Try.prog Try.f8 Rows.glyphBetweenRow.domain false) (Rows.glyphBetweenSpec.post enc Try.prog Try.f8 false true false false) :=
  lifted_of_walk (C := Try.checked) (s := Rows.glyphBetweenSpec) (tb := 4) Try.own0 started (by kernel_rfl) Try.func8
    (ChangeSpec.witness6 (enc := enc) (C := Try.checked) false ⟨#[], #[.slice none 0 0], []⟩ 8 (by kernel_rfl) (by kernel_rfl) (by kernel_rfl) (by kernel_rfl))
    Try.laidOut0 (by intro t ht; rw [Try.params8] at ht; simp at ht; subst ht; exact ⟨by kernel_rfl, of_decide_eq_true (by kernel_rfl)⟩) rfl Try.underlying4 rfl
    (fun ds h => by match ds, h with | [_], _ => rfl) glyphBetween_walk

set_option maxRecDepth 100000 in
theorem glyphBetween_holds : Rows.GlyphBetweenSaid :=
  OpenClaim.holds_of_wide 8 Try.f8 rfl rfl rfl rfl rfl rfl rfl ⟨rfl, rfl, rfl, rfl, rfl⟩ rfl rfl rfl rfl rfl (by kernel_rfl) Try.func8 (by kernel_rfl)
    (of_decide_eq_true (by kernel_rfl)) (by unfold Func.isWrapper; first | (rw [if_pos (by decide +kernel)]; kernel_rfl) | (rw [if_neg (by decide +kernel)]; exact ⟨rfl, rfl⟩))
    (fun os started H enc _ => glyphBetween_lifted os started H enc)
#print axioms glyphBetween_holds


end Go.Proofs.Ythlpelfogplomaa
