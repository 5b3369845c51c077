/- UcdNone: for every input the law returns true. No condition. -/
import Derived.Test.YtamgngkiegbglaaZaaz
import Derived.Test.YtamgngkiegbglaaZaaa
namespace Go.Proofs.Ytamgngkiegbglaa
open Go.RowKit Go.ChangeShapes Go.WideShapes Go.ChangeAt

set_option maxRecDepth 100000 in
theorem ucdNone_walk : LawWalk Try.prog 7 Try.f7 := by
  intro H enc W base args ds ps hval hA hlt
  rw [Try.params7] at hA hval
  obtain ⟨v0, vs0, d0, ds0, p0, q0, hargs, rfl, rfl, h0, r0⟩ := trodAll_cons hA
  obtain ⟨v1, vs1, d1, ds1, p1, q1, rfl, rfl, rfl, h1, r1⟩ := trodAll_cons r0
  obtain ⟨rfl, rfl, rfl⟩ := trodAll_nil r1
  obtain rfl : args = #[v0, v1] := by cases args; simp_all
  obtain ⟨r, rfl, _, _, w0⟩ := open_int Try.underlying21 (hval 0 21 v0 rfl rfl) h0
  obtain ⟨q, rfl, _, _, w1⟩ := open_int Try.underlying21 (hval 1 21 v1 rfl rfl) h1
  exact ucdNone_any r q W (i32_of_wf w0) (i32_of_wf w1)

set_option maxRecDepth 100000 in
theorem ucdNone_lifted (os : Os) (started : os.Started) (H : Type) (enc : TypeId × Value → H) :
    ReturnsInHanded {} Try.checked os 7 .any (Rows.ucdNoneSpec.pre6 enc Try.prog Try.f7 Rows.ucdNoneRow.domain false) (Rows.ucdNoneSpec.post enc Try.prog Try.f7 false true false false) :=
  lifted_of_walk (C := Try.checked) (s := Rows.ucdNoneSpec) (tb := 4) Try.own0 started (by kernel_rfl) Try.func7
    (ChangeSpec.witness6 (enc := enc) (C := Try.checked) false ⟨#[], #[.int .i32 0, .int .i32 0], []⟩ 8 (by kernel_rfl) (by kernel_rfl) (by kernel_rfl) (by kernel_rfl))
    Try.laidOut0 (by intro t ht; rw [Try.params7] at ht; simp at ht; subst ht; exact ⟨by kernel_rfl, of_decide_eq_true (by kernel_rfl)⟩) rfl Try.underlying4 rfl
    (fun ds h => by match ds, h with | [_, _], _ => rfl) ucdNone_walk

set_option maxRecDepth 100000 in
theorem ucdNone_holds : Rows.UcdNoneSaid :=
  OpenClaim.holds_of_wide 7 Try.f7 rfl rfl rfl rfl rfl rfl rfl ⟨rfl, rfl, rfl, rfl, rfl⟩ rfl rfl rfl rfl rfl (by kernel_rfl) Try.func7 (by kernel_rfl)
    (of_decide_eq_true (by kernel_rfl)) (by unfold Func.isWrapper; first | (rw [if_pos (by decide +kernel)]; kernel_rfl) | (rw [if_neg (by decide +kernel)]; exact ⟨rfl, rfl⟩))
    (fun os started H enc _ => ucdNone_lifted os started H enc)
#print axioms ucdNone_holds


end Go.Proofs.Ytamgngkiegbglaa
