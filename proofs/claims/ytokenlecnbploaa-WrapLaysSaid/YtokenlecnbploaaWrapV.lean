/- WrapLays: for every input the law returns true. No condition. -/
import Derived.Test.YtokenlecnbploaaWrapU
namespace Go.Proofs.Ytokenlecnbploaa
open Go.RowKit Go.ChangeShapes Go.WideShapes Go.ChangeAt

theorem wrapLays_walk : LawWalk Try.prog 11 Try.f11 := by
  intro H enc W base args ds ps hval hA hlt
  rw [Try.params11] at hA hval
  obtain ⟨v0, vs0, d0, ds0, p0, q0, hargs, rfl, rfl, h0, r0⟩ := trodAll_cons hA
  obtain ⟨v1, vs1, d1, ds1, p1, q1, rfl, rfl, rfl, h1, r1⟩ := trodAll_cons r0
  obtain ⟨v2, vs2, d2, ds2, p2, q2, rfl, rfl, rfl, h2, r2⟩ := trodAll_cons r1
  obtain ⟨v3, vs3, d3, ds3, p3, q3, rfl, rfl, rfl, h3, r3⟩ := trodAll_cons r2
  obtain ⟨rfl, rfl, rfl⟩ := trodAll_nil r3
  obtain rfl : args = #[v0, v1, v2, v3] := by cases args; simp_all
  obtain ⟨l, hl, _⟩ := rs_of_trod Try.underlying22 (by kernel_rfl) genc_len (by decide) reads_rgl (hval 0 22 v0 rfl rfl) h0
  obtain ⟨rows, rfl, _, _, wr⟩ := open_int Try.underlying3 (hval 1 3 v1 rfl rfl) h1
  obtain ⟨cols, rfl, _, _, wc⟩ := open_int Try.underlying3 (hval 2 3 v2 rfl rfl) h2
  obtain ⟨top, rfl, _, _, wt⟩ := open_int Try.underlying3 (hval 3 3 v3 rfl rfl) h3
  exact wrapLays_any v0 l rows cols top W hl (wf64 wc).2

set_option maxRecDepth 100000 in
theorem wrapLays_lifted (os : Os) (started : os.Started) (H : Type) (enc : TypeId × Value → H) :
    ReturnsInHanded {} Try.checked os 11 .any (Rows.wrapLaysSpec.pre6 enc Try.prog Try.f11 Rows.wrapLaysRow.domain false) (Rows.wrapLaysSpec.post enc Try.prog Try.f11 false true false false) :=
  lifted_of_walk (C := Try.checked) (s := Rows.wrapLaysSpec) (tb := 4) Try.own0 started (by kernel_rfl) Try.func11
    (ChangeSpec.witness6 (enc := enc) (C := Try.checked) false ⟨#[], #[.slice none 0 0, .int .i64 0, .int .i64 0, .int .i64 0], []⟩ 8 (by kernel_rfl) (by kernel_rfl) (by kernel_rfl) (by kernel_rfl))
    Try.laidOut0 (by intro t ht; rw [Try.params11] at ht; simp at ht; rcases ht with rfl | rfl <;> exact ⟨by kernel_rfl, of_decide_eq_true (by kernel_rfl)⟩) rfl Try.underlying4 rfl
    (fun ds h => by match ds, h with | [_, _, _, _], _ => rfl) wrapLays_walk

theorem wrapLays_holds : Rows.WrapLaysSaid :=
  OpenClaim.holds_of_wide 11 Try.f11 rfl rfl rfl rfl rfl rfl rfl ⟨rfl, rfl, rfl, rfl, rfl⟩ rfl rfl rfl rfl rfl (by kernel_rfl) Try.func11 (by kernel_rfl)
    (of_decide_eq_true (by kernel_rfl)) (by unfold Func.isWrapper; first | (rw [if_pos (by decide +kernel)]; kernel_rfl) | (rw [if_neg (by decide +kernel)]; exact ⟨rfl, rfl⟩))
    (fun os started H enc _ => wrapLays_lifted os started H enc)
#print axioms wrapLays_holds

end Go.Proofs.Ytokenlecnbploaa
