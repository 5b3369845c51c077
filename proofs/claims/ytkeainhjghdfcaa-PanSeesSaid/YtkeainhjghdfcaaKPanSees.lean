/- PanSees: for every input the law returns true. No condition. -/
import Derived.Test.YtkeainhjghdfcaaZeaa
import Derived.Test.YtkeainhjghdfcaaZaaa
namespace Go.Proofs.Ytkeainhjghdfcaa
open Go.RowKit Go.ChangeShapes Go.WideShapes Go.ChangeAt

set_option maxRecDepth 100000 in
theorem panSees_walk : LawWalk Try.prog 3 Try.f3 := by
  intro H enc W base args ds ps hval hA hlt
  rw [Try.params3] at hA hval
  obtain ⟨v0, vs0, d0, ds0, p0, q0, hargs, rfl, rfl, h0, r0⟩ := trodAll_cons hA
  obtain ⟨v1, vs1, d1, ds1, p1, q1, rfl, rfl, rfl, h1, r1⟩ := trodAll_cons r0
  obtain ⟨v2, vs2, d2, ds2, p2, q2, rfl, rfl, rfl, h2, r2⟩ := trodAll_cons r1
  obtain ⟨rfl, rfl, rfl⟩ := trodAll_nil r2
  obtain rfl : args = #[v0, v1, v2] := by cases args; simp_all
  obtain ⟨L, hl0, ok0⟩ := rs_of_trod Try.underlying22 (by kernel_rfl) gyE_len (by decide) reads_gyl (hval 0 22 v0 rfl rfl) h0
  obtain ⟨a, rfl, _, _, w1⟩ := open_int Try.underlying3 (hval 1 3 v1 rfl rfl) h1
  obtain ⟨c, rfl, _, _, w2⟩ := open_int Try.underlying3 (hval 2 3 v2 rfl rfl) h2
  exact panSees_any v0 L a c W hl0

set_option maxRecDepth 100000 in
theorem panSees_lifted (os : Os) (started : os.Started) (H : Type) (enc : TypeId × Value → H) :
    ReturnsInHanded {} Try.checked os 3 .any (Rows.panSeesSpec.pre6 enc Try.prog Try.f3 Rows.panSeesRow.domain false) (Rows.panSeesSpec.post enc Try.prog Try.f3 false true false false) :=
  lifted_of_walk (C := Try.checked) (s := Rows.panSeesSpec) (tb := 4) Try.own0 started (by kernel_rfl) Try.func3
    (ChangeSpec.witness6 (enc := enc) (C := Try.checked) false ⟨#[], #[.slice none 0 0, .int .i64 0, .int .i64 0], []⟩ 8 (by kernel_rfl) (by kernel_rfl) (by kernel_rfl) (by kernel_rfl))
    Try.laidOut0 (by intro t ht; rw [Try.params3] at ht; simp at ht; rcases ht with rfl | rfl <;> exact ⟨by kernel_rfl, of_decide_eq_true (by kernel_rfl)⟩) rfl Try.underlying4 rfl
    (fun ds h => by match ds, h with | [_, _, _], _ => rfl) panSees_walk

set_option maxRecDepth 100000 in
theorem panSees_holds : Rows.PanSeesSaid :=
  OpenClaim.holds_of_wide 3 Try.f3 rfl rfl rfl rfl rfl rfl rfl ⟨rfl, rfl, rfl, rfl, rfl⟩ rfl rfl rfl rfl rfl (by kernel_rfl) Try.func3 (by kernel_rfl)
    (of_decide_eq_true (by kernel_rfl)) (by unfold Func.isWrapper; first | (rw [if_pos (by decide +kernel)]; kernel_rfl) | (rw [if_neg (by decide +kernel)]; exact ⟨rfl, rfl⟩))
    (fun os started H enc _ => panSees_lifted os started H enc)
#print axioms panSees_holds


end Go.Proofs.Ytkeainhjghdfcaa
