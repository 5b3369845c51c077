/- FlowTexts: for every input the law returns true. No condition. -/
import Derived.Test.YtkeainhjghdfcaaGreatFtbj
import Derived.Test.YtkeainhjghdfcaaGreatFtax
import Derived.Test.YtkeainhjghdfcaaGreatFtab
namespace Go.Proofs.YtkeainhjghdfcaaGreat
open Go.RowKit Go.ChangeShapes Go.WideShapes Go.ChangeAt

set_option maxRecDepth 100000 in
theorem flowTexts_walk : LawWalk Tryz.prog 11 Tryz.f11 := by
  intro H enc W base args ds ps hval hA hlt
  rw [Tryz.params11] at hA hval
  obtain ⟨v0, vs0, d0, ds0, p0, q0, hargs, rfl, rfl, h0, r0⟩ := trodAll_cons hA
  obtain ⟨v1, vs1, d1, ds1, p1, q1, rfl, rfl, rfl, h1, r1⟩ := trodAll_cons r0
  obtain ⟨v2, vs2, d2, ds2, p2, q2, rfl, rfl, rfl, h2, r2⟩ := trodAll_cons r1
  obtain ⟨rfl, rfl, rfl⟩ := trodAll_nil r2
  obtain rfl : args = #[v0, v1, v2] := by cases args; simp_all
  obtain ⟨l, hl0, ok0⟩ := rs_of_trod Tryz.underlying35 (by kernel_rfl) runeE_len (by decide) (reads_int Tryz.underlying21) (hval 0 35 v0 rfl rfl) h0
  obtain ⟨cols, rfl, _, _, w1⟩ := open_int Tryz.underlying3 (hval 1 3 v1 rfl rfl) h1
  obtain ⟨side, rfl, _, _, w2⟩ := open_int Tryz.underlying3 (hval 2 3 v2 rfl rfl) h2
  exact flowTexts_any v0 l cols side W hl0 (fun x hx => i32_of_wf (ok0 x hx))

set_option maxRecDepth 100000 in
theorem flowTexts_lifted (os : Os) (started : os.Started) (H : Type) (enc : TypeId × Value → H) :
    ReturnsInHanded {} Tryz.checked os 11 .any (Rows.flowTextsSpec.pre6 enc Tryz.prog Tryz.f11 Rows.flowTextsRow.domain false) (Rows.flowTextsSpec.post enc Tryz.prog Tryz.f11 false true false false) :=
  lifted_of_walk (C := Tryz.checked) (s := Rows.flowTextsSpec) (tb := 4) Tryz.own0 started (by kernel_rfl) Tryz.func11
    (ChangeSpec.witness6 (enc := enc) (C := Tryz.checked) false ⟨#[], #[.slice none 0 0, .int .i64 0, .int .i64 0], []⟩ 8 (by kernel_rfl) (by kernel_rfl) (by kernel_rfl) (by kernel_rfl))
    Tryz.laidOut0 (by intro t ht; rw [Tryz.params11] at ht; simp at ht; rcases ht with rfl | rfl <;> exact ⟨by kernel_rfl, of_decide_eq_true (by kernel_rfl)⟩) rfl Tryz.underlying4 rfl
    (fun ds h => by match ds, h with | [_, _, _], _ => rfl) flowTexts_walk

set_option maxRecDepth 100000 in
theorem flowTexts_holds : Rows.FlowTextsSaid :=
  OpenClaim.holds_of_wide 11 Tryz.f11 rfl rfl rfl rfl rfl rfl rfl ⟨rfl, rfl, rfl, rfl, rfl⟩ rfl rfl rfl rfl rfl (by kernel_rfl) Tryz.func11 (by kernel_rfl)
    (of_decide_eq_true (by kernel_rfl)) (by unfold Func.isWrapper; first | (rw [if_pos (by decide +kernel)]; kernel_rfl) | (rw [if_neg (by decide +kernel)]; exact ⟨rfl, rfl⟩))
    (fun os started H enc _ => flowTexts_lifted os started H enc)
#print axioms flowTexts_holds


end Go.Proofs.YtkeainhjghdfcaaGreat
