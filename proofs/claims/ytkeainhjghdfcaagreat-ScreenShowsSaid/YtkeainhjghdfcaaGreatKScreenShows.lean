/- ScreenShows: for every input the law returns true. No condition. -/
import Derived.Test.YtkeainhjghdfcaaGreatSdbq
import Derived.Test.YtkeainhjghdfcaaGreatSdbe
import Derived.Test.YtkeainhjghdfcaaGreatSdab
namespace Go.Proofs.YtkeainhjghdfcaaGreat
open Go.RowKit Go.ChangeShapes Go.WideShapes Go.ChangeAt

set_option maxRecDepth 100000 in
theorem screenShows_walk : LawWalk Tryz.prog 5 Tryz.f5 := by
  intro H enc W base args ds ps hval hA hlt
  rw [Tryz.params5] at hA hval
  obtain ⟨v0, vs0, d0, ds0, p0, q0, hargs, rfl, rfl, h0, r0⟩ := trodAll_cons hA
  obtain ⟨v1, vs1, d1, ds1, p1, q1, rfl, rfl, rfl, h1, r1⟩ := trodAll_cons r0
  obtain ⟨v2, vs2, d2, ds2, p2, q2, rfl, rfl, rfl, h2, r2⟩ := trodAll_cons r1
  obtain ⟨rfl, rfl, rfl⟩ := trodAll_nil r2
  obtain rfl : args = #[v0, v1, v2] := by cases args; simp_all
  obtain ⟨pv, sv, cu, P, s, rfl, hP, hPo, hs, hso⟩ := view_of_trod (hval 0 53 v0 rfl rfl) h0
  obtain ⟨a, rfl, _, _, w1⟩ := open_int Tryz.underlying3 (hval 1 3 v1 rfl rfl) h1
  obtain ⟨c, rfl, _, _, w2⟩ := open_int Tryz.underlying3 (hval 2 3 v2 rfl rfl) h2
  exact screenShows_any hP hPo hs hso cu a c (wf64 w2).2

set_option maxRecDepth 100000 in
theorem screenShows_lifted (os : Os) (started : os.Started) (H : Type) (enc : TypeId × Value → H) :
    ReturnsInHanded {} Tryz.checked os 5 .any (Rows.screenShowsSpec.pre6 enc Tryz.prog Tryz.f5 Rows.screenShowsRow.domain false) (Rows.screenShowsSpec.post enc Tryz.prog Tryz.f5 false true false false) :=
  lifted_of_walk (C := Tryz.checked) (s := Rows.screenShowsSpec) (tb := 4) Tryz.own0 started (by kernel_rfl) Tryz.func5
    (ChangeSpec.witness6 (enc := enc) (C := Tryz.checked) false ⟨#[], #[.agg #[.slice none 0 0, .slice none 0 0, .int .i64 0], .int .i64 0, .int .i64 0], []⟩ 8 (by kernel_rfl) (by kernel_rfl) (by kernel_rfl) (by kernel_rfl))
    Tryz.laidOut0 (by intro t ht; rw [Tryz.params5] at ht; simp at ht; rcases ht with rfl | rfl <;> exact ⟨by kernel_rfl, of_decide_eq_true (by kernel_rfl)⟩) rfl Tryz.underlying4 rfl
    (fun ds h => by match ds, h with | [_, _, _], _ => rfl) screenShows_walk

set_option maxRecDepth 100000 in
theorem screenShows_holds : Rows.ScreenShowsSaid :=
  OpenClaim.holds_of_wide 5 Tryz.f5 rfl rfl rfl rfl rfl rfl rfl ⟨rfl, rfl, rfl, rfl, rfl⟩ rfl rfl rfl rfl rfl (by kernel_rfl) Tryz.func5 (by kernel_rfl)
    (of_decide_eq_true (by kernel_rfl)) (by unfold Func.isWrapper; first | (rw [if_pos (by decide +kernel)]; kernel_rfl) | (rw [if_neg (by decide +kernel)]; exact ⟨rfl, rfl⟩))
    (fun os started H enc _ => screenShows_lifted os started H enc)
#print axioms screenShows_holds


end Go.Proofs.YtkeainhjghdfcaaGreat
