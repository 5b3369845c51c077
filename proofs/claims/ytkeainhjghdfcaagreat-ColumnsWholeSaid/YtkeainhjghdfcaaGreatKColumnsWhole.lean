/- ColumnsWhole: for every input the law returns true. No condition. -/
import Derived.Test.YtkeainhjghdfcaaGreatCwbj
import Derived.Test.YtkeainhjghdfcaaGreatCwbd
import Derived.Test.YtkeainhjghdfcaaGreatCwab
namespace Go.Proofs.YtkeainhjghdfcaaGreat
open Go.RowKit Go.ChangeShapes Go.WideShapes Go.ChangeAt

set_option maxRecDepth 100000 in
theorem columnsWhole_walk : LawWalk Tryz.prog 10 Tryz.f10 := by
  intro H enc W base args ds ps hval hA hlt
  rw [Tryz.params10] at hA hval
  obtain ⟨v0, vs0, d0, ds0, p0, q0, hargs, rfl, rfl, h0, r0⟩ := trodAll_cons hA
  obtain ⟨v1, vs1, d1, ds1, p1, q1, rfl, rfl, rfl, h1, r1⟩ := trodAll_cons r0
  obtain ⟨rfl, rfl, rfl⟩ := trodAll_nil r1
  obtain rfl : args = #[v0, v1] := by cases args; simp_all
  obtain ⟨LL, hl0, ok0⟩ := texts_of_trod (hval 0 51 v0 rfl rfl) h0
  obtain ⟨cols, rfl, _, _, w1⟩ := open_int Tryz.underlying3 (hval 1 3 v1 rfl rfl) h1
  exact columnsWhole_any v0 LL cols W hl0 ok0

set_option maxRecDepth 100000 in
theorem columnsWhole_lifted (os : Os) (started : os.Started) (H : Type) (enc : TypeId × Value → H) :
    ReturnsInHanded {} Tryz.checked os 10 .any (Rows.columnsWholeSpec.pre6 enc Tryz.prog Tryz.f10 Rows.columnsWholeRow.domain false) (Rows.columnsWholeSpec.post enc Tryz.prog Tryz.f10 false true false false) :=
  lifted_of_walk (C := Tryz.checked) (s := Rows.columnsWholeSpec) (tb := 4) Tryz.own0 started (by kernel_rfl) Tryz.func10
    (ChangeSpec.witness6 (enc := enc) (C := Tryz.checked) false ⟨#[], #[.slice none 0 0, .int .i64 0], []⟩ 8 (by kernel_rfl) (by kernel_rfl) (by kernel_rfl) (by kernel_rfl))
    Tryz.laidOut0 (by intro t ht; rw [Tryz.params10] at ht; simp at ht; rcases ht with rfl | rfl <;> exact ⟨by kernel_rfl, of_decide_eq_true (by kernel_rfl)⟩) rfl Tryz.underlying4 rfl
    (fun ds h => by match ds, h with | [_, _], _ => rfl) columnsWhole_walk

set_option maxRecDepth 100000 in
theorem columnsWhole_holds : Rows.ColumnsWholeSaid :=
  OpenClaim.holds_of_wide 10 Tryz.f10 rfl rfl rfl rfl rfl rfl rfl ⟨rfl, rfl, rfl, rfl, rfl⟩ rfl rfl rfl rfl rfl (by kernel_rfl) Tryz.func10 (by kernel_rfl)
    (of_decide_eq_true (by kernel_rfl)) (by unfold Func.isWrapper; first | (rw [if_pos (by decide +kernel)]; kernel_rfl) | (rw [if_neg (by decide +kernel)]; exact ⟨rfl, rfl⟩))
    (fun os started H enc _ => columnsWhole_lifted os started H enc)
#print axioms columnsWhole_holds


end Go.Proofs.YtkeainhjghdfcaaGreat
