/- ColumnsWidth: for every input the law returns true. No condition. -/
import Derived.Test.YtblajooebmjfoaaGreatZgaa
import Derived.Test.YtblajooebmjfoaaGreatZaaw
import Derived.Test.YtblajooebmjfoaaGreatZaaa
namespace Go.Proofs.YtblajooebmjfoaaGreat
open Go.RowKit Go.ChangeShapes Go.WideShapes Go.ChangeAt

set_option maxRecDepth 100000 in
theorem columnsWidth_walk : LawWalk Tryz.prog 6 Tryz.f6 := by
  intro H enc W base args ds ps hval hA hlt
  rw [Tryz.params6] at hA hval
  obtain ⟨v0, vs0, d0, ds0, p0, q0, hargs, rfl, rfl, h0, r0⟩ := trodAll_cons hA
  obtain ⟨rfl, rfl, rfl⟩ := trodAll_nil r0
  obtain rfl : args = #[v0] := by cases args; simp_all
  obtain ⟨l, hl0, ok0⟩ := rs_of_trod Tryz.underlying22 (by kernel_rfl) runeE_len (by decide) (reads_int Tryz.underlying21) (hval 0 22 v0 rfl rfl) h0
  exact columnsWidth_any v0 l W hl0 (fun x hx => i32_of_wf (ok0 x hx))

set_option maxRecDepth 100000 in
theorem columnsWidth_lifted (os : Os) (started : os.Started) (H : Type) (enc : TypeId × Value → H) :
    ReturnsInHanded {} Tryz.checked os 6 .any (Rows.columnsWidthSpec.pre6 enc Tryz.prog Tryz.f6 Rows.columnsWidthRow.domain false) (Rows.columnsWidthSpec.post enc Tryz.prog Tryz.f6 false true false false) :=
  lifted_of_walk (C := Tryz.checked) (s := Rows.columnsWidthSpec) (tb := 4) Tryz.own0 started (by kernel_rfl) Tryz.func6
    (ChangeSpec.witness6 (enc := enc) (C := Tryz.checked) false ⟨#[], #[.slice none 0 0], []⟩ 8 (by kernel_rfl) (by kernel_rfl) (by kernel_rfl) (by kernel_rfl))
    Tryz.laidOut0 (by intro t ht; rw [Tryz.params6] at ht; simp at ht; subst ht; exact ⟨by kernel_rfl, of_decide_eq_true (by kernel_rfl)⟩) rfl Tryz.underlying4 rfl
    (fun ds h => by match ds, h with | [_], _ => rfl) columnsWidth_walk

set_option maxRecDepth 100000 in
theorem columnsWidth_holds : Rows.ColumnsWidthSaid :=
  OpenClaim.holds_of_wide 6 Tryz.f6 rfl rfl rfl rfl rfl rfl rfl ⟨rfl, rfl, rfl, rfl, rfl⟩ rfl rfl rfl rfl rfl (by kernel_rfl) Tryz.func6 (by kernel_rfl)
    (of_decide_eq_true (by kernel_rfl)) (by unfold Func.isWrapper; first | (rw [if_pos (by decide +kernel)]; kernel_rfl) | (rw [if_neg (by decide +kernel)]; exact ⟨rfl, rfl⟩))
    (fun os started H enc _ => columnsWidth_lifted os started H enc)
#print axioms columnsWidth_holds


end Go.Proofs.YtblajooebmjfoaaGreat
