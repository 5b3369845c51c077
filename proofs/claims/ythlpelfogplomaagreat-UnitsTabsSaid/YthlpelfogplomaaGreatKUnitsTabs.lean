/- UnitsTabs: for every input the law returns true. No condition. -/
import Derived.Test.YthlpelfogplomaaGreatZgaa
import Derived.Test.YthlpelfogplomaaGreatZaaw
import Derived.Test.YthlpelfogplomaaGreatZaaa
namespace Go.Proofs.YthlpelfogplomaaGreat
open Go.RowKit Go.ChangeShapes Go.WideShapes Go.ChangeAt

set_option maxRecDepth 100000 in
theorem unitsTabs_walk : LawWalk Tryz.prog 5 Tryz.f5 := by
  intro H enc W base args ds ps hval hA hlt
  rw [Tryz.params5] at hA hval
  obtain ⟨v0, vs0, d0, ds0, p0, q0, hargs, rfl, rfl, h0, r0⟩ := trodAll_cons hA
  obtain ⟨v1, vs1, d1, ds1, p1, q1, rfl, rfl, rfl, h1, r1⟩ := trodAll_cons r0
  obtain ⟨rfl, rfl, rfl⟩ := trodAll_nil r1
  obtain rfl : args = #[v0, v1] := by cases args; simp_all
  obtain ⟨l, hl0, ok0⟩ := rs_of_trod Tryz.underlying22 (by kernel_rfl) runeE_len (by decide) (reads_int Tryz.underlying21) (hval 0 22 v0 rfl rfl) h0
  obtain ⟨a, rfl, _, _, w1⟩ := open_int Tryz.underlying3 (hval 1 3 v1 rfl rfl) h1
  exact unitsTabs_any v0 l a W hl0 (fun x hx => i32_of_wf (ok0 x hx))

set_option maxRecDepth 100000 in
theorem unitsTabs_lifted (os : Os) (started : os.Started) (H : Type) (enc : TypeId × Value → H) :
    ReturnsInHanded {} Tryz.checked os 5 .any (Rows.unitsTabsSpec.pre6 enc Tryz.prog Tryz.f5 Rows.unitsTabsRow.domain false) (Rows.unitsTabsSpec.post enc Tryz.prog Tryz.f5 false true false false) :=
  lifted_of_walk (C := Tryz.checked) (s := Rows.unitsTabsSpec) (tb := 4) Tryz.own0 started (by kernel_rfl) Tryz.func5
    (ChangeSpec.witness6 (enc := enc) (C := Tryz.checked) false ⟨#[], #[.slice none 0 0, .int .i64 0], []⟩ 8 (by kernel_rfl) (by kernel_rfl) (by kernel_rfl) (by kernel_rfl))
    Tryz.laidOut0 (by intro t ht; rw [Tryz.params5] at ht; simp at ht; rcases ht with rfl | rfl <;> exact ⟨by kernel_rfl, of_decide_eq_true (by kernel_rfl)⟩) rfl Tryz.underlying4 rfl
    (fun ds h => by match ds, h with | [_, _], _ => rfl) unitsTabs_walk

set_option maxRecDepth 100000 in
theorem unitsTabs_holds : Rows.UnitsTabsSaid :=
  OpenClaim.holds_of_wide 5 Tryz.f5 rfl rfl rfl rfl rfl rfl rfl ⟨rfl, rfl, rfl, rfl, rfl⟩ rfl rfl rfl rfl rfl (by kernel_rfl) Tryz.func5 (by kernel_rfl)
    (of_decide_eq_true (by kernel_rfl)) (by unfold Func.isWrapper; first | (rw [if_pos (by decide +kernel)]; kernel_rfl) | (rw [if_neg (by decide +kernel)]; exact ⟨rfl, rfl⟩))
    (fun os started H enc _ => unitsTabs_lifted os started H enc)
#print axioms unitsTabs_holds


end Go.Proofs.YthlpelfogplomaaGreat
