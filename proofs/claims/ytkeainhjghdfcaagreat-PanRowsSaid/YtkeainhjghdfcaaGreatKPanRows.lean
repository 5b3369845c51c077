/- PanRows: for every input the law returns true. No condition. -/
import Derived.Test.YtkeainhjghdfcaaGreatZfaa
import Derived.Test.YtkeainhjghdfcaaGreatZaaw
import Derived.Test.YtkeainhjghdfcaaGreatZaaa
namespace Go.Proofs.YtkeainhjghdfcaaGreat
open Go.RowKit Go.ChangeShapes Go.WideShapes Go.ChangeAt

set_option maxRecDepth 100000 in
theorem panRows_walk : LawWalk Tryz.prog 4 Tryz.f4 := by
  intro H enc W base args ds ps hval hA hlt
  rw [Tryz.params4] at hA hval
  obtain ⟨v0, vs0, d0, ds0, p0, q0, hargs, rfl, rfl, h0, r0⟩ := trodAll_cons hA
  obtain ⟨v1, vs1, d1, ds1, p1, q1, rfl, rfl, rfl, h1, r1⟩ := trodAll_cons r0
  obtain ⟨v2, vs2, d2, ds2, p2, q2, rfl, rfl, rfl, h2, r2⟩ := trodAll_cons r1
  obtain ⟨rfl, rfl, rfl⟩ := trodAll_nil r2
  obtain rfl : args = #[v0, v1, v2] := by cases args; simp_all
  obtain ⟨l, hl0, ok0⟩ := rs_of_trod Tryz.underlying35 (by kernel_rfl) runeE_len (by decide) (reads_int Tryz.underlying21) (hval 0 35 v0 rfl rfl) h0
  obtain ⟨c, rfl, _, _, w1⟩ := open_int Tryz.underlying3 (hval 1 3 v1 rfl rfl) h1
  obtain ⟨cols, rfl, _, _, w2⟩ := open_int Tryz.underlying3 (hval 2 3 v2 rfl rfl) h2
  exact panRows_any v0 l c cols W hl0 (fun x hx => i32_of_wf (ok0 x hx)) (wf64 w2).2

set_option maxRecDepth 100000 in
theorem panRows_lifted (os : Os) (started : os.Started) (H : Type) (enc : TypeId × Value → H) :
    ReturnsInHanded {} Tryz.checked os 4 .any (Rows.panRowsSpec.pre6 enc Tryz.prog Tryz.f4 Rows.panRowsRow.domain false) (Rows.panRowsSpec.post enc Tryz.prog Tryz.f4 false true false false) :=
  lifted_of_walk (C := Tryz.checked) (s := Rows.panRowsSpec) (tb := 4) Tryz.own0 started (by kernel_rfl) Tryz.func4
    (ChangeSpec.witness6 (enc := enc) (C := Tryz.checked) false ⟨#[], #[.slice none 0 0, .int .i64 0, .int .i64 0], []⟩ 8 (by kernel_rfl) (by kernel_rfl) (by kernel_rfl) (by kernel_rfl))
    Tryz.laidOut0 (by intro t ht; rw [Tryz.params4] at ht; simp at ht; rcases ht with rfl | rfl <;> exact ⟨by kernel_rfl, of_decide_eq_true (by kernel_rfl)⟩) rfl Tryz.underlying4 rfl
    (fun ds h => by match ds, h with | [_, _, _], _ => rfl) panRows_walk

set_option maxRecDepth 100000 in
theorem panRows_holds : Rows.PanRowsSaid :=
  OpenClaim.holds_of_wide 4 Tryz.f4 rfl rfl rfl rfl rfl rfl rfl ⟨rfl, rfl, rfl, rfl, rfl⟩ rfl rfl rfl rfl rfl (by kernel_rfl) Tryz.func4 (by kernel_rfl)
    (of_decide_eq_true (by kernel_rfl)) (by unfold Func.isWrapper; first | (rw [if_pos (by decide +kernel)]; kernel_rfl) | (rw [if_neg (by decide +kernel)]; exact ⟨rfl, rfl⟩))
    (fun os started H enc _ => panRows_lifted os started H enc)
#print axioms panRows_holds


end Go.Proofs.YtkeainhjghdfcaaGreat
