/- IndexChanges: for every input the law returns true. No condition. -/
import Derived.Test.YtblajooebmjfoaaZhab
import Derived.Test.YtblajooebmjfoaaZaaw
import Derived.Test.YtblajooebmjfoaaZiaa
import Derived.Test.YtblajooebmjfoaaZaaa
namespace Go.Proofs.Ytblajooebmjfoaa
open Go.RowKit Go.ChangeShapes Go.WideShapes Go.ChangeAt

/-- what a deed reads as -/
theorem reads_deeds (W : World) : ReadsW Try.prog W 47 (fun y : Int × Int × Value => [.int .i64 y.1, .int .i64 y.2.1, y.2.2]) (fun y => (Lit.int .i64 y.1).wf = true ∧ (Lit.int .i64 y.2.1).wf = true ∧ ∃ l : List Int, Rs W.heap.size W runeE 1 y.2.2 l ∧ ∀ x ∈ l, (Lit.int .i32 x).wf = true) :=
  readsW_three Try.underlying47 ((reads_int Try.underlying3).inW W) ((reads_int Try.underlying3).inW W) (readsW_slice Try.underlying22 (by kernel_rfl) runeE_len (by decide) ((reads_int Try.underlying21).inW W)) rfl rfl rfl (by kernel_rfl) (by kernel_rfl) (by kernel_rfl) (by kernel_rfl)
set_option maxRecDepth 100000 in
theorem indexChanges_walk : LawWalk Try.prog 5 Try.f5 := by
  intro H enc W base args ds ps hval hA hlt
  rw [Try.params5] at hA hval
  obtain ⟨v0, vs0, d0, ds0, p0, q0, hargs, rfl, rfl, h0, r0⟩ := trodAll_cons hA
  obtain ⟨v1, vs1, d1, ds1, p1, q1, rfl, rfl, rfl, h1, r1⟩ := trodAll_cons r0
  obtain ⟨rfl, rfl, rfl⟩ := trodAll_nil r1
  obtain rfl : args = #[v0, v1] := by cases args; simp_all
  obtain ⟨l, hl0, ok0⟩ := rs_of_trod Try.underlying22 (by kernel_rfl) runeE_len (by decide) (reads_int Try.underlying21) (hval 0 22 v0 rfl rfl) h0
  obtain ⟨D, hD, hDs⟩ := rs_of_trodW Try.underlying45 (by kernel_rfl) deE_len (by decide) (reads_deeds W) (hval 1 45 v1 rfl rfl) h1
  exact indexChanges_any v0 v1 l D W hl0 (fun x hx => i32_of_wf (ok0 x hx)) hD (fun y hy => by
    obtain ⟨_, _, li, hli, oki⟩ := hDs y hy
    exact ⟨li, hli, fun x hx => i32_of_wf (oki x hx)⟩)

set_option maxRecDepth 100000 in
theorem indexChanges_lifted (os : Os) (started : os.Started) (H : Type) (enc : TypeId × Value → H) :
    ReturnsInHanded {} Try.checked os 5 .any (Rows.indexChangesSpec.pre6 enc Try.prog Try.f5 Rows.indexChangesRow.domain false) (Rows.indexChangesSpec.post enc Try.prog Try.f5 false true false false) :=
  lifted_of_walk (C := Try.checked) (s := Rows.indexChangesSpec) (tb := 4) Try.own0 started (by kernel_rfl) Try.func5
    (ChangeSpec.witness6 (enc := enc) (C := Try.checked) false ⟨#[], #[.slice none 0 0, .slice none 0 0], []⟩ 8 (by kernel_rfl) (by kernel_rfl) (by kernel_rfl) (by kernel_rfl))
    Try.laidOut0 (by intro t ht; rw [Try.params5] at ht; simp at ht; rcases ht with rfl | rfl <;> exact ⟨by kernel_rfl, of_decide_eq_true (by kernel_rfl)⟩) rfl Try.underlying4 rfl
    (fun ds h => by match ds, h with | [_, _], _ => rfl) indexChanges_walk

set_option maxRecDepth 100000 in
theorem indexChanges_holds : Rows.IndexChangesSaid :=
  OpenClaim.holds_of_wide 5 Try.f5 rfl rfl rfl rfl rfl rfl rfl ⟨rfl, rfl, rfl, rfl, rfl⟩ rfl rfl rfl rfl rfl (by kernel_rfl) Try.func5 (by kernel_rfl)
    (of_decide_eq_true (by kernel_rfl)) (by unfold Func.isWrapper; first | (rw [if_pos (by decide +kernel)]; kernel_rfl) | (rw [if_neg (by decide +kernel)]; exact ⟨rfl, rfl⟩))
    (fun os started H enc _ => indexChanges_lifted os started H enc)
#print axioms indexChanges_holds


end Go.Proofs.Ytblajooebmjfoaa
