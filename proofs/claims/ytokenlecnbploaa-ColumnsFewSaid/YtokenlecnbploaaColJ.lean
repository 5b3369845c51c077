/- ColumnsFew: for every input the law returns true, and the input reads as it did. No condition. -/
import Derived.Test.YtokenlecnbploaaColH
import Derived.Test.YtokenlecnbploaaOpen
namespace Go.Proofs.Ytokenlecnbploaa
open Go.RowKit Go.ChangeShapes Go.WideShapes Go.ChangeAt

theorem columnsFew_walk : LawWalk Try.prog 7 Try.f7 := by
  intro H enc W base args ds ps hval hA hlt
  rw [Try.params7] at hA hval
  obtain ⟨v0, vs0, d0, ds0, p0, q0, hargs, rfl, rfl, h0, r0⟩ := trodAll_cons hA
  obtain ⟨v1, vs1, d1, ds1, p1, q1, rfl, rfl, rfl, h1, r1⟩ := trodAll_cons r0
  obtain ⟨rfl, rfl, rfl⟩ := trodAll_nil r1
  obtain rfl : args = #[v0, v1] := by cases args; simp_all
  obtain ⟨l, hl, _⟩ := rs_of_trod Try.underlying39 (by kernel_rfl) (enc := fun n : Int => [.int .i64 n]) (fun _ => rfl) (by decide) (reads_int Try.underlying3) (hval 0 39 v0 rfl rfl) h0
  obtain ⟨cols, rfl, _, _, wc⟩ := open_int Try.underlying3 (hval 1 3 v1 rfl rfl) h1
  exact columnsFew_any v0 l cols W (ri_of_rs hl)

set_option maxRecDepth 100000 in
theorem columnsFew_lifted (os : Os) (started : os.Started) (H : Type) (enc : TypeId × Value → H) :
    ReturnsInHanded {} Try.checked os 7 .any (Rows.columnsFewSpec.pre6 enc Try.prog Try.f7 Rows.columnsFewRow.domain false) (Rows.columnsFewSpec.post enc Try.prog Try.f7 false true false false) :=
  lifted_of_walk (C := Try.checked) (s := Rows.columnsFewSpec) (tb := 4) Try.own0 started (by kernel_rfl) Try.func7
    (ChangeSpec.witness6 (enc := enc) (C := Try.checked) false ⟨#[], #[.slice none 0 0, .int .i64 0], []⟩ 8 (by kernel_rfl) (by kernel_rfl) (by kernel_rfl) (by kernel_rfl))
    Try.laidOut0 (by intro t ht; rw [Try.params7] at ht; simp at ht; rcases ht with rfl | rfl <;> exact ⟨by kernel_rfl, of_decide_eq_true (by kernel_rfl)⟩) rfl Try.underlying4 rfl
    (fun ds h => by match ds, h with | [_, _], _ => rfl) columnsFew_walk

theorem columnsFew_holds : Rows.ColumnsFewSaid :=
  OpenClaim.holds_of_wide 7 Try.f7 rfl rfl rfl rfl rfl rfl rfl ⟨rfl, rfl, rfl, rfl, rfl⟩ rfl rfl rfl rfl rfl (by kernel_rfl) Try.func7 (by kernel_rfl)
    (of_decide_eq_true (by kernel_rfl)) (by unfold Func.isWrapper; first | (rw [if_pos (by decide +kernel)]; kernel_rfl) | (rw [if_neg (by decide +kernel)]; exact ⟨rfl, rfl⟩))
    (fun os started H enc _ => columnsFew_lifted os started H enc)
#print axioms columnsFew_holds

end Go.Proofs.Ytokenlecnbploaa
