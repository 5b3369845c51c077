/- WordQuotes: for every input the law returns true. No condition. -/
import Derived.Test.YthlpelfogplomaaZhaa
import Derived.Test.YthlpelfogplomaaZaaa
namespace Go.Proofs.Ythlpelfogplomaa
open Go.RowKit Go.ChangeShapes Go.WideShapes Go.ChangeAt

set_option maxRecDepth 100000 in
theorem wordQuotes_walk : LawWalk Try.prog 5 Try.f5 := by
  intro H enc W base args ds ps hval hA hlt
  rw [Try.params5] at hA hval
  obtain ⟨v0, vs0, d0, ds0, p0, q0, hargs, rfl, rfl, h0, r0⟩ := trodAll_cons hA
  obtain ⟨v1, vs1, d1, ds1, p1, q1, rfl, rfl, rfl, h1, r1⟩ := trodAll_cons r0
  obtain ⟨rfl, rfl, rfl⟩ := trodAll_nil r1
  obtain rfl : args = #[v0, v1] := by cases args; simp_all
  obtain ⟨l, hl0, ok0⟩ := texts_of_trod (hval 0 33 v0 rfl rfl) h0
  obtain ⟨b, rfl, _, _⟩ := open_bool Try.underlying4 (hval 1 4 v1 rfl rfl) h1
  exact wordQuotes_any v0 l b W hl0

set_option maxRecDepth 100000 in
theorem wordQuotes_lifted (os : Os) (started : os.Started) (H : Type) (enc : TypeId × Value → H) :
    ReturnsInHanded {} Try.checked os 5 .any (Rows.wordQuotesSpec.pre6 enc Try.prog Try.f5 Rows.wordQuotesRow.domain false) (Rows.wordQuotesSpec.post enc Try.prog Try.f5 false true false false) :=
  lifted_of_walk (C := Try.checked) (s := Rows.wordQuotesSpec) (tb := 4) Try.own0 started (by kernel_rfl) Try.func5
    (ChangeSpec.witness6 (enc := enc) (C := Try.checked) false ⟨#[], #[.slice none 0 0, .bool false], []⟩ 8 (by kernel_rfl) (by kernel_rfl) (by kernel_rfl) (by kernel_rfl))
    Try.laidOut0 (by intro t ht; rw [Try.params5] at ht; simp at ht; rcases ht with rfl | rfl <;> exact ⟨by kernel_rfl, of_decide_eq_true (by kernel_rfl)⟩) rfl Try.underlying4 rfl
    (fun ds h => by match ds, h with | [_, _], _ => rfl) wordQuotes_walk

set_option maxRecDepth 100000 in
theorem wordQuotes_holds : Rows.WordQuotesSaid :=
  OpenClaim.holds_of_wide 5 Try.f5 rfl rfl rfl rfl rfl rfl rfl ⟨rfl, rfl, rfl, rfl, rfl⟩ rfl rfl rfl rfl rfl (by kernel_rfl) Try.func5 (by kernel_rfl)
    (of_decide_eq_true (by kernel_rfl)) (by unfold Func.isWrapper; first | (rw [if_pos (by decide +kernel)]; kernel_rfl) | (rw [if_neg (by decide +kernel)]; exact ⟨rfl, rfl⟩))
    (fun os started H enc _ => wordQuotes_lifted os started H enc)
#print axioms wordQuotes_holds


end Go.Proofs.Ythlpelfogplomaa
