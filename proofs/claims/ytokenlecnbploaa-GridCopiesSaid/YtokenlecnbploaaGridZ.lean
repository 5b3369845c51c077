/- GridCopies: for every input the law returns true. No condition. -/
import Derived.Test.YtokenlecnbploaaGridY
namespace Go.Proofs.Ytokenlecnbploaa
open Go.RowKit Go.ChangeShapes Go.WideShapes Go.ChangeAt

/-- A struct that came in by value, of cells that hold no addresses. -/
theorem agg_of_trod {H : Type} {enc0 : TypeId × Value → H} {P : Program} {W : World} {t : TypeId} {fs : Array Field} {α : Type} {enc : α → List Value} {ok : α → Prop} {v : Value} {d : DataW H} {p : List MemPlace} {spare : Nat → Bool} {r : Reach} {b0 : Nat}
    (ht : P.underlying t = some (.struct fs)) (hR : Reads P t enc ok) (hv : Value.okWide P W r b0 t v) (h : DataW.Trod enc0 P W 0 spare true t v d p) : ∃ y, v = .agg (enc y).toArray ∧ ok y := by
  obtain ⟨cs, rfl, _⟩ := okWide_struct ht hv
  obtain ⟨fuel, hf⟩ := h
  obtain ⟨y, hy, hok⟩ := hR _ _ _ _ _ _ _ _ _ hf
  refine ⟨y, ?_, hok⟩
  have : cs.toList = enc y := hy
  rw [← this]

theorem gridCopies_walk : LawWalk Try.prog 12 Try.f12 := by
  intro H enc W base args ds ps hval hA hlt
  rw [Try.params12] at hA hval
  obtain ⟨v0, vs0, d0, ds0, p0, q0, hargs, rfl, rfl, h0, r0⟩ := trodAll_cons hA
  obtain ⟨v1, vs1, d1, ds1, p1, q1, rfl, rfl, rfl, h1, r1⟩ := trodAll_cons r0
  obtain ⟨v2, vs2, d2, ds2, p2, q2, rfl, rfl, rfl, h2, r2⟩ := trodAll_cons r1
  obtain ⟨v3, vs3, d3, ds3, p3, q3, rfl, rfl, rfl, h3, r3⟩ := trodAll_cons r2
  obtain ⟨rfl, rfl, rfl⟩ := trodAll_nil r3
  obtain rfl : args = #[v0, v1, v2, v3] := by cases args; simp_all
  obtain ⟨a, rfl, _, _, wa⟩ := open_int Try.underlying3 (hval 0 3 v0 rfl rfl) h0
  obtain ⟨b, rfl, _, _, wb⟩ := open_int Try.underlying3 (hval 1 3 v1 rfl rfl) h1
  obtain ⟨l, hl, _⟩ := rs_of_trod Try.underlying50 (by kernel_rfl) denc_len (by decide) reads_deed (hval 2 _ v2 rfl rfl) h2
  obtain ⟨x, rfl, _⟩ := agg_of_trod Try.underlying58 reads_deed (hval 3 _ v3 rfl rfl) h3
  exact gridCopies_any a b v2 l x W hl

set_option maxRecDepth 100000 in
theorem gridCopies_lifted (os : Os) (started : os.Started) (H : Type) (enc : TypeId × Value → H) :
    ReturnsInHanded {} Try.checked os 12 .any (Rows.gridCopiesSpec.pre6 enc Try.prog Try.f12 Rows.gridCopiesRow.domain false) (Rows.gridCopiesSpec.post enc Try.prog Try.f12 false true false false) :=
  lifted_of_walk (C := Try.checked) (s := Rows.gridCopiesSpec) (tb := 4) Try.own0 started (by kernel_rfl) Try.func12
    (ChangeSpec.witness6 (enc := enc) (C := Try.checked) false ⟨#[], #[.int .i64 0, .int .i64 0, .slice none 0 0, .agg #[.int .i64 0, .int .i64 0, .int .i64 0, .string ⟨#[]⟩, .int .i64 0]], []⟩ 8 (by kernel_rfl) (by kernel_rfl) (by kernel_rfl) (by kernel_rfl))
    Try.laidOut0 (by intro t ht; rw [Try.params12] at ht; simp at ht; rcases ht with rfl | rfl | rfl <;> exact ⟨by kernel_rfl, of_decide_eq_true (by kernel_rfl)⟩) rfl Try.underlying4 rfl
    (fun ds h => by match ds, h with | [_, _, _, _], _ => rfl) gridCopies_walk

theorem gridCopies_holds : Rows.GridCopiesSaid :=
  OpenClaim.holds_of_wide 12 Try.f12 rfl rfl rfl rfl rfl rfl rfl ⟨rfl, rfl, rfl, rfl, rfl⟩ rfl rfl rfl rfl rfl (by kernel_rfl) Try.func12 (by kernel_rfl)
    (of_decide_eq_true (by kernel_rfl)) (by unfold Func.isWrapper; first | (rw [if_pos (by decide +kernel)]; kernel_rfl) | (rw [if_neg (by decide +kernel)]; exact ⟨rfl, rfl⟩))
    (fun os started H enc _ => gridCopies_lifted os started H enc)
#print axioms gridCopies_holds

end Go.Proofs.Ytokenlecnbploaa
