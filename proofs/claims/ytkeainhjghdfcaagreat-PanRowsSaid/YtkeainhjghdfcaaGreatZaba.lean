/- Joined texts: Awake. -/
import Derived.Test.YtkeainhjghdfcaaGreatZaaz
import Derived.Test.YtkeainhjghdfcaaGreatZaaw
/- Chapter 4's examples. -/
namespace Go.Proofs.YtkeainhjghdfcaaGreat
open Go.RowKit

theorem wrap32_id {n : Int} (h0 : 0 ≤ n) (h1 : n ≤ 1114111) : wrap32 n = n := by unfold wrap32; omega
/-- what a row of pairs says -/
theorem RFacts.pair {R : List Rw} (h : RFacts R) {r : Int} {x : Rw} (hx : fnd R 2 r = some x) : x ∈ R ∧ x.k = 2 ∧ x.f = r ∧ pairR R r = (x.a, x.b) ∧ 1 ≤ x.a ∧ x.a ≤ 1114111 ∧ 0 ≤ x.b ∧ x.b ≤ 1114111 ∧ 0 ≤ r ∧ r ≤ 1114111 := by
  obtain ⟨h1, h2, h3, h4, h5, h6⟩ := fnd_mem hx
  obtain ⟨p1, p2, p3, p4, p5, p6, p7, p8⟩ := h.prs x h1 h2
  refine ⟨h1, h2, by omega, ?_, p4, p5, p6, p7, h5, h6⟩
  unfold pairR
  rw [hx]
  dsimp only
  rw [wrap32_id (by omega) p5, wrap32_id p6 p7]
theorem RFacts.made {R : List Rw} (h : RFacts R) {f : Pr → Option Int} {g : Int → Option Bool} (hm : MadeOn R 1114112 f g) : f (101, 769) = some 233 := by
  refine (hm.f _ _).2 ⟨?_, by decide, h.p233, h.o233, fun r' hd hl hp => ?_⟩
  · cases hx : fnd R 2 233 with
    | some x => exact ⟨x, hx⟩
    | none =>
      have := h.p233
      unfold pairR at this
      rw [hx] at this
      cases this
  · obtain ⟨x, hx⟩ := hd
    obtain ⟨h1, h2, h3, h4, _⟩ := h.pair hx
    rw [h4] at hp
    have e1 : x.a = 101 := congrArg Prod.fst hp
    have e2 : x.b = 769 := congrArg Prod.snd hp
    have := h.one x h1 h2 e1 e2
    omega
end Go.Proofs.YtkeainhjghdfcaaGreat
