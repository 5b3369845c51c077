/- Joined texts: StrE. -/
import Derived.Test.YtkeainhjghdfcaaGreatRows
import Derived.Laws.Concat
import Derived.Test.YtkeainhjghdfcaaGreatSwaa

/- Rows of strings; an operation whose guard says no. -/
namespace Go.Proofs.YtkeainhjghdfcaaGreat
open Go.RowKit

theorem EStr : ElemT Tryz.prog 69 9 1 16 := elemT_of (by kernel_rfl) (z := .string ⟨#[]⟩) (by kernel_rfl) rfl (by decide) (by decide)
def strE (s : ByteArray) : List Value := [.string s]
theorem strE_one (s : ByteArray) : ∀ u ∈ strE s, u.oneCell' = true := by intro u hu; simp [strE] at hu; subst hu; rfl
theorem empty_toList : (⟨#[]⟩ : ByteArray).toList = [] := by decide +kernel
/-- a guarded operation whose guard says no -/
theorem hd_skip {P : Program} {md : Region.Mode} {l : List Oper} {Q : Exit → Act → World → Prop} {S : World → Prop} {fuel : Nat} {listed : Array Bool} {a : Act} {w : World} (i : Nat) {oi : Oper} (hi : l[i]? = some oi)
    (hs : Region.noSelect l.toArray = true) (hf : Region.free md l.toArray listed i = true) (hr : (Region.ready md l.toArray listed).contains i = true)
    (hQ : ∀ c a w, Q (.panic c) (a.put oi.dst undef) w → Q (.panic c) a w) (hw : Region.wanted oi (yielded l.toArray a.tmps) = false) (hS : S w)
    (h : wpAnyH P md l.toArray Q S fuel (listed.setIfInBounds i true) (a.put oi.dst undef) w) : wpAnyH P md l.toArray Q S (fuel + 1) listed a w :=
  wpAnyH_take (by simpa using hi) hs hf hr hQ (.inr ⟨hw, rfl⟩) hS h
end Go.Proofs.YtkeainhjghdfcaaGreat
