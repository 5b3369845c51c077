/- Joined texts: SegB SegC SegD. -/
import Derived.Deep.RegionHeld3
import Derived.Deep.DeepCutAuto
import Derived.Test.YtkeainhjghdfcaaZaaw
import Derived.Test.YtkeainhjghdfcaaZaaa
/- The document's rules of clusters: conjoined, pictured, flagged, Begins. -/
namespace Go.Proofs.Ytkeainhjghdfcaa
open Go.RowKit

theorem ret_i {a b : Int} (h : a = b) : Ending.returned (.int .i64 a) = .returned (.int .i64 b) := by rw [h]
section
variable {R : List Rw} {s : List Int} {w : World} {v sv : Value}
theorem take_rev_succ {j : Nat} {x : Int} (h : s[j]? = some x) : (s.take (j + 1)).reverse = x :: (s.take j).reverse := take_succ_rev h
end
end Go.Proofs.Ytkeainhjghdfcaa

/- The document's Begins, Starts, Next. -/
namespace Go.Proofs.Ytkeainhjghdfcaa
open Go.RowKit

section
variable {R : List Rw} {s : List Int} {w : World} {v sv : Value}
end
end Go.Proofs.Ytkeainhjghdfcaa

/- The document's Starts, Next; lists of numbers compared. -/
namespace Go.Proofs.Ytkeainhjghdfcaa
open Go.RowKit

/-- a slice of numbers reads as l -/
def nE (n : Nat) : List Value := [.int .i64 ((n : Nat) : Int)]
theorem nE_len (n : Nat) : (nE n).length = 1 := rfl
def IntsIn (w : World) (v : Value) (l : List Nat) : Prop := Rs w.heap.size w nE 1 v l
theorem IntsIn.below {w w' : World} {v : Value} {l : List Nat} (h : IntsIn w v l) (hb : Below w.heap.size w w') : IntsIn w' v l := (Rd.below h hb (Nat.le_refl _)).mono hb.size
theorem IntsIn.drewN {w : World} {v : Value} {l : List Nat} (h : IntsIn w v l) (n : Nat) : IntsIn (w.drewN n) v l := h
theorem ints_of_owns {w : World} {base e : Nat} {v : Value} {l : List Nat} (h : w.ownsRow base e 1 v l.length (l.flatMap nE)) : IntsIn w v l := rd_of_owns h
theorem ints_cells {w : World} {v : Value} {l : List Nat} (h : IntsIn w v l) : ∃ a cap, v = .slice a l.length cap ∧ l.length ≤ cap ∧ cap ≤ maxLen ∧ (0 < l.length → ∃ b off, a = some ⟨b, off, none⟩ ∧ b < w.heap.size ∧ ∀ k x, l[k]? = some x → w.cell? ⟨b, off + k, none⟩ = some (.int .i64 ((x : Nat) : Int))) := by
  obtain ⟨a, cap, rfl, h1, h2, h3, h4⟩ := h
  refine ⟨a, cap, rfl, h1, h2, fun hn => ?_⟩
  obtain ⟨b, off, rfl, hb, hq⟩ := h4 hn
  refine ⟨b, off, rfl, hb, fun k x hx => ?_⟩
  have := flat_cell nE_len hq hx 0 rfl
  simpa using this
theorem int_cell {w : World} {v : Value} {l : List Nat} (h : IntsIn w v l) {k : Nat} {x : Nat} (hx : l[k]? = some x) : ∃ b off cap, v = .slice (some ⟨b, off, none⟩) l.length cap ∧ cap ≤ maxLen ∧ l.length ≤ cap ∧ k < l.length ∧ b < w.heap.size ∧ w.cell? ⟨b, off + k, none⟩ = some (.int .i64 ((x : Nat) : Int)) := by
  have hk := (List.getElem?_eq_some_iff.1 hx).1
  obtain ⟨a, cap, rfl, h1, h2, h3⟩ := ints_cells h
  obtain ⟨b, off, rfl, hb, hq⟩ := h3 (by omega)
  exact ⟨b, off, cap, rfl, h2, h1, hk, hb, hq k x hx⟩
theorem nE_one (k : Nat) : ∀ u ∈ nE k, u.oneCell' = true := by intro u hu; simp [nE] at hu; subst hu; rfl
theorem EI : ElemT Try.prog 70 3 1 8 := elemT_of (by kernel_rfl) (z := .int .i64 0) (by kernel_rfl) rfl (by decide) (by decide)
def IntsPost (w : World) (L : List Nat) (e : Ending) (w' : World) : Prop := ∃ u, e = .returned u ∧ Below w.heap.size w w' ∧ IntsIn w' u L

theorem startsB_step {T : Tab} {s : List Int} {k : Nat} (hk : k < s.length) : startsB T (s.take k).reverse k (s.drop k) = (if begAt T s k then [k] else []) ++ startsB T (s.take (k + 1)).reverse (k + 1) (s.drop (k + 1)) := by
  have hx : s[k]? = some s[k] := List.getElem?_eq_getElem hk
  generalize s[k] = x at hx
  rw [drop_of_get hx, take_succ_rev hx]
  unfold begAt
  rw [hx]
  simp only [startsB]
  split <;> simp
section
variable {R : List Rw} {s : List Int} {w : World} {v sv : Value}
end
end Go.Proofs.Ytkeainhjghdfcaa
