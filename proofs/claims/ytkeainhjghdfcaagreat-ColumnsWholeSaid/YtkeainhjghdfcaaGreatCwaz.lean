/- Joined texts: SegE. -/
import Derived.Test.YtkeainhjghdfcaaGreatCway
import Derived.Test.YtkeainhjghdfcaaGreatCwax

/- seg: Starts, Next. -/
namespace Go.Proofs.YtkeainhjghdfcaaGreat
open Go.RowKit

/-- the block b holds the state st -/
def stRow (w : World) (b : Nat) (st : St) : Prop := w.heap[b]? = some (.cells #[.bool st.some, .int .i64 st.last, .int .i64 st.pict, .int .i64 st.conj, .bool st.odd] 175 (0, 0))
theorem stRow_set {w : World} {b : Nat} {old : St} (h : stRow w b old) (n : St) : stRow (((((w.setCell ⟨b, 0, none⟩ (.bool n.some)).setCell ⟨b, 1, none⟩ (.int .i64 n.last)).setCell ⟨b, 2, none⟩ (.int .i64 n.pict)).setCell ⟨b, 3, none⟩ (.int .i64 n.conj)).setCell ⟨b, 4, none⟩ (.bool n.odd)) b n := by
  unfold stRow at h ⊢
  exact heap_setCell_same _ _ _ _ _ _ (heap_setCell_same _ _ _ _ _ _ (heap_setCell_same _ _ _ _ _ _ (heap_setCell_same _ _ _ _ _ _ (heap_setCell_same _ _ _ _ _ _ h))))
theorem stRow.kept {w w' : World} {b : Nat} {st : St} (h : stRow w b st) (hb : Below w.heap.size w w') : stRow w' b st := by
  have hl : b < w.heap.size := by
    unfold stRow at h
    exact (Array.getElem?_eq_some_iff.1 h).1
  exact (hb.block b hl).trans h
theorem stRow.lt {w : World} {b : Nat} {st : St} (h : stRow w b st) : b < w.heap.size := (Array.getElem?_eq_some_iff.1 (show w.heap[b]? = _ from h)).1
theorem owns_store {w : World} {base e size n b i : Nat} {v u : Value} {xs : List Value} (h : w.ownsRow base e size v n xs) (hb : b < base) : (w.setCell ⟨b, i, none⟩ u).ownsRow base e size v n xs :=
  h.kept (setCell_grown w ⟨b, i, none⟩ u) (.inr (fun e => by have := (h.lt _ e).1; simp at this; omega))
section
variable {R : List Rw} {s : List Int} {w : World} {sv : Value} {tp : Nat}
end
end Go.Proofs.YtkeainhjghdfcaaGreat
