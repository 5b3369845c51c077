/- Joined texts: GlyI. -/
import Derived.Test.YtkeainhjghdfcaaZcab
import Derived.Test.YtkeainhjghdfcaaZcaa
/- The document's Of; are two lists of glyphs the same? -/
namespace Go.Proofs.Ytkeainhjghdfcaa
open Go.RowKit

section
variable {R : List Rw} {c : List Int} {w : World} {v sv : Value}
theorem ERG : ElemT Try.prog 22 35 2 24 := elemT_of (by kernel_rfl) (z := .agg #[.string ⟨#[]⟩, .int .i64 0]) (by kernel_rfl) rfl (by decide) (by decide)
theorem rgly_of_owns {w : World} {base : Nat} {v : Value} {l : List Gy} (h : w.ownsRow base 35 2 v l.length (l.flatMap gyE)) : GlyIn w v l := rd_of_owns h
theorem caret_a {r : Int} (h : 0 ≤ r ∧ r < 32) : caretG r = [(⟨#[94]⟩, 1), (put (r + 64), 1)] := by
  have hv : validB (r + 64) = true := validB_iff.2 (by omega)
  have e : putN (r + 64) = [r + 64] := by unfold putN; rw [fixR_ok hv, if_pos (by omega)]
  unfold caretG put
  rw [if_pos h, e]
theorem caret_b {r : Int} (h : ¬ (0 ≤ r ∧ r < 32)) (h2 : r = 127) : caretG r = [(⟨#[94]⟩, 1), (⟨#[63]⟩, 1)] := by unfold caretG; rw [if_neg h, if_pos h2]
theorem caret_c {r : Int} (h : ¬ (0 ≤ r ∧ r < 32)) (h2 : ¬ r = 127) : caretG r = [(put 65533, 1)] := by unfold caretG; rw [if_neg h, if_neg h2]
end
end Go.Proofs.Ytkeainhjghdfcaa
