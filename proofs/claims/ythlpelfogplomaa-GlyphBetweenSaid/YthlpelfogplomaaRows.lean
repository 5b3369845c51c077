/-
  No cell of these rows narrows 'for every input' (looked for: loops, veiled, ifaces, maps, wideKeys, modest, calm, conditions, laid).
  DERIVED. THE GIVEN ROWS OF THIS SEAT. 7 by the template 'for every input the law returns true; each argument reads behind the call as it read before'; 0 by the template 'total and deterministic' (their statements: YthlpelfogplomaaTotals.lean).
  GIVEN WITH THE SEED: the statements are not yours to turn. If you find one false, say at which input.
  Laid BY PROGRAM, IN A SANDBOX (cutbox-rows.mjs): the forced cells as the released guide's own fill.sh prints them over the translation 5f223536f10c8484… (all of the seat's roots in one cut). By AI agents, Wed Nov 11 2026. No macro, syntax, notation, axiom, sorry.
-/
import Derived.Test.YthlpelfogplomaaChecked
import GoSem.Claim
import GoSem.ClaimJoined
import GoSem.ClaimMapViews
import Derived.JoinedTies
import Derived.KernelRfl
namespace Go.Proofs.Ythlpelfogplomaa
/- THE CELL 'sum', in the pinned program and in every row, IS THE sha256 OF THE DUMP (.gsa) THAT YthlpelfogplomaaProg.lean LOADS. Nothing in Lean hashes anything: it is a label: what it is worth is what the hold of that sum in a sandbox is worth. -/
noncomputable def Try.pinned : Pinned := { name := "ythlpelfogplomaa", sum := "5f223536f10c8484bc361f4ed2c56c8b3d85eaa94acc8cd6f0a45b5aef3022be", checked := Try.checked }
namespace Rows
def none {H : Type} : Left H := { results := [], args := [] }

/-- 'typebarlaw49.FlowWhole': WHATEVER THE INPUT: true; the input reads as it did. -/
def flowWholeSpec : ChangeSpec := { name := "flowWhole", fn := fun _ => fun
  | [d1, d2] => { results := [.lit (.bool true)], args := [d1, d2] }
  | _ => none }
def flowWholeRow : OpenClaim := { program := "ythlpelfogplomaa", sum := "5f223536f10c8484bc361f4ed2c56c8b3d85eaa94acc8cd6f0a45b5aef3022be", func := "typebar/typebarlaw49.FlowWhole", spec := "flowWhole", unfollowed := true, recurses := true, plainKeys := false, apart := false }
def FlowWholeSaid : Prop := flowWholeRow.holds Try.pinned (OpenSpec.ofChange flowWholeSpec)

/-- ITS FALSE NEIGHBOUR: 'it returns false'. Refute it at one input. -/
def flowWholeWrong : ChangeSpec := { name := "flowWhole", fn := fun _ => fun
  | [d1, d2] => { results := [.lit (.bool false)], args := [d1, d2] }
  | _ => none }
def FlowWholeWrongFalsely : Prop := flowWholeRow.holds Try.pinned (OpenSpec.ofChange flowWholeWrong)

/-- 'typebarlaw12.WordSplits': WHATEVER THE INPUT: true; the input reads as it did. -/
def wordSplitsSpec : ChangeSpec := { name := "wordSplits", fn := fun _ => fun
  | [d] => { results := [.lit (.bool true)], args := [d] }
  | _ => none }
def wordSplitsRow : OpenClaim := { program := "ythlpelfogplomaa", sum := "5f223536f10c8484bc361f4ed2c56c8b3d85eaa94acc8cd6f0a45b5aef3022be", func := "typebar/typebarlaw12.WordSplits", spec := "wordSplits", unfollowed := true, recurses := true, plainKeys := false, apart := false }
def WordSplitsSaid : Prop := wordSplitsRow.holds Try.pinned (OpenSpec.ofChange wordSplitsSpec)

/-- ITS FALSE NEIGHBOUR: 'it returns false'. Refute it at one input. -/
def wordSplitsWrong : ChangeSpec := { name := "wordSplits", fn := fun _ => fun
  | [d] => { results := [.lit (.bool false)], args := [d] }
  | _ => none }
def WordSplitsWrongFalsely : Prop := wordSplitsRow.holds Try.pinned (OpenSpec.ofChange wordSplitsWrong)

/-- 'typebarlaw12.WordQuotes': WHATEVER THE INPUT: true; the input reads as it did. -/
def wordQuotesSpec : ChangeSpec := { name := "wordQuotes", fn := fun _ => fun
  | [d1, d2] => { results := [.lit (.bool true)], args := [d1, d2] }
  | _ => none }
def wordQuotesRow : OpenClaim := { program := "ythlpelfogplomaa", sum := "5f223536f10c8484bc361f4ed2c56c8b3d85eaa94acc8cd6f0a45b5aef3022be", func := "typebar/typebarlaw12.WordQuotes", spec := "wordQuotes", unfollowed := true, recurses := true, plainKeys := false, apart := false }
def WordQuotesSaid : Prop := wordQuotesRow.holds Try.pinned (OpenSpec.ofChange wordQuotesSpec)

/-- ITS FALSE NEIGHBOUR: 'it returns false'. Refute it at one input. -/
def wordQuotesWrong : ChangeSpec := { name := "wordQuotes", fn := fun _ => fun
  | [d1, d2] => { results := [.lit (.bool false)], args := [d1, d2] }
  | _ => none }
def WordQuotesWrongFalsely : Prop := wordQuotesRow.holds Try.pinned (OpenSpec.ofChange wordQuotesWrong)

/-- 'typebarlaw49.FlowFinds': WHATEVER THE INPUT: true; the input reads as it did. -/
def flowFindsSpec : ChangeSpec := { name := "flowFinds", fn := fun _ => fun
  | [d1, d2, d3] => { results := [.lit (.bool true)], args := [d1, d2, d3] }
  | _ => none }
def flowFindsRow : OpenClaim := { program := "ythlpelfogplomaa", sum := "5f223536f10c8484bc361f4ed2c56c8b3d85eaa94acc8cd6f0a45b5aef3022be", func := "typebar/typebarlaw49.FlowFinds", spec := "flowFinds", unfollowed := true, recurses := true, plainKeys := false, apart := false }
def FlowFindsSaid : Prop := flowFindsRow.holds Try.pinned (OpenSpec.ofChange flowFindsSpec)

/-- ITS FALSE NEIGHBOUR: 'it returns false'. Refute it at one input. -/
def flowFindsWrong : ChangeSpec := { name := "flowFinds", fn := fun _ => fun
  | [d1, d2, d3] => { results := [.lit (.bool false)], args := [d1, d2, d3] }
  | _ => none }
def FlowFindsWrongFalsely : Prop := flowFindsRow.holds Try.pinned (OpenSpec.ofChange flowFindsWrong)

/-- 'typebarlaw13.GlyphReads': WHATEVER THE INPUT: true; the input reads as it did. -/
def glyphReadsSpec : ChangeSpec := { name := "glyphReads", fn := fun _ => fun
  | [d1, d2, d3] => { results := [.lit (.bool true)], args := [d1, d2, d3] }
  | _ => none }
def glyphReadsRow : OpenClaim := { program := "ythlpelfogplomaa", sum := "5f223536f10c8484bc361f4ed2c56c8b3d85eaa94acc8cd6f0a45b5aef3022be", func := "typebar/typebarlaw13.GlyphReads", spec := "glyphReads", unfollowed := true, recurses := true, plainKeys := false, apart := false }
def GlyphReadsSaid : Prop := glyphReadsRow.holds Try.pinned (OpenSpec.ofChange glyphReadsSpec)

/-- ITS FALSE NEIGHBOUR: 'it returns false'. Refute it at one input. -/
def glyphReadsWrong : ChangeSpec := { name := "glyphReads", fn := fun _ => fun
  | [d1, d2, d3] => { results := [.lit (.bool false)], args := [d1, d2, d3] }
  | _ => none }
def GlyphReadsWrongFalsely : Prop := glyphReadsRow.holds Try.pinned (OpenSpec.ofChange glyphReadsWrong)

/-- 'typebarlaw13.GlyphBetween': WHATEVER THE INPUT: true; the input reads as it did. -/
def glyphBetweenSpec : ChangeSpec := { name := "glyphBetween", fn := fun _ => fun
  | [d] => { results := [.lit (.bool true)], args := [d] }
  | _ => none }
def glyphBetweenRow : OpenClaim := { program := "ythlpelfogplomaa", sum := "5f223536f10c8484bc361f4ed2c56c8b3d85eaa94acc8cd6f0a45b5aef3022be", func := "typebar/typebarlaw13.GlyphBetween", spec := "glyphBetween", unfollowed := true, recurses := true, plainKeys := false, apart := false }
def GlyphBetweenSaid : Prop := glyphBetweenRow.holds Try.pinned (OpenSpec.ofChange glyphBetweenSpec)

/-- ITS FALSE NEIGHBOUR: 'it returns false'. Refute it at one input. -/
def glyphBetweenWrong : ChangeSpec := { name := "glyphBetween", fn := fun _ => fun
  | [d] => { results := [.lit (.bool false)], args := [d] }
  | _ => none }
def GlyphBetweenWrongFalsely : Prop := glyphBetweenRow.holds Try.pinned (OpenSpec.ofChange glyphBetweenWrong)

/-- 'typebarlaw48.PanSees': WHATEVER THE INPUT: true; the input reads as it did. -/
def panSeesSpec : ChangeSpec := { name := "panSees", fn := fun _ => fun
  | [d1, d2, d3] => { results := [.lit (.bool true)], args := [d1, d2, d3] }
  | _ => none }
def panSeesRow : OpenClaim := { program := "ythlpelfogplomaa", sum := "5f223536f10c8484bc361f4ed2c56c8b3d85eaa94acc8cd6f0a45b5aef3022be", func := "typebar/typebarlaw48.PanSees", spec := "panSees", unfollowed := true, recurses := true, plainKeys := false, apart := false }
def PanSeesSaid : Prop := panSeesRow.holds Try.pinned (OpenSpec.ofChange panSeesSpec)

/-- ITS FALSE NEIGHBOUR: 'it returns false'. Refute it at one input. -/
def panSeesWrong : ChangeSpec := { name := "panSees", fn := fun _ => fun
  | [d1, d2, d3] => { results := [.lit (.bool false)], args := [d1, d2, d3] }
  | _ => none }
def PanSeesWrongFalsely : Prop := panSeesRow.holds Try.pinned (OpenSpec.ofChange panSeesWrong)

/- THE SECOND FORM. 'bulk': how many values and letters a reading holds, each counted each time it is reached (what is shared counts as often as it is met; a slice's spare places count too). A statement '..UptoSaid' is the law's where the arguments, and the package variables that the reading takes, are together of bulk at most 1048576: NARROWER than '..Said'. Prove '..Said' where nothing that the law and all that it calls make is longer than what came in: it says more and counts as full. Else prove '..UptoSaid'. A law counts once. -/
mutual
def uptoBulk {H : Type} : DataW H → Nat
  | .lit (.string bytes) => bytes.length + 1
  | .lit _ => 1
  | .nil => 1
  | .ptr d => uptoBulk d + 1
  | .slice elems spare => uptoBulkAll elems + uptoBulkAll spare + 1
  | .agg parts => uptoBulkAll parts + 1
  | .iface _ d => uptoBulk d + 1
  | .map entries => uptoBulkEntries entries + 1
  | .held _ => 1
def uptoBulkAll {H : Type} : List (DataW H) → Nat
  | [] => 0
  | d :: r => uptoBulk d + uptoBulkAll r
def uptoBulkEntries {H : Type} : List (Lit × DataW H) → Nat
  | [] => 0
  | x :: r => uptoBulkEntry x + uptoBulkEntries r
def uptoBulkEntry {H : Type} : Lit × DataW H → Nat
  | (.string bytes, d) => bytes.length + uptoBulk d + 1
  | (_, d) => uptoBulk d + 1
 end
def uptoSmall : (H : Type) → List (DataW H) → Bool := fun _ ds => decide (uptoBulkAll ds ≤ 1048576)
def OpenSpec.upto (s : _root_.Go.ChangeSpec) : _root_.Go.OpenSpec := { _root_.Go.OpenSpec.ofChange s with cond := some uptoSmall }

/-- 'typebarlaw49.FlowWhole', WHERE WHAT IT READS IS OF BULK AT MOST 1048576: true; the input reads as it did. -/
def flowWholeUptoRow : OpenClaim := { program := "ythlpelfogplomaa", sum := "5f223536f10c8484bc361f4ed2c56c8b3d85eaa94acc8cd6f0a45b5aef3022be", func := "typebar/typebarlaw49.FlowWhole", spec := "flowWhole", unfollowed := true, recurses := true, plainKeys := false, apart := false, narrowed := true }
def FlowWholeUptoSaid : Prop := flowWholeUptoRow.holds Try.pinned (OpenSpec.upto flowWholeSpec)

/-- 'typebarlaw12.WordSplits', WHERE WHAT IT READS IS OF BULK AT MOST 1048576: true; the input reads as it did. -/
def wordSplitsUptoRow : OpenClaim := { program := "ythlpelfogplomaa", sum := "5f223536f10c8484bc361f4ed2c56c8b3d85eaa94acc8cd6f0a45b5aef3022be", func := "typebar/typebarlaw12.WordSplits", spec := "wordSplits", unfollowed := true, recurses := true, plainKeys := false, apart := false, narrowed := true }
def WordSplitsUptoSaid : Prop := wordSplitsUptoRow.holds Try.pinned (OpenSpec.upto wordSplitsSpec)

/-- 'typebarlaw12.WordQuotes', WHERE WHAT IT READS IS OF BULK AT MOST 1048576: true; the input reads as it did. -/
def wordQuotesUptoRow : OpenClaim := { program := "ythlpelfogplomaa", sum := "5f223536f10c8484bc361f4ed2c56c8b3d85eaa94acc8cd6f0a45b5aef3022be", func := "typebar/typebarlaw12.WordQuotes", spec := "wordQuotes", unfollowed := true, recurses := true, plainKeys := false, apart := false, narrowed := true }
def WordQuotesUptoSaid : Prop := wordQuotesUptoRow.holds Try.pinned (OpenSpec.upto wordQuotesSpec)

/-- 'typebarlaw49.FlowFinds', WHERE WHAT IT READS IS OF BULK AT MOST 1048576: true; the input reads as it did. -/
def flowFindsUptoRow : OpenClaim := { program := "ythlpelfogplomaa", sum := "5f223536f10c8484bc361f4ed2c56c8b3d85eaa94acc8cd6f0a45b5aef3022be", func := "typebar/typebarlaw49.FlowFinds", spec := "flowFinds", unfollowed := true, recurses := true, plainKeys := false, apart := false, narrowed := true }
def FlowFindsUptoSaid : Prop := flowFindsUptoRow.holds Try.pinned (OpenSpec.upto flowFindsSpec)

/-- 'typebarlaw13.GlyphReads', WHERE WHAT IT READS IS OF BULK AT MOST 1048576: true; the input reads as it did. -/
def glyphReadsUptoRow : OpenClaim := { program := "ythlpelfogplomaa", sum := "5f223536f10c8484bc361f4ed2c56c8b3d85eaa94acc8cd6f0a45b5aef3022be", func := "typebar/typebarlaw13.GlyphReads", spec := "glyphReads", unfollowed := true, recurses := true, plainKeys := false, apart := false, narrowed := true }
def GlyphReadsUptoSaid : Prop := glyphReadsUptoRow.holds Try.pinned (OpenSpec.upto glyphReadsSpec)

/-- 'typebarlaw13.GlyphBetween', WHERE WHAT IT READS IS OF BULK AT MOST 1048576: true; the input reads as it did. -/
def glyphBetweenUptoRow : OpenClaim := { program := "ythlpelfogplomaa", sum := "5f223536f10c8484bc361f4ed2c56c8b3d85eaa94acc8cd6f0a45b5aef3022be", func := "typebar/typebarlaw13.GlyphBetween", spec := "glyphBetween", unfollowed := true, recurses := true, plainKeys := false, apart := false, narrowed := true }
def GlyphBetweenUptoSaid : Prop := glyphBetweenUptoRow.holds Try.pinned (OpenSpec.upto glyphBetweenSpec)

/-- 'typebarlaw48.PanSees', WHERE WHAT IT READS IS OF BULK AT MOST 1048576: true; the input reads as it did. -/
def panSeesUptoRow : OpenClaim := { program := "ythlpelfogplomaa", sum := "5f223536f10c8484bc361f4ed2c56c8b3d85eaa94acc8cd6f0a45b5aef3022be", func := "typebar/typebarlaw48.PanSees", spec := "panSees", unfollowed := true, recurses := true, plainKeys := false, apart := false, narrowed := true }
def PanSeesUptoSaid : Prop := panSeesUptoRow.holds Try.pinned (OpenSpec.upto panSeesSpec)

end Rows
end Go.Proofs.Ythlpelfogplomaa
