/-
  No cell of these rows narrows 'for every input' (looked for: loops, veiled, ifaces, maps, wideKeys, modest, calm, conditions, laid).
  DERIVED. THE GIVEN ROWS OF THIS SEAT. 5 by the template 'for every input the law returns true; each argument reads behind the call as it read before'; 0 by the template 'total and deterministic' (their statements: YthlpelfogplomaaGreatTotals.lean).
  GIVEN WITH THE SEED: the statements are not yours to turn. If you find one false, say at which input.
  Laid BY PROGRAM, IN A SANDBOX (cutbox-rows.mjs): the forced cells as the released guide's own fill.sh prints them over the translation 4108041aa18cd3de… (all of the seat's roots in one cut). By AI agents, Wed Nov 11 2026. No macro, syntax, notation, axiom, sorry.
-/
import Derived.Test.YthlpelfogplomaaGreatChecked
import GoSem.Claim
import GoSem.ClaimJoined
import GoSem.ClaimMapViews
import Derived.JoinedTies
import Derived.KernelRfl
namespace Go.Proofs.YthlpelfogplomaaGreat
/- THE CELL 'sum', in the pinned program and in every row, IS THE sha256 OF THE DUMP (.gsa) THAT YthlpelfogplomaaGreatProg.lean LOADS. Nothing in Lean hashes anything: it is a label: what it is worth is what the hold of that sum in a sandbox is worth. -/
noncomputable def Tryz.pinned : Pinned := { name := "ythlpelfogplomaagreat", sum := "4108041aa18cd3de27b98b4ae892d8f6892b37b209abd9edfe855085fa4dd85c", checked := Tryz.checked }
namespace Rows
def none {H : Type} : Left H := { results := [], args := [] }

/-- 'typebarlaw49.FlowRows': WHATEVER THE INPUT: true; the input reads as it did. -/
def flowRowsSpec : ChangeSpec := { name := "flowRows", fn := fun _ => fun
  | [d1, d2] => { results := [.lit (.bool true)], args := [d1, d2] }
  | _ => none }
def flowRowsRow : OpenClaim := { program := "ythlpelfogplomaagreat", sum := "4108041aa18cd3de27b98b4ae892d8f6892b37b209abd9edfe855085fa4dd85c", func := "typebar/typebarlaw49.FlowRows", spec := "flowRows", unfollowed := true, recurses := true, plainKeys := false, apart := false }
def FlowRowsSaid : Prop := flowRowsRow.holds Tryz.pinned (OpenSpec.ofChange flowRowsSpec)

/-- ITS FALSE NEIGHBOUR: 'it returns false'. Refute it at one input. -/
def flowRowsWrong : ChangeSpec := { name := "flowRows", fn := fun _ => fun
  | [d1, d2] => { results := [.lit (.bool false)], args := [d1, d2] }
  | _ => none }
def FlowRowsWrongFalsely : Prop := flowRowsRow.holds Tryz.pinned (OpenSpec.ofChange flowRowsWrong)

/-- 'typebarlaw13.GlyphLines': WHATEVER THE INPUT: true; the input reads as it did. -/
def glyphLinesSpec : ChangeSpec := { name := "glyphLines", fn := fun _ => fun
  | [d1, d2] => { results := [.lit (.bool true)], args := [d1, d2] }
  | _ => none }
def glyphLinesRow : OpenClaim := { program := "ythlpelfogplomaagreat", sum := "4108041aa18cd3de27b98b4ae892d8f6892b37b209abd9edfe855085fa4dd85c", func := "typebar/typebarlaw13.GlyphLines", spec := "glyphLines", unfollowed := true, recurses := true, plainKeys := false, apart := false }
def GlyphLinesSaid : Prop := glyphLinesRow.holds Tryz.pinned (OpenSpec.ofChange glyphLinesSpec)

/-- ITS FALSE NEIGHBOUR: 'it returns false'. Refute it at one input. -/
def glyphLinesWrong : ChangeSpec := { name := "glyphLines", fn := fun _ => fun
  | [d1, d2] => { results := [.lit (.bool false)], args := [d1, d2] }
  | _ => none }
def GlyphLinesWrongFalsely : Prop := glyphLinesRow.holds Tryz.pinned (OpenSpec.ofChange glyphLinesWrong)

/-- 'typebarlaw41.UnitsTabs': WHATEVER THE INPUT: true; the input reads as it did. -/
def unitsTabsSpec : ChangeSpec := { name := "unitsTabs", fn := fun _ => fun
  | [d1, d2] => { results := [.lit (.bool true)], args := [d1, d2] }
  | _ => none }
def unitsTabsRow : OpenClaim := { program := "ythlpelfogplomaagreat", sum := "4108041aa18cd3de27b98b4ae892d8f6892b37b209abd9edfe855085fa4dd85c", func := "typebar/typebarlaw41.UnitsTabs", spec := "unitsTabs", unfollowed := true, recurses := true, plainKeys := false, apart := false }
def UnitsTabsSaid : Prop := unitsTabsRow.holds Tryz.pinned (OpenSpec.ofChange unitsTabsSpec)

/-- ITS FALSE NEIGHBOUR: 'it returns false'. Refute it at one input. -/
def unitsTabsWrong : ChangeSpec := { name := "unitsTabs", fn := fun _ => fun
  | [d1, d2] => { results := [.lit (.bool false)], args := [d1, d2] }
  | _ => none }
def UnitsTabsWrongFalsely : Prop := unitsTabsRow.holds Tryz.pinned (OpenSpec.ofChange unitsTabsWrong)

/-- 'typebarlaw48.PanChooses': WHATEVER THE INPUT: true; the input reads as it did. -/
def panChoosesSpec : ChangeSpec := { name := "panChooses", fn := fun _ => fun
  | [d1, d2, d3] => { results := [.lit (.bool true)], args := [d1, d2, d3] }
  | _ => none }
def panChoosesRow : OpenClaim := { program := "ythlpelfogplomaagreat", sum := "4108041aa18cd3de27b98b4ae892d8f6892b37b209abd9edfe855085fa4dd85c", func := "typebar/typebarlaw48.PanChooses", spec := "panChooses", unfollowed := true, recurses := true, plainKeys := false, apart := false }
def PanChoosesSaid : Prop := panChoosesRow.holds Tryz.pinned (OpenSpec.ofChange panChoosesSpec)

/-- ITS FALSE NEIGHBOUR: 'it returns false'. Refute it at one input. -/
def panChoosesWrong : ChangeSpec := { name := "panChooses", fn := fun _ => fun
  | [d1, d2, d3] => { results := [.lit (.bool false)], args := [d1, d2, d3] }
  | _ => none }
def PanChoosesWrongFalsely : Prop := panChoosesRow.holds Tryz.pinned (OpenSpec.ofChange panChoosesWrong)

/-- 'typebarlaw48.PanRows': WHATEVER THE INPUT: true; the input reads as it did. -/
def panRowsSpec : ChangeSpec := { name := "panRows", fn := fun _ => fun
  | [d1, d2, d3] => { results := [.lit (.bool true)], args := [d1, d2, d3] }
  | _ => none }
def panRowsRow : OpenClaim := { program := "ythlpelfogplomaagreat", sum := "4108041aa18cd3de27b98b4ae892d8f6892b37b209abd9edfe855085fa4dd85c", func := "typebar/typebarlaw48.PanRows", spec := "panRows", unfollowed := true, recurses := true, plainKeys := false, apart := false }
def PanRowsSaid : Prop := panRowsRow.holds Tryz.pinned (OpenSpec.ofChange panRowsSpec)

/-- ITS FALSE NEIGHBOUR: 'it returns false'. Refute it at one input. -/
def panRowsWrong : ChangeSpec := { name := "panRows", fn := fun _ => fun
  | [d1, d2, d3] => { results := [.lit (.bool false)], args := [d1, d2, d3] }
  | _ => none }
def PanRowsWrongFalsely : Prop := panRowsRow.holds Tryz.pinned (OpenSpec.ofChange panRowsWrong)

/- THE SECOND FORM. 'bulk': how many values and letters a reading holds, each counted each time it is reached (what is shared counts as often as it is met; a slice's spare places count too). A statement '..UptoSaid' is the law's where the arguments, and the package variables that the reading takes, are together of bulk at most 1048576: NARROWER than '..Said'. Prove '..Said' where nothing that the law and all that it calls make is longer than what came in: it says more and counts as full. Else prove '..UptoSaid'. A law counts once. -/
mutual
def uptoBulk {H : Type} : DataW H → Nat
  | .lit (.string bytes) => bytes.length + 1
  | .lit _ => 1
  | .nil => 1
  | .ptr d => uptoBulk d + 1
  | .slice elems spare => uptoBulkAll elems + uptoBulkAll spare + 1
  | .agg parts => uptoBulkAll parts + 1
  | .iface _ d => uptoBulk d + 1
  | .map entries => uptoBulkEntries entries + 1
  | .held _ => 1
def uptoBulkAll {H : Type} : List (DataW H) → Nat
  | [] => 0
  | d :: r => uptoBulk d + uptoBulkAll r
def uptoBulkEntries {H : Type} : List (Lit × DataW H) → Nat
  | [] => 0
  | x :: r => uptoBulkEntry x + uptoBulkEntries r
def uptoBulkEntry {H : Type} : Lit × DataW H → Nat
  | (.string bytes, d) => bytes.length + uptoBulk d + 1
  | (_, d) => uptoBulk d + 1
 end
def uptoSmall : (H : Type) → List (DataW H) → Bool := fun _ ds => decide (uptoBulkAll ds ≤ 1048576)
def OpenSpec.upto (s : _root_.Go.ChangeSpec) : _root_.Go.OpenSpec := { _root_.Go.OpenSpec.ofChange s with cond := some uptoSmall }

/-- 'typebarlaw49.FlowRows', WHERE WHAT IT READS IS OF BULK AT MOST 1048576: true; the input reads as it did. -/
def flowRowsUptoRow : OpenClaim := { program := "ythlpelfogplomaagreat", sum := "4108041aa18cd3de27b98b4ae892d8f6892b37b209abd9edfe855085fa4dd85c", func := "typebar/typebarlaw49.FlowRows", spec := "flowRows", unfollowed := true, recurses := true, plainKeys := false, apart := false, narrowed := true }
def FlowRowsUptoSaid : Prop := flowRowsUptoRow.holds Tryz.pinned (OpenSpec.upto flowRowsSpec)

/-- 'typebarlaw13.GlyphLines', WHERE WHAT IT READS IS OF BULK AT MOST 1048576: true; the input reads as it did. -/
def glyphLinesUptoRow : OpenClaim := { program := "ythlpelfogplomaagreat", sum := "4108041aa18cd3de27b98b4ae892d8f6892b37b209abd9edfe855085fa4dd85c", func := "typebar/typebarlaw13.GlyphLines", spec := "glyphLines", unfollowed := true, recurses := true, plainKeys := false, apart := false, narrowed := true }
def GlyphLinesUptoSaid : Prop := glyphLinesUptoRow.holds Tryz.pinned (OpenSpec.upto glyphLinesSpec)

/-- 'typebarlaw41.UnitsTabs', WHERE WHAT IT READS IS OF BULK AT MOST 1048576: true; the input reads as it did. -/
def unitsTabsUptoRow : OpenClaim := { program := "ythlpelfogplomaagreat", sum := "4108041aa18cd3de27b98b4ae892d8f6892b37b209abd9edfe855085fa4dd85c", func := "typebar/typebarlaw41.UnitsTabs", spec := "unitsTabs", unfollowed := true, recurses := true, plainKeys := false, apart := false, narrowed := true }
def UnitsTabsUptoSaid : Prop := unitsTabsUptoRow.holds Tryz.pinned (OpenSpec.upto unitsTabsSpec)

/-- 'typebarlaw48.PanChooses', WHERE WHAT IT READS IS OF BULK AT MOST 1048576: true; the input reads as it did. -/
def panChoosesUptoRow : OpenClaim := { program := "ythlpelfogplomaagreat", sum := "4108041aa18cd3de27b98b4ae892d8f6892b37b209abd9edfe855085fa4dd85c", func := "typebar/typebarlaw48.PanChooses", spec := "panChooses", unfollowed := true, recurses := true, plainKeys := false, apart := false, narrowed := true }
def PanChoosesUptoSaid : Prop := panChoosesUptoRow.holds Tryz.pinned (OpenSpec.upto panChoosesSpec)

/-- 'typebarlaw48.PanRows', WHERE WHAT IT READS IS OF BULK AT MOST 1048576: true; the input reads as it did. -/
def panRowsUptoRow : OpenClaim := { program := "ythlpelfogplomaagreat", sum := "4108041aa18cd3de27b98b4ae892d8f6892b37b209abd9edfe855085fa4dd85c", func := "typebar/typebarlaw48.PanRows", spec := "panRows", unfollowed := true, recurses := true, plainKeys := false, apart := false, narrowed := true }
def PanRowsUptoSaid : Prop := panRowsUptoRow.holds Tryz.pinned (OpenSpec.upto panRowsSpec)

end Rows
end Go.Proofs.YthlpelfogplomaaGreat
