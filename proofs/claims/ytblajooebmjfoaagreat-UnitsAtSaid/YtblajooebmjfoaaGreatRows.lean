/-
  No cell of these rows narrows 'for every input' (looked for: loops, veiled, ifaces, maps, wideKeys, modest, calm, conditions, laid).
  DERIVED. THE GIVEN ROWS OF THIS SEAT. 4 by the template 'for every input the law returns true; each argument reads behind the call as it read before'; 0 by the template 'total and deterministic' (their statements: YtblajooebmjfoaaGreatTotals.lean).
  GIVEN WITH THE SEED: the statements are not yours to turn. If you find one false, say at which input.
  Laid BY PROGRAM, IN A SANDBOX (cutbox-rows.mjs): the forced cells as the released guide's own fill.sh prints them over the translation 414248ef35d3eea3… (all of the seat's roots in one cut). By AI agents, Wed Nov 11 2026. No macro, syntax, notation, axiom, sorry.
-/
import Derived.Test.YtblajooebmjfoaaGreatChecked
import GoSem.Claim
import GoSem.ClaimJoined
import GoSem.ClaimMapViews
import Derived.JoinedTies
import Derived.KernelRfl
namespace Go.Proofs.YtblajooebmjfoaaGreat
/- THE CELL 'sum', in the pinned program and in every row, IS THE sha256 OF THE DUMP (.gsa) THAT YtblajooebmjfoaaGreatProg.lean LOADS. Nothing in Lean hashes anything: it is a label: what it is worth is what the hold of that sum in a sandbox is worth. -/
noncomputable def Tryz.pinned : Pinned := { name := "ytblajooebmjfoaagreat", sum := "414248ef35d3eea3af7b7430a466cc7ad00ec64455d2afef9e730357bab660c8", checked := Tryz.checked }
namespace Rows
def none {H : Type} : Left H := { results := [], args := [] }

/-- 'typebarlaw15.IndexFinds': WHATEVER THE INPUT: true; the input reads as it did. -/
def indexFindsSpec : ChangeSpec := { name := "indexFinds", fn := fun _ => fun
  | [d1, d2, d3] => { results := [.lit (.bool true)], args := [d1, d2, d3] }
  | _ => none }
def indexFindsRow : OpenClaim := { program := "ytblajooebmjfoaagreat", sum := "414248ef35d3eea3af7b7430a466cc7ad00ec64455d2afef9e730357bab660c8", func := "typebar/typebarlaw15.IndexFinds", spec := "indexFinds", unfollowed := true, recurses := true, plainKeys := false, apart := false }
def IndexFindsSaid : Prop := indexFindsRow.holds Tryz.pinned (OpenSpec.ofChange indexFindsSpec)

/-- ITS FALSE NEIGHBOUR: 'it returns false'. Refute it at one input. -/
def indexFindsWrong : ChangeSpec := { name := "indexFinds", fn := fun _ => fun
  | [d1, d2, d3] => { results := [.lit (.bool false)], args := [d1, d2, d3] }
  | _ => none }
def IndexFindsWrongFalsely : Prop := indexFindsRow.holds Tryz.pinned (OpenSpec.ofChange indexFindsWrong)

/-- 'typebarlaw41.UnitsAt': WHATEVER THE INPUT: true; the input reads as it did. -/
def unitsAtSpec : ChangeSpec := { name := "unitsAt", fn := fun _ => fun
  | [d1, d2, d3] => { results := [.lit (.bool true)], args := [d1, d2, d3] }
  | _ => none }
def unitsAtRow : OpenClaim := { program := "ytblajooebmjfoaagreat", sum := "414248ef35d3eea3af7b7430a466cc7ad00ec64455d2afef9e730357bab660c8", func := "typebar/typebarlaw41.UnitsAt", spec := "unitsAt", unfollowed := true, recurses := true, plainKeys := false, apart := false }
def UnitsAtSaid : Prop := unitsAtRow.holds Tryz.pinned (OpenSpec.ofChange unitsAtSpec)

/-- ITS FALSE NEIGHBOUR: 'it returns false'. Refute it at one input. -/
def unitsAtWrong : ChangeSpec := { name := "unitsAt", fn := fun _ => fun
  | [d1, d2, d3] => { results := [.lit (.bool false)], args := [d1, d2, d3] }
  | _ => none }
def UnitsAtWrongFalsely : Prop := unitsAtRow.holds Tryz.pinned (OpenSpec.ofChange unitsAtWrong)

/-- 'typebarlaw41.UnitsTurns': WHATEVER THE INPUT: true; the input reads as it did. -/
def unitsTurnsSpec : ChangeSpec := { name := "unitsTurns", fn := fun _ => fun
  | [d1, d2, d3, d4] => { results := [.lit (.bool true)], args := [d1, d2, d3, d4] }
  | _ => none }
def unitsTurnsRow : OpenClaim := { program := "ytblajooebmjfoaagreat", sum := "414248ef35d3eea3af7b7430a466cc7ad00ec64455d2afef9e730357bab660c8", func := "typebar/typebarlaw41.UnitsTurns", spec := "unitsTurns", unfollowed := true, recurses := true, plainKeys := false, apart := false }
def UnitsTurnsSaid : Prop := unitsTurnsRow.holds Tryz.pinned (OpenSpec.ofChange unitsTurnsSpec)

/-- ITS FALSE NEIGHBOUR: 'it returns false'. Refute it at one input. -/
def unitsTurnsWrong : ChangeSpec := { name := "unitsTurns", fn := fun _ => fun
  | [d1, d2, d3, d4] => { results := [.lit (.bool false)], args := [d1, d2, d3, d4] }
  | _ => none }
def UnitsTurnsWrongFalsely : Prop := unitsTurnsRow.holds Tryz.pinned (OpenSpec.ofChange unitsTurnsWrong)

/-- 'typebarlaw45.ColumnsWidth': WHATEVER THE INPUT: true; the input reads as it did. -/
def columnsWidthSpec : ChangeSpec := { name := "columnsWidth", fn := fun _ => fun
  | [d] => { results := [.lit (.bool true)], args := [d] }
  | _ => none }
def columnsWidthRow : OpenClaim := { program := "ytblajooebmjfoaagreat", sum := "414248ef35d3eea3af7b7430a466cc7ad00ec64455d2afef9e730357bab660c8", func := "typebar/typebarlaw45.ColumnsWidth", spec := "columnsWidth", unfollowed := true, recurses := true, plainKeys := false, apart := false }
def ColumnsWidthSaid : Prop := columnsWidthRow.holds Tryz.pinned (OpenSpec.ofChange columnsWidthSpec)

/-- ITS FALSE NEIGHBOUR: 'it returns false'. Refute it at one input. -/
def columnsWidthWrong : ChangeSpec := { name := "columnsWidth", fn := fun _ => fun
  | [d] => { results := [.lit (.bool false)], args := [d] }
  | _ => none }
def ColumnsWidthWrongFalsely : Prop := columnsWidthRow.holds Tryz.pinned (OpenSpec.ofChange columnsWidthWrong)

/- THE SECOND FORM. 'bulk': how many values and letters a reading holds, each counted each time it is reached (what is shared counts as often as it is met; a slice's spare places count too). A statement '..UptoSaid' is the law's where the arguments, and the package variables that the reading takes, are together of bulk at most 1048576: NARROWER than '..Said'. Prove '..Said' where nothing that the law and all that it calls make is longer than what came in: it says more and counts as full. Else prove '..UptoSaid'. A law counts once. -/
mutual
def uptoBulk {H : Type} : DataW H → Nat
  | .lit (.string bytes) => bytes.length + 1
  | .lit _ => 1
  | .nil => 1
  | .ptr d => uptoBulk d + 1
  | .slice elems spare => uptoBulkAll elems + uptoBulkAll spare + 1
  | .agg parts => uptoBulkAll parts + 1
  | .iface _ d => uptoBulk d + 1
  | .map entries => uptoBulkEntries entries + 1
  | .held _ => 1
def uptoBulkAll {H : Type} : List (DataW H) → Nat
  | [] => 0
  | d :: r => uptoBulk d + uptoBulkAll r
def uptoBulkEntries {H : Type} : List (Lit × DataW H) → Nat
  | [] => 0
  | x :: r => uptoBulkEntry x + uptoBulkEntries r
def uptoBulkEntry {H : Type} : Lit × DataW H → Nat
  | (.string bytes, d) => bytes.length + uptoBulk d + 1
  | (_, d) => uptoBulk d + 1
 end
def uptoSmall : (H : Type) → List (DataW H) → Bool := fun _ ds => decide (uptoBulkAll ds ≤ 1048576)
def OpenSpec.upto (s : _root_.Go.ChangeSpec) : _root_.Go.OpenSpec := { _root_.Go.OpenSpec.ofChange s with cond := some uptoSmall }

/-- 'typebarlaw15.IndexFinds', WHERE WHAT IT READS IS OF BULK AT MOST 1048576: true; the input reads as it did. -/
def indexFindsUptoRow : OpenClaim := { program := "ytblajooebmjfoaagreat", sum := "414248ef35d3eea3af7b7430a466cc7ad00ec64455d2afef9e730357bab660c8", func := "typebar/typebarlaw15.IndexFinds", spec := "indexFinds", unfollowed := true, recurses := true, plainKeys := false, apart := false, narrowed := true }
def IndexFindsUptoSaid : Prop := indexFindsUptoRow.holds Tryz.pinned (OpenSpec.upto indexFindsSpec)

/-- 'typebarlaw41.UnitsAt', WHERE WHAT IT READS IS OF BULK AT MOST 1048576: true; the input reads as it did. -/
def unitsAtUptoRow : OpenClaim := { program := "ytblajooebmjfoaagreat", sum := "414248ef35d3eea3af7b7430a466cc7ad00ec64455d2afef9e730357bab660c8", func := "typebar/typebarlaw41.UnitsAt", spec := "unitsAt", unfollowed := true, recurses := true, plainKeys := false, apart := false, narrowed := true }
def UnitsAtUptoSaid : Prop := unitsAtUptoRow.holds Tryz.pinned (OpenSpec.upto unitsAtSpec)

/-- 'typebarlaw41.UnitsTurns', WHERE WHAT IT READS IS OF BULK AT MOST 1048576: true; the input reads as it did. -/
def unitsTurnsUptoRow : OpenClaim := { program := "ytblajooebmjfoaagreat", sum := "414248ef35d3eea3af7b7430a466cc7ad00ec64455d2afef9e730357bab660c8", func := "typebar/typebarlaw41.UnitsTurns", spec := "unitsTurns", unfollowed := true, recurses := true, plainKeys := false, apart := false, narrowed := true }
def UnitsTurnsUptoSaid : Prop := unitsTurnsUptoRow.holds Tryz.pinned (OpenSpec.upto unitsTurnsSpec)

/-- 'typebarlaw45.ColumnsWidth', WHERE WHAT IT READS IS OF BULK AT MOST 1048576: true; the input reads as it did. -/
def columnsWidthUptoRow : OpenClaim := { program := "ytblajooebmjfoaagreat", sum := "414248ef35d3eea3af7b7430a466cc7ad00ec64455d2afef9e730357bab660c8", func := "typebar/typebarlaw45.ColumnsWidth", spec := "columnsWidth", unfollowed := true, recurses := true, plainKeys := false, apart := false, narrowed := true }
def ColumnsWidthUptoSaid : Prop := columnsWidthUptoRow.holds Tryz.pinned (OpenSpec.upto columnsWidthSpec)

end Rows
end Go.Proofs.YtblajooebmjfoaaGreat
