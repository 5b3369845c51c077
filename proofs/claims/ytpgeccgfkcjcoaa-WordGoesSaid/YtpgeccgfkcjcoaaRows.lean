/-
  No cell of these rows narrows 'for every input' (looked for: loops, veiled, ifaces, maps, wideKeys, modest, calm, conditions, laid).
  DERIVED. THE GIVEN ROWS OF THIS SEAT. 11 by the template 'for every input the law returns true; each argument reads behind the call as it read before'; 0 by the template 'total and deterministic' (their statements: YtpgeccgfkcjcoaaTotals.lean).
  GIVEN WITH THE SEED: the statements are not yours to turn. If you find one false, say at which input.
  Laid BY PROGRAM, IN A SANDBOX (cutbox-rows.mjs): the forced cells as the released guide's own fill.sh prints them over the translation 52583caf20195150… (all of the seat's roots in one cut). By AI agents, Wed Nov 11 2026. No macro, syntax, notation, axiom, sorry.
-/
import Derived.Test.YtpgeccgfkcjcoaaChecked
import GoSem.Claim
import GoSem.ClaimJoined
import GoSem.ClaimMapViews
import Derived.JoinedTies
import Derived.KernelRfl
namespace Go.Proofs.Ytpgeccgfkcjcoaa
/- THE CELL 'sum', in the pinned program and in every row, IS THE sha256 OF THE DUMP (.gsa) THAT YtpgeccgfkcjcoaaProg.lean LOADS. Nothing in Lean hashes anything: it is a label: what it is worth is what the hold of that sum in a sandbox is worth. -/
noncomputable def Try.pinned : Pinned := { name := "ytpgeccgfkcjcoaa", sum := "52583caf201951504463e26f041177c6573d66270db00c006b92888903f2b73e", checked := Try.checked }
namespace Rows
def none {H : Type} : Left H := { results := [], args := [] }

/-- 'typebarlaw11.BackWalks': WHATEVER THE INPUT: true; the input reads as it did. -/
def backWalksSpec : ChangeSpec := { name := "backWalks", fn := fun _ => fun
  | [d] => { results := [.lit (.bool true)], args := [d] }
  | _ => none }
def backWalksRow : OpenClaim := { program := "ytpgeccgfkcjcoaa", sum := "52583caf201951504463e26f041177c6573d66270db00c006b92888903f2b73e", func := "typebar/typebarlaw11.BackWalks", spec := "backWalks", unfollowed := true, recurses := true, plainKeys := false, apart := false }
def BackWalksSaid : Prop := backWalksRow.holds Try.pinned (OpenSpec.ofChange backWalksSpec)

/-- ITS FALSE NEIGHBOUR: 'it returns false'. Refute it at one input. -/
def backWalksWrong : ChangeSpec := { name := "backWalks", fn := fun _ => fun
  | [d] => { results := [.lit (.bool false)], args := [d] }
  | _ => none }
def BackWalksWrongFalsely : Prop := backWalksRow.holds Try.pinned (OpenSpec.ofChange backWalksWrong)

/-- 'typebarlaw11.BackLong': WHATEVER THE INPUT: true; the input reads as it did. -/
def backLongSpec : ChangeSpec := { name := "backLong", fn := fun _ => fun
  | [d1, d2, d3] => { results := [.lit (.bool true)], args := [d1, d2, d3] }
  | _ => none }
def backLongRow : OpenClaim := { program := "ytpgeccgfkcjcoaa", sum := "52583caf201951504463e26f041177c6573d66270db00c006b92888903f2b73e", func := "typebar/typebarlaw11.BackLong", spec := "backLong", unfollowed := true, recurses := true, plainKeys := false, apart := false }
def BackLongSaid : Prop := backLongRow.holds Try.pinned (OpenSpec.ofChange backLongSpec)

/-- ITS FALSE NEIGHBOUR: 'it returns false'. Refute it at one input. -/
def backLongWrong : ChangeSpec := { name := "backLong", fn := fun _ => fun
  | [d1, d2, d3] => { results := [.lit (.bool false)], args := [d1, d2, d3] }
  | _ => none }
def BackLongWrongFalsely : Prop := backLongRow.holds Try.pinned (OpenSpec.ofChange backLongWrong)

/-- 'typebarlaw11.BackFloors': WHATEVER THE INPUT: true; the input reads as it did. -/
def backFloorsSpec : ChangeSpec := { name := "backFloors", fn := fun _ => fun
  | [d1, d2] => { results := [.lit (.bool true)], args := [d1, d2] }
  | _ => none }
def backFloorsRow : OpenClaim := { program := "ytpgeccgfkcjcoaa", sum := "52583caf201951504463e26f041177c6573d66270db00c006b92888903f2b73e", func := "typebar/typebarlaw11.BackFloors", spec := "backFloors", unfollowed := true, recurses := true, plainKeys := false, apart := false }
def BackFloorsSaid : Prop := backFloorsRow.holds Try.pinned (OpenSpec.ofChange backFloorsSpec)

/-- ITS FALSE NEIGHBOUR: 'it returns false'. Refute it at one input. -/
def backFloorsWrong : ChangeSpec := { name := "backFloors", fn := fun _ => fun
  | [d1, d2] => { results := [.lit (.bool false)], args := [d1, d2] }
  | _ => none }
def BackFloorsWrongFalsely : Prop := backFloorsRow.holds Try.pinned (OpenSpec.ofChange backFloorsWrong)

/-- 'typebarlaw12.WordGoes': WHATEVER THE INPUT: true; the input reads as it did. -/
def wordGoesSpec : ChangeSpec := { name := "wordGoes", fn := fun _ => fun
  | [d1, d2] => { results := [.lit (.bool true)], args := [d1, d2] }
  | _ => none }
def wordGoesRow : OpenClaim := { program := "ytpgeccgfkcjcoaa", sum := "52583caf201951504463e26f041177c6573d66270db00c006b92888903f2b73e", func := "typebar/typebarlaw12.WordGoes", spec := "wordGoes", unfollowed := true, recurses := true, plainKeys := false, apart := false }
def WordGoesSaid : Prop := wordGoesRow.holds Try.pinned (OpenSpec.ofChange wordGoesSpec)

/-- ITS FALSE NEIGHBOUR: 'it returns false'. Refute it at one input. -/
def wordGoesWrong : ChangeSpec := { name := "wordGoes", fn := fun _ => fun
  | [d1, d2] => { results := [.lit (.bool false)], args := [d1, d2] }
  | _ => none }
def WordGoesWrongFalsely : Prop := wordGoesRow.holds Try.pinned (OpenSpec.ofChange wordGoesWrong)

/-- 'typebarlaw12.WordWalks': WHATEVER THE INPUT: true; the input reads as it did. -/
def wordWalksSpec : ChangeSpec := { name := "wordWalks", fn := fun _ => fun
  | [d] => { results := [.lit (.bool true)], args := [d] }
  | _ => none }
def wordWalksRow : OpenClaim := { program := "ytpgeccgfkcjcoaa", sum := "52583caf201951504463e26f041177c6573d66270db00c006b92888903f2b73e", func := "typebar/typebarlaw12.WordWalks", spec := "wordWalks", unfollowed := true, recurses := true, plainKeys := false, apart := false }
def WordWalksSaid : Prop := wordWalksRow.holds Try.pinned (OpenSpec.ofChange wordWalksSpec)

/-- ITS FALSE NEIGHBOUR: 'it returns false'. Refute it at one input. -/
def wordWalksWrong : ChangeSpec := { name := "wordWalks", fn := fun _ => fun
  | [d] => { results := [.lit (.bool false)], args := [d] }
  | _ => none }
def WordWalksWrongFalsely : Prop := wordWalksRow.holds Try.pinned (OpenSpec.ofChange wordWalksWrong)

/-- 'typebarlaw12.WordWords': WHATEVER THE INPUT: true; the input reads as it did. -/
def wordWordsSpec : ChangeSpec := { name := "wordWords", fn := fun _ => fun
  | [d] => { results := [.lit (.bool true)], args := [d] }
  | _ => none }
def wordWordsRow : OpenClaim := { program := "ytpgeccgfkcjcoaa", sum := "52583caf201951504463e26f041177c6573d66270db00c006b92888903f2b73e", func := "typebar/typebarlaw12.WordWords", spec := "wordWords", unfollowed := true, recurses := true, plainKeys := false, apart := false }
def WordWordsSaid : Prop := wordWordsRow.holds Try.pinned (OpenSpec.ofChange wordWordsSpec)

/-- ITS FALSE NEIGHBOUR: 'it returns false'. Refute it at one input. -/
def wordWordsWrong : ChangeSpec := { name := "wordWords", fn := fun _ => fun
  | [d] => { results := [.lit (.bool false)], args := [d] }
  | _ => none }
def WordWordsWrongFalsely : Prop := wordWordsRow.holds Try.pinned (OpenSpec.ofChange wordWordsWrong)

/-- 'typebarlaw15.IndexOf': WHATEVER THE INPUT: true; the input reads as it did. -/
def indexOfSpec : ChangeSpec := { name := "indexOf", fn := fun _ => fun
  | [d1, d2] => { results := [.lit (.bool true)], args := [d1, d2] }
  | _ => none }
def indexOfRow : OpenClaim := { program := "ytpgeccgfkcjcoaa", sum := "52583caf201951504463e26f041177c6573d66270db00c006b92888903f2b73e", func := "typebar/typebarlaw15.IndexOf", spec := "indexOf", unfollowed := true, recurses := true, plainKeys := false, apart := false }
def IndexOfSaid : Prop := indexOfRow.holds Try.pinned (OpenSpec.ofChange indexOfSpec)

/-- ITS FALSE NEIGHBOUR: 'it returns false'. Refute it at one input. -/
def indexOfWrong : ChangeSpec := { name := "indexOf", fn := fun _ => fun
  | [d1, d2] => { results := [.lit (.bool false)], args := [d1, d2] }
  | _ => none }
def IndexOfWrongFalsely : Prop := indexOfRow.holds Try.pinned (OpenSpec.ofChange indexOfWrong)

/-- 'typebarlaw15.IndexChanges': WHATEVER THE INPUT: true; the input reads as it did. -/
def indexChangesSpec : ChangeSpec := { name := "indexChanges", fn := fun _ => fun
  | [d1, d2] => { results := [.lit (.bool true)], args := [d1, d2] }
  | _ => none }
def indexChangesRow : OpenClaim := { program := "ytpgeccgfkcjcoaa", sum := "52583caf201951504463e26f041177c6573d66270db00c006b92888903f2b73e", func := "typebar/typebarlaw15.IndexChanges", spec := "indexChanges", unfollowed := true, recurses := true, plainKeys := false, apart := false }
def IndexChangesSaid : Prop := indexChangesRow.holds Try.pinned (OpenSpec.ofChange indexChangesSpec)

/-- ITS FALSE NEIGHBOUR: 'it returns false'. Refute it at one input. -/
def indexChangesWrong : ChangeSpec := { name := "indexChanges", fn := fun _ => fun
  | [d1, d2] => { results := [.lit (.bool false)], args := [d1, d2] }
  | _ => none }
def IndexChangesWrongFalsely : Prop := indexChangesRow.holds Try.pinned (OpenSpec.ofChange indexChangesWrong)

/-- 'typebarlaw15.IndexWide': WHATEVER THE INPUT: true; the input reads as it did. -/
def indexWideSpec : ChangeSpec := { name := "indexWide", fn := fun _ => fun
  | [d1, d2, d3, d4] => { results := [.lit (.bool true)], args := [d1, d2, d3, d4] }
  | _ => none }
def indexWideRow : OpenClaim := { program := "ytpgeccgfkcjcoaa", sum := "52583caf201951504463e26f041177c6573d66270db00c006b92888903f2b73e", func := "typebar/typebarlaw15.IndexWide", spec := "indexWide", unfollowed := true, recurses := true, plainKeys := false, apart := false }
def IndexWideSaid : Prop := indexWideRow.holds Try.pinned (OpenSpec.ofChange indexWideSpec)

/-- ITS FALSE NEIGHBOUR: 'it returns false'. Refute it at one input. -/
def indexWideWrong : ChangeSpec := { name := "indexWide", fn := fun _ => fun
  | [d1, d2, d3, d4] => { results := [.lit (.bool false)], args := [d1, d2, d3, d4] }
  | _ => none }
def IndexWideWrongFalsely : Prop := indexWideRow.holds Try.pinned (OpenSpec.ofChange indexWideWrong)

/-- 'typebarlaw13.GlyphWide': WHATEVER THE INPUT: true; the input reads as it did. -/
def glyphWideSpec : ChangeSpec := { name := "glyphWide", fn := fun _ => fun
  | [d] => { results := [.lit (.bool true)], args := [d] }
  | _ => none }
def glyphWideRow : OpenClaim := { program := "ytpgeccgfkcjcoaa", sum := "52583caf201951504463e26f041177c6573d66270db00c006b92888903f2b73e", func := "typebar/typebarlaw13.GlyphWide", spec := "glyphWide", unfollowed := true, recurses := true, plainKeys := false, apart := false }
def GlyphWideSaid : Prop := glyphWideRow.holds Try.pinned (OpenSpec.ofChange glyphWideSpec)

/-- ITS FALSE NEIGHBOUR: 'it returns false'. Refute it at one input. -/
def glyphWideWrong : ChangeSpec := { name := "glyphWide", fn := fun _ => fun
  | [d] => { results := [.lit (.bool false)], args := [d] }
  | _ => none }
def GlyphWideWrongFalsely : Prop := glyphWideRow.holds Try.pinned (OpenSpec.ofChange glyphWideWrong)

/-- 'typebarlaw15.IndexNone': WHATEVER THE INPUT: true; the input reads as it did. -/
def indexNoneSpec : ChangeSpec := { name := "indexNone", fn := fun _ => fun
  | [d1, d2] => { results := [.lit (.bool true)], args := [d1, d2] }
  | _ => none }
def indexNoneRow : OpenClaim := { program := "ytpgeccgfkcjcoaa", sum := "52583caf201951504463e26f041177c6573d66270db00c006b92888903f2b73e", func := "typebar/typebarlaw15.IndexNone", spec := "indexNone", unfollowed := true, recurses := true, plainKeys := false, apart := false }
def IndexNoneSaid : Prop := indexNoneRow.holds Try.pinned (OpenSpec.ofChange indexNoneSpec)

/-- ITS FALSE NEIGHBOUR: 'it returns false'. Refute it at one input. -/
def indexNoneWrong : ChangeSpec := { name := "indexNone", fn := fun _ => fun
  | [d1, d2] => { results := [.lit (.bool false)], args := [d1, d2] }
  | _ => none }
def IndexNoneWrongFalsely : Prop := indexNoneRow.holds Try.pinned (OpenSpec.ofChange indexNoneWrong)

/- THE SECOND FORM. 'bulk': how many values and letters a reading holds, each counted each time it is reached (what is shared counts as often as it is met; a slice's spare places count too). A statement '..UptoSaid' is the law's where the arguments, and the package variables that the reading takes, are together of bulk at most 1048576: NARROWER than '..Said'. Prove '..Said' where nothing that the law and all that it calls make is longer than what came in: it says more and counts as full. Else prove '..UptoSaid'. A law counts once. -/
mutual
def uptoBulk {H : Type} : DataW H → Nat
  | .lit (.string bytes) => bytes.length + 1
  | .lit _ => 1
  | .nil => 1
  | .ptr d => uptoBulk d + 1
  | .slice elems spare => uptoBulkAll elems + uptoBulkAll spare + 1
  | .agg parts => uptoBulkAll parts + 1
  | .iface _ d => uptoBulk d + 1
  | .map entries => uptoBulkEntries entries + 1
  | .held _ => 1
def uptoBulkAll {H : Type} : List (DataW H) → Nat
  | [] => 0
  | d :: r => uptoBulk d + uptoBulkAll r
def uptoBulkEntries {H : Type} : List (Lit × DataW H) → Nat
  | [] => 0
  | x :: r => uptoBulkEntry x + uptoBulkEntries r
def uptoBulkEntry {H : Type} : Lit × DataW H → Nat
  | (.string bytes, d) => bytes.length + uptoBulk d + 1
  | (_, d) => uptoBulk d + 1
 end
def uptoSmall : (H : Type) → List (DataW H) → Bool := fun _ ds => decide (uptoBulkAll ds ≤ 1048576)
def OpenSpec.upto (s : _root_.Go.ChangeSpec) : _root_.Go.OpenSpec := { _root_.Go.OpenSpec.ofChange s with cond := some uptoSmall }

/-- 'typebarlaw11.BackWalks', WHERE WHAT IT READS IS OF BULK AT MOST 1048576: true; the input reads as it did. -/
def backWalksUptoRow : OpenClaim := { program := "ytpgeccgfkcjcoaa", sum := "52583caf201951504463e26f041177c6573d66270db00c006b92888903f2b73e", func := "typebar/typebarlaw11.BackWalks", spec := "backWalks", unfollowed := true, recurses := true, plainKeys := false, apart := false, narrowed := true }
def BackWalksUptoSaid : Prop := backWalksUptoRow.holds Try.pinned (OpenSpec.upto backWalksSpec)

/-- 'typebarlaw11.BackLong', WHERE WHAT IT READS IS OF BULK AT MOST 1048576: true; the input reads as it did. -/
def backLongUptoRow : OpenClaim := { program := "ytpgeccgfkcjcoaa", sum := "52583caf201951504463e26f041177c6573d66270db00c006b92888903f2b73e", func := "typebar/typebarlaw11.BackLong", spec := "backLong", unfollowed := true, recurses := true, plainKeys := false, apart := false, narrowed := true }
def BackLongUptoSaid : Prop := backLongUptoRow.holds Try.pinned (OpenSpec.upto backLongSpec)

/-- 'typebarlaw11.BackFloors', WHERE WHAT IT READS IS OF BULK AT MOST 1048576: true; the input reads as it did. -/
def backFloorsUptoRow : OpenClaim := { program := "ytpgeccgfkcjcoaa", sum := "52583caf201951504463e26f041177c6573d66270db00c006b92888903f2b73e", func := "typebar/typebarlaw11.BackFloors", spec := "backFloors", unfollowed := true, recurses := true, plainKeys := false, apart := false, narrowed := true }
def BackFloorsUptoSaid : Prop := backFloorsUptoRow.holds Try.pinned (OpenSpec.upto backFloorsSpec)

/-- 'typebarlaw12.WordGoes', WHERE WHAT IT READS IS OF BULK AT MOST 1048576: true; the input reads as it did. -/
def wordGoesUptoRow : OpenClaim := { program := "ytpgeccgfkcjcoaa", sum := "52583caf201951504463e26f041177c6573d66270db00c006b92888903f2b73e", func := "typebar/typebarlaw12.WordGoes", spec := "wordGoes", unfollowed := true, recurses := true, plainKeys := false, apart := false, narrowed := true }
def WordGoesUptoSaid : Prop := wordGoesUptoRow.holds Try.pinned (OpenSpec.upto wordGoesSpec)

/-- 'typebarlaw12.WordWalks', WHERE WHAT IT READS IS OF BULK AT MOST 1048576: true; the input reads as it did. -/
def wordWalksUptoRow : OpenClaim := { program := "ytpgeccgfkcjcoaa", sum := "52583caf201951504463e26f041177c6573d66270db00c006b92888903f2b73e", func := "typebar/typebarlaw12.WordWalks", spec := "wordWalks", unfollowed := true, recurses := true, plainKeys := false, apart := false, narrowed := true }
def WordWalksUptoSaid : Prop := wordWalksUptoRow.holds Try.pinned (OpenSpec.upto wordWalksSpec)

/-- 'typebarlaw12.WordWords', WHERE WHAT IT READS IS OF BULK AT MOST 1048576: true; the input reads as it did. -/
def wordWordsUptoRow : OpenClaim := { program := "ytpgeccgfkcjcoaa", sum := "52583caf201951504463e26f041177c6573d66270db00c006b92888903f2b73e", func := "typebar/typebarlaw12.WordWords", spec := "wordWords", unfollowed := true, recurses := true, plainKeys := false, apart := false, narrowed := true }
def WordWordsUptoSaid : Prop := wordWordsUptoRow.holds Try.pinned (OpenSpec.upto wordWordsSpec)

/-- 'typebarlaw15.IndexOf', WHERE WHAT IT READS IS OF BULK AT MOST 1048576: true; the input reads as it did. -/
def indexOfUptoRow : OpenClaim := { program := "ytpgeccgfkcjcoaa", sum := "52583caf201951504463e26f041177c6573d66270db00c006b92888903f2b73e", func := "typebar/typebarlaw15.IndexOf", spec := "indexOf", unfollowed := true, recurses := true, plainKeys := false, apart := false, narrowed := true }
def IndexOfUptoSaid : Prop := indexOfUptoRow.holds Try.pinned (OpenSpec.upto indexOfSpec)

/-- 'typebarlaw15.IndexChanges', WHERE WHAT IT READS IS OF BULK AT MOST 1048576: true; the input reads as it did. -/
def indexChangesUptoRow : OpenClaim := { program := "ytpgeccgfkcjcoaa", sum := "52583caf201951504463e26f041177c6573d66270db00c006b92888903f2b73e", func := "typebar/typebarlaw15.IndexChanges", spec := "indexChanges", unfollowed := true, recurses := true, plainKeys := false, apart := false, narrowed := true }
def IndexChangesUptoSaid : Prop := indexChangesUptoRow.holds Try.pinned (OpenSpec.upto indexChangesSpec)

/-- 'typebarlaw15.IndexWide', WHERE WHAT IT READS IS OF BULK AT MOST 1048576: true; the input reads as it did. -/
def indexWideUptoRow : OpenClaim := { program := "ytpgeccgfkcjcoaa", sum := "52583caf201951504463e26f041177c6573d66270db00c006b92888903f2b73e", func := "typebar/typebarlaw15.IndexWide", spec := "indexWide", unfollowed := true, recurses := true, plainKeys := false, apart := false, narrowed := true }
def IndexWideUptoSaid : Prop := indexWideUptoRow.holds Try.pinned (OpenSpec.upto indexWideSpec)

/-- 'typebarlaw13.GlyphWide', WHERE WHAT IT READS IS OF BULK AT MOST 1048576: true; the input reads as it did. -/
def glyphWideUptoRow : OpenClaim := { program := "ytpgeccgfkcjcoaa", sum := "52583caf201951504463e26f041177c6573d66270db00c006b92888903f2b73e", func := "typebar/typebarlaw13.GlyphWide", spec := "glyphWide", unfollowed := true, recurses := true, plainKeys := false, apart := false, narrowed := true }
def GlyphWideUptoSaid : Prop := glyphWideUptoRow.holds Try.pinned (OpenSpec.upto glyphWideSpec)

/-- 'typebarlaw15.IndexNone', WHERE WHAT IT READS IS OF BULK AT MOST 1048576: true; the input reads as it did. -/
def indexNoneUptoRow : OpenClaim := { program := "ytpgeccgfkcjcoaa", sum := "52583caf201951504463e26f041177c6573d66270db00c006b92888903f2b73e", func := "typebar/typebarlaw15.IndexNone", spec := "indexNone", unfollowed := true, recurses := true, plainKeys := false, apart := false, narrowed := true }
def IndexNoneUptoSaid : Prop := indexNoneUptoRow.holds Try.pinned (OpenSpec.upto indexNoneSpec)

end Rows
end Go.Proofs.Ytpgeccgfkcjcoaa
