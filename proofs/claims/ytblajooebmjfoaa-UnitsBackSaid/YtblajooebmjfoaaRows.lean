/-
  No cell of these rows narrows 'for every input' (looked for: loops, veiled, ifaces, maps, wideKeys, modest, calm, conditions, laid).
  DERIVED. THE GIVEN ROWS OF THIS SEAT. 8 by the template 'for every input the law returns true; each argument reads behind the call as it read before'; 0 by the template 'total and deterministic' (their statements: YtblajooebmjfoaaTotals.lean).
  GIVEN WITH THE SEED: the statements are not yours to turn. If you find one false, say at which input.
  Laid BY PROGRAM, IN A SANDBOX (cutbox-rows.mjs): the forced cells as the released guide's own fill.sh prints them over the translation 7e0bc0f2d29f37d6… (all of the seat's roots in one cut). By AI agents, Wed Nov 11 2026. No macro, syntax, notation, axiom, sorry.
-/
import Derived.Test.YtblajooebmjfoaaChecked
import GoSem.Claim
import GoSem.ClaimJoined
import GoSem.ClaimMapViews
import Derived.JoinedTies
import Derived.KernelRfl
namespace Go.Proofs.Ytblajooebmjfoaa
/- THE CELL 'sum', in the pinned program and in every row, IS THE sha256 OF THE DUMP (.gsa) THAT YtblajooebmjfoaaProg.lean LOADS. Nothing in Lean hashes anything: it is a label: what it is worth is what the hold of that sum in a sandbox is worth. -/
noncomputable def Try.pinned : Pinned := { name := "ytblajooebmjfoaa", sum := "7e0bc0f2d29f37d61d020d242d70c531f3898912ee09670741ac3ee8ac0b455a", checked := Try.checked }
namespace Rows
def none {H : Type} : Left H := { results := [], args := [] }

/-- 'typebarlaw13.GlyphShows': WHATEVER THE INPUT: true; the input reads as it did. -/
def glyphShowsSpec : ChangeSpec := { name := "glyphShows", fn := fun _ => fun
  | [d] => { results := [.lit (.bool true)], args := [d] }
  | _ => none }
def glyphShowsRow : OpenClaim := { program := "ytblajooebmjfoaa", sum := "7e0bc0f2d29f37d61d020d242d70c531f3898912ee09670741ac3ee8ac0b455a", func := "typebar/typebarlaw13.GlyphShows", spec := "glyphShows", unfollowed := true, recurses := true, plainKeys := false, apart := false }
def GlyphShowsSaid : Prop := glyphShowsRow.holds Try.pinned (OpenSpec.ofChange glyphShowsSpec)

/-- ITS FALSE NEIGHBOUR: 'it returns false'. Refute it at one input. -/
def glyphShowsWrong : ChangeSpec := { name := "glyphShows", fn := fun _ => fun
  | [d] => { results := [.lit (.bool false)], args := [d] }
  | _ => none }
def GlyphShowsWrongFalsely : Prop := glyphShowsRow.holds Try.pinned (OpenSpec.ofChange glyphShowsWrong)

/-- 'typebarlaw15.IndexOf': WHATEVER THE INPUT: true; the input reads as it did. -/
def indexOfSpec : ChangeSpec := { name := "indexOf", fn := fun _ => fun
  | [d1, d2] => { results := [.lit (.bool true)], args := [d1, d2] }
  | _ => none }
def indexOfRow : OpenClaim := { program := "ytblajooebmjfoaa", sum := "7e0bc0f2d29f37d61d020d242d70c531f3898912ee09670741ac3ee8ac0b455a", func := "typebar/typebarlaw15.IndexOf", spec := "indexOf", unfollowed := true, recurses := true, plainKeys := false, apart := false }
def IndexOfSaid : Prop := indexOfRow.holds Try.pinned (OpenSpec.ofChange indexOfSpec)

/-- ITS FALSE NEIGHBOUR: 'it returns false'. Refute it at one input. -/
def indexOfWrong : ChangeSpec := { name := "indexOf", fn := fun _ => fun
  | [d1, d2] => { results := [.lit (.bool false)], args := [d1, d2] }
  | _ => none }
def IndexOfWrongFalsely : Prop := indexOfRow.holds Try.pinned (OpenSpec.ofChange indexOfWrong)

/-- 'typebarlaw15.IndexChanges': WHATEVER THE INPUT: true; the input reads as it did. -/
def indexChangesSpec : ChangeSpec := { name := "indexChanges", fn := fun _ => fun
  | [d1, d2] => { results := [.lit (.bool true)], args := [d1, d2] }
  | _ => none }
def indexChangesRow : OpenClaim := { program := "ytblajooebmjfoaa", sum := "7e0bc0f2d29f37d61d020d242d70c531f3898912ee09670741ac3ee8ac0b455a", func := "typebar/typebarlaw15.IndexChanges", spec := "indexChanges", unfollowed := true, recurses := true, plainKeys := false, apart := false }
def IndexChangesSaid : Prop := indexChangesRow.holds Try.pinned (OpenSpec.ofChange indexChangesSpec)

/-- ITS FALSE NEIGHBOUR: 'it returns false'. Refute it at one input. -/
def indexChangesWrong : ChangeSpec := { name := "indexChanges", fn := fun _ => fun
  | [d1, d2] => { results := [.lit (.bool false)], args := [d1, d2] }
  | _ => none }
def IndexChangesWrongFalsely : Prop := indexChangesRow.holds Try.pinned (OpenSpec.ofChange indexChangesWrong)

/-- 'typebarlaw15.IndexWide': WHATEVER THE INPUT: true; the input reads as it did. -/
def indexWideSpec : ChangeSpec := { name := "indexWide", fn := fun _ => fun
  | [d1, d2, d3, d4] => { results := [.lit (.bool true)], args := [d1, d2, d3, d4] }
  | _ => none }
def indexWideRow : OpenClaim := { program := "ytblajooebmjfoaa", sum := "7e0bc0f2d29f37d61d020d242d70c531f3898912ee09670741ac3ee8ac0b455a", func := "typebar/typebarlaw15.IndexWide", spec := "indexWide", unfollowed := true, recurses := true, plainKeys := false, apart := false }
def IndexWideSaid : Prop := indexWideRow.holds Try.pinned (OpenSpec.ofChange indexWideSpec)

/-- ITS FALSE NEIGHBOUR: 'it returns false'. Refute it at one input. -/
def indexWideWrong : ChangeSpec := { name := "indexWide", fn := fun _ => fun
  | [d1, d2, d3, d4] => { results := [.lit (.bool false)], args := [d1, d2, d3, d4] }
  | _ => none }
def IndexWideWrongFalsely : Prop := indexWideRow.holds Try.pinned (OpenSpec.ofChange indexWideWrong)

/-- 'typebarlaw13.GlyphWide': WHATEVER THE INPUT: true; the input reads as it did. -/
def glyphWideSpec : ChangeSpec := { name := "glyphWide", fn := fun _ => fun
  | [d] => { results := [.lit (.bool true)], args := [d] }
  | _ => none }
def glyphWideRow : OpenClaim := { program := "ytblajooebmjfoaa", sum := "7e0bc0f2d29f37d61d020d242d70c531f3898912ee09670741ac3ee8ac0b455a", func := "typebar/typebarlaw13.GlyphWide", spec := "glyphWide", unfollowed := true, recurses := true, plainKeys := false, apart := false }
def GlyphWideSaid : Prop := glyphWideRow.holds Try.pinned (OpenSpec.ofChange glyphWideSpec)

/-- ITS FALSE NEIGHBOUR: 'it returns false'. Refute it at one input. -/
def glyphWideWrong : ChangeSpec := { name := "glyphWide", fn := fun _ => fun
  | [d] => { results := [.lit (.bool false)], args := [d] }
  | _ => none }
def GlyphWideWrongFalsely : Prop := glyphWideRow.holds Try.pinned (OpenSpec.ofChange glyphWideWrong)

/-- 'typebarlaw15.IndexNone': WHATEVER THE INPUT: true; the input reads as it did. -/
def indexNoneSpec : ChangeSpec := { name := "indexNone", fn := fun _ => fun
  | [d1, d2] => { results := [.lit (.bool true)], args := [d1, d2] }
  | _ => none }
def indexNoneRow : OpenClaim := { program := "ytblajooebmjfoaa", sum := "7e0bc0f2d29f37d61d020d242d70c531f3898912ee09670741ac3ee8ac0b455a", func := "typebar/typebarlaw15.IndexNone", spec := "indexNone", unfollowed := true, recurses := true, plainKeys := false, apart := false }
def IndexNoneSaid : Prop := indexNoneRow.holds Try.pinned (OpenSpec.ofChange indexNoneSpec)

/-- ITS FALSE NEIGHBOUR: 'it returns false'. Refute it at one input. -/
def indexNoneWrong : ChangeSpec := { name := "indexNone", fn := fun _ => fun
  | [d1, d2] => { results := [.lit (.bool false)], args := [d1, d2] }
  | _ => none }
def IndexNoneWrongFalsely : Prop := indexNoneRow.holds Try.pinned (OpenSpec.ofChange indexNoneWrong)

/-- 'typebarlaw41.UnitsBack': WHATEVER THE INPUT: true; the input reads as it did. -/
def unitsBackSpec : ChangeSpec := { name := "unitsBack", fn := fun _ => fun
  | [d1, d2] => { results := [.lit (.bool true)], args := [d1, d2] }
  | _ => none }
def unitsBackRow : OpenClaim := { program := "ytblajooebmjfoaa", sum := "7e0bc0f2d29f37d61d020d242d70c531f3898912ee09670741ac3ee8ac0b455a", func := "typebar/typebarlaw41.UnitsBack", spec := "unitsBack", unfollowed := true, recurses := true, plainKeys := false, apart := false }
def UnitsBackSaid : Prop := unitsBackRow.holds Try.pinned (OpenSpec.ofChange unitsBackSpec)

/-- ITS FALSE NEIGHBOUR: 'it returns false'. Refute it at one input. -/
def unitsBackWrong : ChangeSpec := { name := "unitsBack", fn := fun _ => fun
  | [d1, d2] => { results := [.lit (.bool false)], args := [d1, d2] }
  | _ => none }
def UnitsBackWrongFalsely : Prop := unitsBackRow.holds Try.pinned (OpenSpec.ofChange unitsBackWrong)

/-- 'typebarlaw41.UnitsNone': WHATEVER THE INPUT: true; the input reads as it did. -/
def unitsNoneSpec : ChangeSpec := { name := "unitsNone", fn := fun _ => fun
  | [d1, d2, d3] => { results := [.lit (.bool true)], args := [d1, d2, d3] }
  | _ => none }
def unitsNoneRow : OpenClaim := { program := "ytblajooebmjfoaa", sum := "7e0bc0f2d29f37d61d020d242d70c531f3898912ee09670741ac3ee8ac0b455a", func := "typebar/typebarlaw41.UnitsNone", spec := "unitsNone", unfollowed := true, recurses := true, plainKeys := false, apart := false }
def UnitsNoneSaid : Prop := unitsNoneRow.holds Try.pinned (OpenSpec.ofChange unitsNoneSpec)

/-- ITS FALSE NEIGHBOUR: 'it returns false'. Refute it at one input. -/
def unitsNoneWrong : ChangeSpec := { name := "unitsNone", fn := fun _ => fun
  | [d1, d2, d3] => { results := [.lit (.bool false)], args := [d1, d2, d3] }
  | _ => none }
def UnitsNoneWrongFalsely : Prop := unitsNoneRow.holds Try.pinned (OpenSpec.ofChange unitsNoneWrong)

/- THE SECOND FORM. 'bulk': how many values and letters a reading holds, each counted each time it is reached (what is shared counts as often as it is met; a slice's spare places count too). A statement '..UptoSaid' is the law's where the arguments, and the package variables that the reading takes, are together of bulk at most 1048576: NARROWER than '..Said'. Prove '..Said' where nothing that the law and all that it calls make is longer than what came in: it says more and counts as full. Else prove '..UptoSaid'. A law counts once. -/
mutual
def uptoBulk {H : Type} : DataW H → Nat
  | .lit (.string bytes) => bytes.length + 1
  | .lit _ => 1
  | .nil => 1
  | .ptr d => uptoBulk d + 1
  | .slice elems spare => uptoBulkAll elems + uptoBulkAll spare + 1
  | .agg parts => uptoBulkAll parts + 1
  | .iface _ d => uptoBulk d + 1
  | .map entries => uptoBulkEntries entries + 1
  | .held _ => 1
def uptoBulkAll {H : Type} : List (DataW H) → Nat
  | [] => 0
  | d :: r => uptoBulk d + uptoBulkAll r
def uptoBulkEntries {H : Type} : List (Lit × DataW H) → Nat
  | [] => 0
  | x :: r => uptoBulkEntry x + uptoBulkEntries r
def uptoBulkEntry {H : Type} : Lit × DataW H → Nat
  | (.string bytes, d) => bytes.length + uptoBulk d + 1
  | (_, d) => uptoBulk d + 1
 end
def uptoSmall : (H : Type) → List (DataW H) → Bool := fun _ ds => decide (uptoBulkAll ds ≤ 1048576)
def OpenSpec.upto (s : _root_.Go.ChangeSpec) : _root_.Go.OpenSpec := { _root_.Go.OpenSpec.ofChange s with cond := some uptoSmall }

/-- 'typebarlaw13.GlyphShows', WHERE WHAT IT READS IS OF BULK AT MOST 1048576: true; the input reads as it did. -/
def glyphShowsUptoRow : OpenClaim := { program := "ytblajooebmjfoaa", sum := "7e0bc0f2d29f37d61d020d242d70c531f3898912ee09670741ac3ee8ac0b455a", func := "typebar/typebarlaw13.GlyphShows", spec := "glyphShows", unfollowed := true, recurses := true, plainKeys := false, apart := false, narrowed := true }
def GlyphShowsUptoSaid : Prop := glyphShowsUptoRow.holds Try.pinned (OpenSpec.upto glyphShowsSpec)

/-- 'typebarlaw15.IndexOf', WHERE WHAT IT READS IS OF BULK AT MOST 1048576: true; the input reads as it did. -/
def indexOfUptoRow : OpenClaim := { program := "ytblajooebmjfoaa", sum := "7e0bc0f2d29f37d61d020d242d70c531f3898912ee09670741ac3ee8ac0b455a", func := "typebar/typebarlaw15.IndexOf", spec := "indexOf", unfollowed := true, recurses := true, plainKeys := false, apart := false, narrowed := true }
def IndexOfUptoSaid : Prop := indexOfUptoRow.holds Try.pinned (OpenSpec.upto indexOfSpec)

/-- 'typebarlaw15.IndexChanges', WHERE WHAT IT READS IS OF BULK AT MOST 1048576: true; the input reads as it did. -/
def indexChangesUptoRow : OpenClaim := { program := "ytblajooebmjfoaa", sum := "7e0bc0f2d29f37d61d020d242d70c531f3898912ee09670741ac3ee8ac0b455a", func := "typebar/typebarlaw15.IndexChanges", spec := "indexChanges", unfollowed := true, recurses := true, plainKeys := false, apart := false, narrowed := true }
def IndexChangesUptoSaid : Prop := indexChangesUptoRow.holds Try.pinned (OpenSpec.upto indexChangesSpec)

/-- 'typebarlaw15.IndexWide', WHERE WHAT IT READS IS OF BULK AT MOST 1048576: true; the input reads as it did. -/
def indexWideUptoRow : OpenClaim := { program := "ytblajooebmjfoaa", sum := "7e0bc0f2d29f37d61d020d242d70c531f3898912ee09670741ac3ee8ac0b455a", func := "typebar/typebarlaw15.IndexWide", spec := "indexWide", unfollowed := true, recurses := true, plainKeys := false, apart := false, narrowed := true }
def IndexWideUptoSaid : Prop := indexWideUptoRow.holds Try.pinned (OpenSpec.upto indexWideSpec)

/-- 'typebarlaw13.GlyphWide', WHERE WHAT IT READS IS OF BULK AT MOST 1048576: true; the input reads as it did. -/
def glyphWideUptoRow : OpenClaim := { program := "ytblajooebmjfoaa", sum := "7e0bc0f2d29f37d61d020d242d70c531f3898912ee09670741ac3ee8ac0b455a", func := "typebar/typebarlaw13.GlyphWide", spec := "glyphWide", unfollowed := true, recurses := true, plainKeys := false, apart := false, narrowed := true }
def GlyphWideUptoSaid : Prop := glyphWideUptoRow.holds Try.pinned (OpenSpec.upto glyphWideSpec)

/-- 'typebarlaw15.IndexNone', WHERE WHAT IT READS IS OF BULK AT MOST 1048576: true; the input reads as it did. -/
def indexNoneUptoRow : OpenClaim := { program := "ytblajooebmjfoaa", sum := "7e0bc0f2d29f37d61d020d242d70c531f3898912ee09670741ac3ee8ac0b455a", func := "typebar/typebarlaw15.IndexNone", spec := "indexNone", unfollowed := true, recurses := true, plainKeys := false, apart := false, narrowed := true }
def IndexNoneUptoSaid : Prop := indexNoneUptoRow.holds Try.pinned (OpenSpec.upto indexNoneSpec)

/-- 'typebarlaw41.UnitsBack', WHERE WHAT IT READS IS OF BULK AT MOST 1048576: true; the input reads as it did. -/
def unitsBackUptoRow : OpenClaim := { program := "ytblajooebmjfoaa", sum := "7e0bc0f2d29f37d61d020d242d70c531f3898912ee09670741ac3ee8ac0b455a", func := "typebar/typebarlaw41.UnitsBack", spec := "unitsBack", unfollowed := true, recurses := true, plainKeys := false, apart := false, narrowed := true }
def UnitsBackUptoSaid : Prop := unitsBackUptoRow.holds Try.pinned (OpenSpec.upto unitsBackSpec)

/-- 'typebarlaw41.UnitsNone', WHERE WHAT IT READS IS OF BULK AT MOST 1048576: true; the input reads as it did. -/
def unitsNoneUptoRow : OpenClaim := { program := "ytblajooebmjfoaa", sum := "7e0bc0f2d29f37d61d020d242d70c531f3898912ee09670741ac3ee8ac0b455a", func := "typebar/typebarlaw41.UnitsNone", spec := "unitsNone", unfollowed := true, recurses := true, plainKeys := false, apart := false, narrowed := true }
def UnitsNoneUptoSaid : Prop := unitsNoneUptoRow.holds Try.pinned (OpenSpec.upto unitsNoneSpec)

end Rows
end Go.Proofs.Ytblajooebmjfoaa
