/-
  No cell of these rows narrows 'for every input' (looked for: loops, veiled, ifaces, maps, wideKeys, modest, calm, conditions, laid).
  DERIVED. THE GIVEN ROWS OF THIS SEAT. 11 by the template 'for every input the law returns true; each argument reads behind the call as it read before'; 0 by the template 'total and deterministic' (their statements: YtokenlecnbploaaTotals.lean).
  GIVEN WITH THE SEED: the statements are not yours to turn. If you find one false, say at which input.
  Laid BY PROGRAM, IN A SANDBOX (cutbox-rows.mjs): the forced cells as the released guide's own fill.sh prints them over the translation 20afda715e191823… (all of the seat's roots in one cut). By AI agents, Wed Nov 11 2026. No macro, syntax, notation, axiom, sorry.
-/
import Derived.Test.YtokenlecnbploaaChecked
import GoSem.Claim
import GoSem.ClaimJoined
import GoSem.ClaimMapViews
import Derived.JoinedTies
import Derived.KernelRfl
namespace Go.Proofs.Ytokenlecnbploaa
/- THE CELL 'sum', in the pinned program and in every row, IS THE sha256 OF THE DUMP (.gsa) THAT YtokenlecnbploaaProg.lean LOADS. Nothing in Lean hashes anything: it is a label: what it is worth is what the hold of that sum in a sandbox is worth. -/
noncomputable def Try.pinned : Pinned := { name := "ytokenlecnbploaa", sum := "20afda715e191823ff490549c9661e8eb5373bf8d545b5b0c24c4d071eea76c7", checked := Try.checked }
namespace Rows
def none {H : Type} : Left H := { results := [], args := [] }

/-- 'typebarlaw28.WrapPlaces': WHATEVER THE INPUT: true; the input reads as it did. -/
def wrapPlacesSpec : ChangeSpec := { name := "wrapPlaces", fn := fun _ => fun
  | [d1, d2] => { results := [.lit (.bool true)], args := [d1, d2] }
  | _ => none }
def wrapPlacesRow : OpenClaim := { program := "ytokenlecnbploaa", sum := "20afda715e191823ff490549c9661e8eb5373bf8d545b5b0c24c4d071eea76c7", func := "typebar/typebarlaw28.WrapPlaces", spec := "wrapPlaces", unfollowed := true, recurses := true, apart := false }
def WrapPlacesSaid : Prop := wrapPlacesRow.holds Try.pinned (OpenSpec.ofChange wrapPlacesSpec)

/-- ITS FALSE NEIGHBOUR: 'it returns false'. Refute it at one input. -/
def wrapPlacesWrong : ChangeSpec := { name := "wrapPlaces", fn := fun _ => fun
  | [d1, d2] => { results := [.lit (.bool false)], args := [d1, d2] }
  | _ => none }
def WrapPlacesWrongFalsely : Prop := wrapPlacesRow.holds Try.pinned (OpenSpec.ofChange wrapPlacesWrong)

/-- 'typebarlaw28.WrapApart': WHATEVER THE INPUT: true; the input reads as it did. -/
def wrapApartSpec : ChangeSpec := { name := "wrapApart", fn := fun _ => fun
  | [d1, d2] => { results := [.lit (.bool true)], args := [d1, d2] }
  | _ => none }
def wrapApartRow : OpenClaim := { program := "ytokenlecnbploaa", sum := "20afda715e191823ff490549c9661e8eb5373bf8d545b5b0c24c4d071eea76c7", func := "typebar/typebarlaw28.WrapApart", spec := "wrapApart", unfollowed := true, recurses := true, apart := false }
def WrapApartSaid : Prop := wrapApartRow.holds Try.pinned (OpenSpec.ofChange wrapApartSpec)

/-- ITS FALSE NEIGHBOUR: 'it returns false'. Refute it at one input. -/
def wrapApartWrong : ChangeSpec := { name := "wrapApart", fn := fun _ => fun
  | [d1, d2] => { results := [.lit (.bool false)], args := [d1, d2] }
  | _ => none }
def WrapApartWrongFalsely : Prop := wrapApartRow.holds Try.pinned (OpenSpec.ofChange wrapApartWrong)

/-- 'typebarlaw28.WrapTops': WHATEVER THE INPUT: true; the input reads as it did. -/
def wrapTopsSpec : ChangeSpec := { name := "wrapTops", fn := fun _ => fun
  | [d1, d2, d3] => { results := [.lit (.bool true)], args := [d1, d2, d3] }
  | _ => none }
def wrapTopsRow : OpenClaim := { program := "ytokenlecnbploaa", sum := "20afda715e191823ff490549c9661e8eb5373bf8d545b5b0c24c4d071eea76c7", func := "typebar/typebarlaw28.WrapTops", spec := "wrapTops", unfollowed := true, recurses := true, apart := false }
def WrapTopsSaid : Prop := wrapTopsRow.holds Try.pinned (OpenSpec.ofChange wrapTopsSpec)

/-- ITS FALSE NEIGHBOUR: 'it returns false'. Refute it at one input. -/
def wrapTopsWrong : ChangeSpec := { name := "wrapTops", fn := fun _ => fun
  | [d1, d2, d3] => { results := [.lit (.bool false)], args := [d1, d2, d3] }
  | _ => none }
def WrapTopsWrongFalsely : Prop := wrapTopsRow.holds Try.pinned (OpenSpec.ofChange wrapTopsWrong)

/-- 'typebarlaw45.ColumnsFit': WHATEVER THE INPUT: true; the input reads as it did. -/
def columnsFitSpec : ChangeSpec := { name := "columnsFit", fn := fun _ => fun
  | [d1, d2] => { results := [.lit (.bool true)], args := [d1, d2] }
  | _ => none }
def columnsFitRow : OpenClaim := { program := "ytokenlecnbploaa", sum := "20afda715e191823ff490549c9661e8eb5373bf8d545b5b0c24c4d071eea76c7", func := "typebar/typebarlaw45.ColumnsFit", spec := "columnsFit", apart := false }
def ColumnsFitSaid : Prop := columnsFitRow.holds Try.pinned (OpenSpec.ofChange columnsFitSpec)

/-- ITS FALSE NEIGHBOUR: 'it returns false'. Refute it at one input. -/
def columnsFitWrong : ChangeSpec := { name := "columnsFit", fn := fun _ => fun
  | [d1, d2] => { results := [.lit (.bool false)], args := [d1, d2] }
  | _ => none }
def ColumnsFitWrongFalsely : Prop := columnsFitRow.holds Try.pinned (OpenSpec.ofChange columnsFitWrong)

/-- 'typebarlaw45.ColumnsFew': WHATEVER THE INPUT: true; the input reads as it did. -/
def columnsFewSpec : ChangeSpec := { name := "columnsFew", fn := fun _ => fun
  | [d1, d2] => { results := [.lit (.bool true)], args := [d1, d2] }
  | _ => none }
def columnsFewRow : OpenClaim := { program := "ytokenlecnbploaa", sum := "20afda715e191823ff490549c9661e8eb5373bf8d545b5b0c24c4d071eea76c7", func := "typebar/typebarlaw45.ColumnsFew", spec := "columnsFew", apart := false }
def ColumnsFewSaid : Prop := columnsFewRow.holds Try.pinned (OpenSpec.ofChange columnsFewSpec)

/-- ITS FALSE NEIGHBOUR: 'it returns false'. Refute it at one input. -/
def columnsFewWrong : ChangeSpec := { name := "columnsFew", fn := fun _ => fun
  | [d1, d2] => { results := [.lit (.bool false)], args := [d1, d2] }
  | _ => none }
def ColumnsFewWrongFalsely : Prop := columnsFewRow.holds Try.pinned (OpenSpec.ofChange columnsFewWrong)

/-- 'typebarlaw27.GridWide': WHATEVER THE INPUT: true; the input reads as it did. -/
def gridWideSpec : ChangeSpec := { name := "gridWide", fn := fun _ => fun
  | [d1, d2, d3] => { results := [.lit (.bool true)], args := [d1, d2, d3] }
  | _ => none }
def gridWideRow : OpenClaim := { program := "ytokenlecnbploaa", sum := "20afda715e191823ff490549c9661e8eb5373bf8d545b5b0c24c4d071eea76c7", func := "typebar/typebarlaw27.GridWide", spec := "gridWide", apart := false }
def GridWideSaid : Prop := gridWideRow.holds Try.pinned (OpenSpec.ofChange gridWideSpec)

/-- ITS FALSE NEIGHBOUR: 'it returns false'. Refute it at one input. -/
def gridWideWrong : ChangeSpec := { name := "gridWide", fn := fun _ => fun
  | [d1, d2, d3] => { results := [.lit (.bool false)], args := [d1, d2, d3] }
  | _ => none }
def GridWideWrongFalsely : Prop := gridWideRow.holds Try.pinned (OpenSpec.ofChange gridWideWrong)

/-- 'typebarlaw45.ColumnsGo': WHATEVER THE INPUT: true; the input reads as it did. -/
def columnsGoSpec : ChangeSpec := { name := "columnsGo", fn := fun _ => fun
  | [d1, d2, d3, d4] => { results := [.lit (.bool true)], args := [d1, d2, d3, d4] }
  | _ => none }
def columnsGoRow : OpenClaim := { program := "ytokenlecnbploaa", sum := "20afda715e191823ff490549c9661e8eb5373bf8d545b5b0c24c4d071eea76c7", func := "typebar/typebarlaw45.ColumnsGo", spec := "columnsGo", apart := false }
def ColumnsGoSaid : Prop := columnsGoRow.holds Try.pinned (OpenSpec.ofChange columnsGoSpec)

/-- ITS FALSE NEIGHBOUR: 'it returns false'. Refute it at one input. -/
def columnsGoWrong : ChangeSpec := { name := "columnsGo", fn := fun _ => fun
  | [d1, d2, d3, d4] => { results := [.lit (.bool false)], args := [d1, d2, d3, d4] }
  | _ => none }
def ColumnsGoWrongFalsely : Prop := columnsGoRow.holds Try.pinned (OpenSpec.ofChange columnsGoWrong)

/-- 'typebarlaw27.GridPlays': WHATEVER THE INPUT: true; the input reads as it did. -/
def gridPlaysSpec : ChangeSpec := { name := "gridPlays", fn := fun _ => fun
  | [d1, d2, d3] => { results := [.lit (.bool true)], args := [d1, d2, d3] }
  | _ => none }
def gridPlaysRow : OpenClaim := { program := "ytokenlecnbploaa", sum := "20afda715e191823ff490549c9661e8eb5373bf8d545b5b0c24c4d071eea76c7", func := "typebar/typebarlaw27.GridPlays", spec := "gridPlays", apart := false }
def GridPlaysSaid : Prop := gridPlaysRow.holds Try.pinned (OpenSpec.ofChange gridPlaysSpec)

/-- ITS FALSE NEIGHBOUR: 'it returns false'. Refute it at one input. -/
def gridPlaysWrong : ChangeSpec := { name := "gridPlays", fn := fun _ => fun
  | [d1, d2, d3] => { results := [.lit (.bool false)], args := [d1, d2, d3] }
  | _ => none }
def GridPlaysWrongFalsely : Prop := gridPlaysRow.holds Try.pinned (OpenSpec.ofChange gridPlaysWrong)

/-- 'typebarlaw28.WrapLays': WHATEVER THE INPUT: true; the input reads as it did. -/
def wrapLaysSpec : ChangeSpec := { name := "wrapLays", fn := fun _ => fun
  | [d1, d2, d3, d4] => { results := [.lit (.bool true)], args := [d1, d2, d3, d4] }
  | _ => none }
def wrapLaysRow : OpenClaim := { program := "ytokenlecnbploaa", sum := "20afda715e191823ff490549c9661e8eb5373bf8d545b5b0c24c4d071eea76c7", func := "typebar/typebarlaw28.WrapLays", spec := "wrapLays", unfollowed := true, recurses := true, apart := false }
def WrapLaysSaid : Prop := wrapLaysRow.holds Try.pinned (OpenSpec.ofChange wrapLaysSpec)

/-- ITS FALSE NEIGHBOUR: 'it returns false'. Refute it at one input. -/
def wrapLaysWrong : ChangeSpec := { name := "wrapLays", fn := fun _ => fun
  | [d1, d2, d3, d4] => { results := [.lit (.bool false)], args := [d1, d2, d3, d4] }
  | _ => none }
def WrapLaysWrongFalsely : Prop := wrapLaysRow.holds Try.pinned (OpenSpec.ofChange wrapLaysWrong)

/-- 'typebarlaw27.GridCopies': WHATEVER THE INPUT: true; the input reads as it did. -/
def gridCopiesSpec : ChangeSpec := { name := "gridCopies", fn := fun _ => fun
  | [d1, d2, d3, d4] => { results := [.lit (.bool true)], args := [d1, d2, d3, d4] }
  | _ => none }
def gridCopiesRow : OpenClaim := { program := "ytokenlecnbploaa", sum := "20afda715e191823ff490549c9661e8eb5373bf8d545b5b0c24c4d071eea76c7", func := "typebar/typebarlaw27.GridCopies", spec := "gridCopies", apart := false }
def GridCopiesSaid : Prop := gridCopiesRow.holds Try.pinned (OpenSpec.ofChange gridCopiesSpec)

/-- ITS FALSE NEIGHBOUR: 'it returns false'. Refute it at one input. -/
def gridCopiesWrong : ChangeSpec := { name := "gridCopies", fn := fun _ => fun
  | [d1, d2, d3, d4] => { results := [.lit (.bool false)], args := [d1, d2, d3, d4] }
  | _ => none }
def GridCopiesWrongFalsely : Prop := gridCopiesRow.holds Try.pinned (OpenSpec.ofChange gridCopiesWrong)

/-- 'typebarlaw27.GridSizes': WHATEVER THE INPUT: true; the input reads as it did. -/
def gridSizesSpec : ChangeSpec := { name := "gridSizes", fn := fun _ => fun
  | [d1, d2, d3, d4] => { results := [.lit (.bool true)], args := [d1, d2, d3, d4] }
  | _ => none }
def gridSizesRow : OpenClaim := { program := "ytokenlecnbploaa", sum := "20afda715e191823ff490549c9661e8eb5373bf8d545b5b0c24c4d071eea76c7", func := "typebar/typebarlaw27.GridSizes", spec := "gridSizes", apart := false }
def GridSizesSaid : Prop := gridSizesRow.holds Try.pinned (OpenSpec.ofChange gridSizesSpec)

/-- ITS FALSE NEIGHBOUR: 'it returns false'. Refute it at one input. -/
def gridSizesWrong : ChangeSpec := { name := "gridSizes", fn := fun _ => fun
  | [d1, d2, d3, d4] => { results := [.lit (.bool false)], args := [d1, d2, d3, d4] }
  | _ => none }
def GridSizesWrongFalsely : Prop := gridSizesRow.holds Try.pinned (OpenSpec.ofChange gridSizesWrong)

/- THE SECOND FORM. 'bulk': how many values and letters a reading holds, each counted each time it is reached (what is shared counts as often as it is met; a slice's spare places count too). A statement '..UptoSaid' is the law's where the arguments, and the package variables that the reading takes, are together of bulk at most 1048576: NARROWER than '..Said'. Prove '..Said' where nothing that the law and all that it calls make is longer than what came in: it says more and counts as full. Else prove '..UptoSaid'. A law counts once. -/
mutual
def uptoBulk {H : Type} : DataW H → Nat
  | .lit (.string bytes) => bytes.length + 1
  | .lit _ => 1
  | .nil => 1
  | .ptr d => uptoBulk d + 1
  | .slice elems spare => uptoBulkAll elems + uptoBulkAll spare + 1
  | .agg parts => uptoBulkAll parts + 1
  | .iface _ d => uptoBulk d + 1
  | .map entries => uptoBulkEntries entries + 1
  | .held _ => 1
def uptoBulkAll {H : Type} : List (DataW H) → Nat
  | [] => 0
  | d :: r => uptoBulk d + uptoBulkAll r
def uptoBulkEntries {H : Type} : List (Lit × DataW H) → Nat
  | [] => 0
  | x :: r => uptoBulkEntry x + uptoBulkEntries r
def uptoBulkEntry {H : Type} : Lit × DataW H → Nat
  | (.string bytes, d) => bytes.length + uptoBulk d + 1
  | (_, d) => uptoBulk d + 1
 end
def uptoSmall : (H : Type) → List (DataW H) → Bool := fun _ ds => decide (uptoBulkAll ds ≤ 1048576)
def OpenSpec.upto (s : _root_.Go.ChangeSpec) : _root_.Go.OpenSpec := { _root_.Go.OpenSpec.ofChange s with cond := some uptoSmall }

/-- 'typebarlaw28.WrapPlaces', WHERE WHAT IT READS IS OF BULK AT MOST 1048576: true; the input reads as it did. -/
def wrapPlacesUptoRow : OpenClaim := { program := "ytokenlecnbploaa", sum := "20afda715e191823ff490549c9661e8eb5373bf8d545b5b0c24c4d071eea76c7", func := "typebar/typebarlaw28.WrapPlaces", spec := "wrapPlaces", unfollowed := true, recurses := true, apart := false, narrowed := true }
def WrapPlacesUptoSaid : Prop := wrapPlacesUptoRow.holds Try.pinned (OpenSpec.upto wrapPlacesSpec)

/-- 'typebarlaw28.WrapApart', WHERE WHAT IT READS IS OF BULK AT MOST 1048576: true; the input reads as it did. -/
def wrapApartUptoRow : OpenClaim := { program := "ytokenlecnbploaa", sum := "20afda715e191823ff490549c9661e8eb5373bf8d545b5b0c24c4d071eea76c7", func := "typebar/typebarlaw28.WrapApart", spec := "wrapApart", unfollowed := true, recurses := true, apart := false, narrowed := true }
def WrapApartUptoSaid : Prop := wrapApartUptoRow.holds Try.pinned (OpenSpec.upto wrapApartSpec)

/-- 'typebarlaw28.WrapTops', WHERE WHAT IT READS IS OF BULK AT MOST 1048576: true; the input reads as it did. -/
def wrapTopsUptoRow : OpenClaim := { program := "ytokenlecnbploaa", sum := "20afda715e191823ff490549c9661e8eb5373bf8d545b5b0c24c4d071eea76c7", func := "typebar/typebarlaw28.WrapTops", spec := "wrapTops", unfollowed := true, recurses := true, apart := false, narrowed := true }
def WrapTopsUptoSaid : Prop := wrapTopsUptoRow.holds Try.pinned (OpenSpec.upto wrapTopsSpec)

/-- 'typebarlaw45.ColumnsFit', WHERE WHAT IT READS IS OF BULK AT MOST 1048576: true; the input reads as it did. -/
def columnsFitUptoRow : OpenClaim := { program := "ytokenlecnbploaa", sum := "20afda715e191823ff490549c9661e8eb5373bf8d545b5b0c24c4d071eea76c7", func := "typebar/typebarlaw45.ColumnsFit", spec := "columnsFit", apart := false, narrowed := true }
def ColumnsFitUptoSaid : Prop := columnsFitUptoRow.holds Try.pinned (OpenSpec.upto columnsFitSpec)

/-- 'typebarlaw45.ColumnsFew', WHERE WHAT IT READS IS OF BULK AT MOST 1048576: true; the input reads as it did. -/
def columnsFewUptoRow : OpenClaim := { program := "ytokenlecnbploaa", sum := "20afda715e191823ff490549c9661e8eb5373bf8d545b5b0c24c4d071eea76c7", func := "typebar/typebarlaw45.ColumnsFew", spec := "columnsFew", apart := false, narrowed := true }
def ColumnsFewUptoSaid : Prop := columnsFewUptoRow.holds Try.pinned (OpenSpec.upto columnsFewSpec)

/-- 'typebarlaw27.GridWide', WHERE WHAT IT READS IS OF BULK AT MOST 1048576: true; the input reads as it did. -/
def gridWideUptoRow : OpenClaim := { program := "ytokenlecnbploaa", sum := "20afda715e191823ff490549c9661e8eb5373bf8d545b5b0c24c4d071eea76c7", func := "typebar/typebarlaw27.GridWide", spec := "gridWide", apart := false, narrowed := true }
def GridWideUptoSaid : Prop := gridWideUptoRow.holds Try.pinned (OpenSpec.upto gridWideSpec)

/-- 'typebarlaw45.ColumnsGo', WHERE WHAT IT READS IS OF BULK AT MOST 1048576: true; the input reads as it did. -/
def columnsGoUptoRow : OpenClaim := { program := "ytokenlecnbploaa", sum := "20afda715e191823ff490549c9661e8eb5373bf8d545b5b0c24c4d071eea76c7", func := "typebar/typebarlaw45.ColumnsGo", spec := "columnsGo", apart := false, narrowed := true }
def ColumnsGoUptoSaid : Prop := columnsGoUptoRow.holds Try.pinned (OpenSpec.upto columnsGoSpec)

/-- 'typebarlaw27.GridPlays', WHERE WHAT IT READS IS OF BULK AT MOST 1048576: true; the input reads as it did. -/
def gridPlaysUptoRow : OpenClaim := { program := "ytokenlecnbploaa", sum := "20afda715e191823ff490549c9661e8eb5373bf8d545b5b0c24c4d071eea76c7", func := "typebar/typebarlaw27.GridPlays", spec := "gridPlays", apart := false, narrowed := true }
def GridPlaysUptoSaid : Prop := gridPlaysUptoRow.holds Try.pinned (OpenSpec.upto gridPlaysSpec)

/-- 'typebarlaw28.WrapLays', WHERE WHAT IT READS IS OF BULK AT MOST 1048576: true; the input reads as it did. -/
def wrapLaysUptoRow : OpenClaim := { program := "ytokenlecnbploaa", sum := "20afda715e191823ff490549c9661e8eb5373bf8d545b5b0c24c4d071eea76c7", func := "typebar/typebarlaw28.WrapLays", spec := "wrapLays", unfollowed := true, recurses := true, apart := false, narrowed := true }
def WrapLaysUptoSaid : Prop := wrapLaysUptoRow.holds Try.pinned (OpenSpec.upto wrapLaysSpec)

/-- 'typebarlaw27.GridCopies', WHERE WHAT IT READS IS OF BULK AT MOST 1048576: true; the input reads as it did. -/
def gridCopiesUptoRow : OpenClaim := { program := "ytokenlecnbploaa", sum := "20afda715e191823ff490549c9661e8eb5373bf8d545b5b0c24c4d071eea76c7", func := "typebar/typebarlaw27.GridCopies", spec := "gridCopies", apart := false, narrowed := true }
def GridCopiesUptoSaid : Prop := gridCopiesUptoRow.holds Try.pinned (OpenSpec.upto gridCopiesSpec)

/-- 'typebarlaw27.GridSizes', WHERE WHAT IT READS IS OF BULK AT MOST 1048576: true; the input reads as it did. -/
def gridSizesUptoRow : OpenClaim := { program := "ytokenlecnbploaa", sum := "20afda715e191823ff490549c9661e8eb5373bf8d545b5b0c24c4d071eea76c7", func := "typebar/typebarlaw27.GridSizes", spec := "gridSizes", apart := false, narrowed := true }
def GridSizesUptoSaid : Prop := gridSizesUptoRow.holds Try.pinned (OpenSpec.upto gridSizesSpec)

end Rows
end Go.Proofs.Ytokenlecnbploaa
