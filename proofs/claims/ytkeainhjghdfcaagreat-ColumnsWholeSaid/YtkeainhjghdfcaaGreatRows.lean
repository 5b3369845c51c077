/-
  No cell of these rows narrows 'for every input' (looked for: loops, veiled, ifaces, maps, wideKeys, modest, calm, conditions, laid).
  DERIVED. THE GIVEN ROWS OF THIS SEAT. 9 by the template 'for every input the law returns true; each argument reads behind the call as it read before'; 0 by the template 'total and deterministic' (their statements: YtkeainhjghdfcaaGreatTotals.lean).
  GIVEN WITH THE SEED: the statements are not yours to turn. If you find one false, say at which input.
  Laid BY PROGRAM, IN A SANDBOX (cutbox-rows.mjs): the forced cells as the released guide's own fill.sh prints them over the translation f97e18b3f14eed2e… (all of the seat's roots in one cut). By AI agents, Wed Nov 11 2026. No macro, syntax, notation, axiom, sorry.
-/
import Derived.Test.YtkeainhjghdfcaaGreatChecked
import GoSem.Claim
import GoSem.ClaimJoined
import GoSem.ClaimMapViews
import Derived.JoinedTies
import Derived.KernelRfl
namespace Go.Proofs.YtkeainhjghdfcaaGreat
/- THE CELL 'sum', in the pinned program and in every row, IS THE sha256 OF THE DUMP (.gsa) THAT YtkeainhjghdfcaaGreatProg.lean LOADS. Nothing in Lean hashes anything: it is a label: what it is worth is what the hold of that sum in a sandbox is worth. -/
noncomputable def Tryz.pinned : Pinned := { name := "ytkeainhjghdfcaagreat", sum := "f97e18b3f14eed2e1e793a18be93ac3e773e925426bac510716ee4d287492f0f", checked := Tryz.checked }
namespace Rows
def none {H : Type} : Left H := { results := [], args := [] }

/-- 'typebarlaw48.PanChooses': WHATEVER THE INPUT: true; the input reads as it did. -/
def panChoosesSpec : ChangeSpec := { name := "panChooses", fn := fun _ => fun
  | [d1, d2, d3] => { results := [.lit (.bool true)], args := [d1, d2, d3] }
  | _ => none }
def panChoosesRow : OpenClaim := { program := "ytkeainhjghdfcaagreat", sum := "f97e18b3f14eed2e1e793a18be93ac3e773e925426bac510716ee4d287492f0f", func := "typebar/typebarlaw48.PanChooses", spec := "panChooses", unfollowed := true, recurses := true, plainKeys := false, apart := false }
def PanChoosesSaid : Prop := panChoosesRow.holds Tryz.pinned (OpenSpec.ofChange panChoosesSpec)

/-- ITS FALSE NEIGHBOUR: 'it returns false'. Refute it at one input. -/
def panChoosesWrong : ChangeSpec := { name := "panChooses", fn := fun _ => fun
  | [d1, d2, d3] => { results := [.lit (.bool false)], args := [d1, d2, d3] }
  | _ => none }
def PanChoosesWrongFalsely : Prop := panChoosesRow.holds Tryz.pinned (OpenSpec.ofChange panChoosesWrong)

/-- 'typebarlaw48.PanRows': WHATEVER THE INPUT: true; the input reads as it did. -/
def panRowsSpec : ChangeSpec := { name := "panRows", fn := fun _ => fun
  | [d1, d2, d3] => { results := [.lit (.bool true)], args := [d1, d2, d3] }
  | _ => none }
def panRowsRow : OpenClaim := { program := "ytkeainhjghdfcaagreat", sum := "f97e18b3f14eed2e1e793a18be93ac3e773e925426bac510716ee4d287492f0f", func := "typebar/typebarlaw48.PanRows", spec := "panRows", unfollowed := true, recurses := true, plainKeys := false, apart := false }
def PanRowsSaid : Prop := panRowsRow.holds Tryz.pinned (OpenSpec.ofChange panRowsSpec)

/-- ITS FALSE NEIGHBOUR: 'it returns false'. Refute it at one input. -/
def panRowsWrong : ChangeSpec := { name := "panRows", fn := fun _ => fun
  | [d1, d2, d3] => { results := [.lit (.bool false)], args := [d1, d2, d3] }
  | _ => none }
def PanRowsWrongFalsely : Prop := panRowsRow.holds Tryz.pinned (OpenSpec.ofChange panRowsWrong)

/-- 'typebarlaw29.ScreenShows': WHATEVER THE INPUT: true; the input reads as it did. -/
def screenShowsSpec : ChangeSpec := { name := "screenShows", fn := fun _ => fun
  | [d1, d2, d3] => { results := [.lit (.bool true)], args := [d1, d2, d3] }
  | _ => none }
def screenShowsRow : OpenClaim := { program := "ytkeainhjghdfcaagreat", sum := "f97e18b3f14eed2e1e793a18be93ac3e773e925426bac510716ee4d287492f0f", func := "typebar/typebarlaw29.ScreenShows", spec := "screenShows", unfollowed := true, recurses := true, plainKeys := false, apart := false }
def ScreenShowsSaid : Prop := screenShowsRow.holds Tryz.pinned (OpenSpec.ofChange screenShowsSpec)

/-- ITS FALSE NEIGHBOUR: 'it returns false'. Refute it at one input. -/
def screenShowsWrong : ChangeSpec := { name := "screenShows", fn := fun _ => fun
  | [d1, d2, d3] => { results := [.lit (.bool false)], args := [d1, d2, d3] }
  | _ => none }
def ScreenShowsWrongFalsely : Prop := screenShowsRow.holds Tryz.pinned (OpenSpec.ofChange screenShowsWrong)

/-- 'typebarlaw29.ScreenCursor': WHATEVER THE INPUT: true; the input reads as it did. -/
def screenCursorSpec : ChangeSpec := { name := "screenCursor", fn := fun _ => fun
  | [d1, d2, d3] => { results := [.lit (.bool true)], args := [d1, d2, d3] }
  | _ => none }
def screenCursorRow : OpenClaim := { program := "ytkeainhjghdfcaagreat", sum := "f97e18b3f14eed2e1e793a18be93ac3e773e925426bac510716ee4d287492f0f", func := "typebar/typebarlaw29.ScreenCursor", spec := "screenCursor", unfollowed := true, recurses := true, plainKeys := false, apart := false }
def ScreenCursorSaid : Prop := screenCursorRow.holds Tryz.pinned (OpenSpec.ofChange screenCursorSpec)

/-- ITS FALSE NEIGHBOUR: 'it returns false'. Refute it at one input. -/
def screenCursorWrong : ChangeSpec := { name := "screenCursor", fn := fun _ => fun
  | [d1, d2, d3] => { results := [.lit (.bool false)], args := [d1, d2, d3] }
  | _ => none }
def ScreenCursorWrongFalsely : Prop := screenCursorRow.holds Tryz.pinned (OpenSpec.ofChange screenCursorWrong)

/-- 'typebarlaw29.ScreenWhole': WHATEVER THE INPUT: true; the input reads as it did. -/
def screenWholeSpec : ChangeSpec := { name := "screenWhole", fn := fun _ => fun
  | [d1, d2] => { results := [.lit (.bool true)], args := [d1, d2] }
  | _ => none }
def screenWholeRow : OpenClaim := { program := "ytkeainhjghdfcaagreat", sum := "f97e18b3f14eed2e1e793a18be93ac3e773e925426bac510716ee4d287492f0f", func := "typebar/typebarlaw29.ScreenWhole", spec := "screenWhole", unfollowed := true, recurses := true, plainKeys := false, apart := false }
def ScreenWholeSaid : Prop := screenWholeRow.holds Tryz.pinned (OpenSpec.ofChange screenWholeSpec)

/-- ITS FALSE NEIGHBOUR: 'it returns false'. Refute it at one input. -/
def screenWholeWrong : ChangeSpec := { name := "screenWhole", fn := fun _ => fun
  | [d1, d2] => { results := [.lit (.bool false)], args := [d1, d2] }
  | _ => none }
def ScreenWholeWrongFalsely : Prop := screenWholeRow.holds Tryz.pinned (OpenSpec.ofChange screenWholeWrong)

/-- 'typebarlaw29.ScreenLast': WHATEVER THE INPUT: true; the input reads as it did. -/
def screenLastSpec : ChangeSpec := { name := "screenLast", fn := fun _ => fun
  | [d1, d2, d3] => { results := [.lit (.bool true)], args := [d1, d2, d3] }
  | _ => none }
def screenLastRow : OpenClaim := { program := "ytkeainhjghdfcaagreat", sum := "f97e18b3f14eed2e1e793a18be93ac3e773e925426bac510716ee4d287492f0f", func := "typebar/typebarlaw29.ScreenLast", spec := "screenLast", unfollowed := true, recurses := true, plainKeys := false, apart := false }
def ScreenLastSaid : Prop := screenLastRow.holds Tryz.pinned (OpenSpec.ofChange screenLastSpec)

/-- ITS FALSE NEIGHBOUR: 'it returns false'. Refute it at one input. -/
def screenLastWrong : ChangeSpec := { name := "screenLast", fn := fun _ => fun
  | [d1, d2, d3] => { results := [.lit (.bool false)], args := [d1, d2, d3] }
  | _ => none }
def ScreenLastWrongFalsely : Prop := screenLastRow.holds Tryz.pinned (OpenSpec.ofChange screenLastWrong)

/-- 'typebarlaw45.ColumnsLay': WHATEVER THE INPUT: true; the input reads as it did. -/
def columnsLaySpec : ChangeSpec := { name := "columnsLay", fn := fun _ => fun
  | [d1, d2] => { results := [.lit (.bool true)], args := [d1, d2] }
  | _ => none }
def columnsLayRow : OpenClaim := { program := "ytkeainhjghdfcaagreat", sum := "f97e18b3f14eed2e1e793a18be93ac3e773e925426bac510716ee4d287492f0f", func := "typebar/typebarlaw45.ColumnsLay", spec := "columnsLay", inPlace := ["internal/abi.NoEscape", "internal/bytealg.MakeNoZero"], unfollowed := true, recurses := true, plainKeys := false, apart := false }
def ColumnsLaySaid : Prop := columnsLayRow.holds Tryz.pinned (OpenSpec.ofChange columnsLaySpec)

/-- ITS FALSE NEIGHBOUR: 'it returns false'. Refute it at one input. -/
def columnsLayWrong : ChangeSpec := { name := "columnsLay", fn := fun _ => fun
  | [d1, d2] => { results := [.lit (.bool false)], args := [d1, d2] }
  | _ => none }
def ColumnsLayWrongFalsely : Prop := columnsLayRow.holds Tryz.pinned (OpenSpec.ofChange columnsLayWrong)

/-- 'typebarlaw45.ColumnsWhole': WHATEVER THE INPUT: true; the input reads as it did. -/
def columnsWholeSpec : ChangeSpec := { name := "columnsWhole", fn := fun _ => fun
  | [d1, d2] => { results := [.lit (.bool true)], args := [d1, d2] }
  | _ => none }
def columnsWholeRow : OpenClaim := { program := "ytkeainhjghdfcaagreat", sum := "f97e18b3f14eed2e1e793a18be93ac3e773e925426bac510716ee4d287492f0f", func := "typebar/typebarlaw45.ColumnsWhole", spec := "columnsWhole", inPlace := ["internal/abi.NoEscape", "internal/bytealg.MakeNoZero"], unfollowed := true, recurses := true, plainKeys := false, apart := false }
def ColumnsWholeSaid : Prop := columnsWholeRow.holds Tryz.pinned (OpenSpec.ofChange columnsWholeSpec)

/-- ITS FALSE NEIGHBOUR: 'it returns false'. Refute it at one input. -/
def columnsWholeWrong : ChangeSpec := { name := "columnsWhole", fn := fun _ => fun
  | [d1, d2] => { results := [.lit (.bool false)], args := [d1, d2] }
  | _ => none }
def ColumnsWholeWrongFalsely : Prop := columnsWholeRow.holds Tryz.pinned (OpenSpec.ofChange columnsWholeWrong)

/-- 'typebarlaw49.FlowTexts': WHATEVER THE INPUT: true; the input reads as it did. -/
def flowTextsSpec : ChangeSpec := { name := "flowTexts", fn := fun _ => fun
  | [d1, d2, d3] => { results := [.lit (.bool true)], args := [d1, d2, d3] }
  | _ => none }
def flowTextsRow : OpenClaim := { program := "ytkeainhjghdfcaagreat", sum := "f97e18b3f14eed2e1e793a18be93ac3e773e925426bac510716ee4d287492f0f", func := "typebar/typebarlaw49.FlowTexts", spec := "flowTexts", inPlace := ["internal/abi.NoEscape", "internal/bytealg.MakeNoZero"], unfollowed := true, recurses := true, plainKeys := false, apart := false }
def FlowTextsSaid : Prop := flowTextsRow.holds Tryz.pinned (OpenSpec.ofChange flowTextsSpec)

/-- ITS FALSE NEIGHBOUR: 'it returns false'. Refute it at one input. -/
def flowTextsWrong : ChangeSpec := { name := "flowTexts", fn := fun _ => fun
  | [d1, d2, d3] => { results := [.lit (.bool false)], args := [d1, d2, d3] }
  | _ => none }
def FlowTextsWrongFalsely : Prop := flowTextsRow.holds Tryz.pinned (OpenSpec.ofChange flowTextsWrong)

/- THE SECOND FORM. 'bulk': how many values and letters a reading holds, each counted each time it is reached (what is shared counts as often as it is met; a slice's spare places count too). A statement '..UptoSaid' is the law's where the arguments, and the package variables that the reading takes, are together of bulk at most 1048576: NARROWER than '..Said'. Prove '..Said' where nothing that the law and all that it calls make is longer than what came in: it says more and counts as full. Else prove '..UptoSaid'. A law counts once. -/
mutual
def uptoBulk {H : Type} : DataW H → Nat
  | .lit (.string bytes) => bytes.length + 1
  | .lit _ => 1
  | .nil => 1
  | .ptr d => uptoBulk d + 1
  | .slice elems spare => uptoBulkAll elems + uptoBulkAll spare + 1
  | .agg parts => uptoBulkAll parts + 1
  | .iface _ d => uptoBulk d + 1
  | .map entries => uptoBulkEntries entries + 1
  | .held _ => 1
def uptoBulkAll {H : Type} : List (DataW H) → Nat
  | [] => 0
  | d :: r => uptoBulk d + uptoBulkAll r
def uptoBulkEntries {H : Type} : List (Lit × DataW H) → Nat
  | [] => 0
  | x :: r => uptoBulkEntry x + uptoBulkEntries r
def uptoBulkEntry {H : Type} : Lit × DataW H → Nat
  | (.string bytes, d) => bytes.length + uptoBulk d + 1
  | (_, d) => uptoBulk d + 1
 end
def uptoSmall : (H : Type) → List (DataW H) → Bool := fun _ ds => decide (uptoBulkAll ds ≤ 1048576)
def OpenSpec.upto (s : _root_.Go.ChangeSpec) : _root_.Go.OpenSpec := { _root_.Go.OpenSpec.ofChange s with cond := some uptoSmall }

/-- 'typebarlaw48.PanChooses', WHERE WHAT IT READS IS OF BULK AT MOST 1048576: true; the input reads as it did. -/
def panChoosesUptoRow : OpenClaim := { program := "ytkeainhjghdfcaagreat", sum := "f97e18b3f14eed2e1e793a18be93ac3e773e925426bac510716ee4d287492f0f", func := "typebar/typebarlaw48.PanChooses", spec := "panChooses", unfollowed := true, recurses := true, plainKeys := false, apart := false, narrowed := true }
def PanChoosesUptoSaid : Prop := panChoosesUptoRow.holds Tryz.pinned (OpenSpec.upto panChoosesSpec)

/-- 'typebarlaw48.PanRows', WHERE WHAT IT READS IS OF BULK AT MOST 1048576: true; the input reads as it did. -/
def panRowsUptoRow : OpenClaim := { program := "ytkeainhjghdfcaagreat", sum := "f97e18b3f14eed2e1e793a18be93ac3e773e925426bac510716ee4d287492f0f", func := "typebar/typebarlaw48.PanRows", spec := "panRows", unfollowed := true, recurses := true, plainKeys := false, apart := false, narrowed := true }
def PanRowsUptoSaid : Prop := panRowsUptoRow.holds Tryz.pinned (OpenSpec.upto panRowsSpec)

/-- 'typebarlaw29.ScreenShows', WHERE WHAT IT READS IS OF BULK AT MOST 1048576: true; the input reads as it did. -/
def screenShowsUptoRow : OpenClaim := { program := "ytkeainhjghdfcaagreat", sum := "f97e18b3f14eed2e1e793a18be93ac3e773e925426bac510716ee4d287492f0f", func := "typebar/typebarlaw29.ScreenShows", spec := "screenShows", unfollowed := true, recurses := true, plainKeys := false, apart := false, narrowed := true }
def ScreenShowsUptoSaid : Prop := screenShowsUptoRow.holds Tryz.pinned (OpenSpec.upto screenShowsSpec)

/-- 'typebarlaw29.ScreenCursor', WHERE WHAT IT READS IS OF BULK AT MOST 1048576: true; the input reads as it did. -/
def screenCursorUptoRow : OpenClaim := { program := "ytkeainhjghdfcaagreat", sum := "f97e18b3f14eed2e1e793a18be93ac3e773e925426bac510716ee4d287492f0f", func := "typebar/typebarlaw29.ScreenCursor", spec := "screenCursor", unfollowed := true, recurses := true, plainKeys := false, apart := false, narrowed := true }
def ScreenCursorUptoSaid : Prop := screenCursorUptoRow.holds Tryz.pinned (OpenSpec.upto screenCursorSpec)

/-- 'typebarlaw29.ScreenWhole', WHERE WHAT IT READS IS OF BULK AT MOST 1048576: true; the input reads as it did. -/
def screenWholeUptoRow : OpenClaim := { program := "ytkeainhjghdfcaagreat", sum := "f97e18b3f14eed2e1e793a18be93ac3e773e925426bac510716ee4d287492f0f", func := "typebar/typebarlaw29.ScreenWhole", spec := "screenWhole", unfollowed := true, recurses := true, plainKeys := false, apart := false, narrowed := true }
def ScreenWholeUptoSaid : Prop := screenWholeUptoRow.holds Tryz.pinned (OpenSpec.upto screenWholeSpec)

/-- 'typebarlaw29.ScreenLast', WHERE WHAT IT READS IS OF BULK AT MOST 1048576: true; the input reads as it did. -/
def screenLastUptoRow : OpenClaim := { program := "ytkeainhjghdfcaagreat", sum := "f97e18b3f14eed2e1e793a18be93ac3e773e925426bac510716ee4d287492f0f", func := "typebar/typebarlaw29.ScreenLast", spec := "screenLast", unfollowed := true, recurses := true, plainKeys := false, apart := false, narrowed := true }
def ScreenLastUptoSaid : Prop := screenLastUptoRow.holds Tryz.pinned (OpenSpec.upto screenLastSpec)

/-- 'typebarlaw45.ColumnsLay', WHERE WHAT IT READS IS OF BULK AT MOST 1048576: true; the input reads as it did. -/
def columnsLayUptoRow : OpenClaim := { program := "ytkeainhjghdfcaagreat", sum := "f97e18b3f14eed2e1e793a18be93ac3e773e925426bac510716ee4d287492f0f", func := "typebar/typebarlaw45.ColumnsLay", spec := "columnsLay", inPlace := ["internal/abi.NoEscape", "internal/bytealg.MakeNoZero"], unfollowed := true, recurses := true, plainKeys := false, apart := false, narrowed := true }
def ColumnsLayUptoSaid : Prop := columnsLayUptoRow.holds Tryz.pinned (OpenSpec.upto columnsLaySpec)

/-- 'typebarlaw45.ColumnsWhole', WHERE WHAT IT READS IS OF BULK AT MOST 1048576: true; the input reads as it did. -/
def columnsWholeUptoRow : OpenClaim := { program := "ytkeainhjghdfcaagreat", sum := "f97e18b3f14eed2e1e793a18be93ac3e773e925426bac510716ee4d287492f0f", func := "typebar/typebarlaw45.ColumnsWhole", spec := "columnsWhole", inPlace := ["internal/abi.NoEscape", "internal/bytealg.MakeNoZero"], unfollowed := true, recurses := true, plainKeys := false, apart := false, narrowed := true }
def ColumnsWholeUptoSaid : Prop := columnsWholeUptoRow.holds Tryz.pinned (OpenSpec.upto columnsWholeSpec)

/-- 'typebarlaw49.FlowTexts', WHERE WHAT IT READS IS OF BULK AT MOST 1048576: true; the input reads as it did. -/
def flowTextsUptoRow : OpenClaim := { program := "ytkeainhjghdfcaagreat", sum := "f97e18b3f14eed2e1e793a18be93ac3e773e925426bac510716ee4d287492f0f", func := "typebar/typebarlaw49.FlowTexts", spec := "flowTexts", inPlace := ["internal/abi.NoEscape", "internal/bytealg.MakeNoZero"], unfollowed := true, recurses := true, plainKeys := false, apart := false, narrowed := true }
def FlowTextsUptoSaid : Prop := flowTextsUptoRow.holds Tryz.pinned (OpenSpec.upto flowTextsSpec)

end Rows
end Go.Proofs.YtkeainhjghdfcaaGreat
