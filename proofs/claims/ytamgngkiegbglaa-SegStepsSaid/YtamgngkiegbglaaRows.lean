/-
  No cell of these rows narrows 'for every input' (looked for: loops, veiled, ifaces, maps, wideKeys, modest, calm, conditions, laid).
  DERIVED. THE GIVEN ROWS OF THIS SEAT. 12 by the template 'for every input the law returns true; each argument reads behind the call as it read before'; 0 by the template 'total and deterministic' (their statements: YtamgngkiegbglaaTotals.lean).
  GIVEN WITH THE SEED: the statements are not yours to turn. If you find one false, say at which input.
  Laid BY PROGRAM, IN A SANDBOX (cutbox-rows.mjs): the forced cells as the released guide's own fill.sh prints them over the translation 67437bfb14a306dc… (all of the seat's roots in one cut). By AI agents, Wed Nov 11 2026. No macro, syntax, notation, axiom, sorry.
-/
import Derived.Test.YtamgngkiegbglaaChecked
import GoSem.Claim
import GoSem.ClaimJoined
import GoSem.ClaimMapViews
import Derived.JoinedTies
import Derived.KernelRfl
namespace Go.Proofs.Ytamgngkiegbglaa
/- THE CELL 'sum', in the pinned program and in every row, IS THE sha256 OF THE DUMP (.gsa) THAT YtamgngkiegbglaaProg.lean LOADS. Nothing in Lean hashes anything: it is a label: what it is worth is what the hold of that sum in a sandbox is worth. -/
noncomputable def Try.pinned : Pinned := { name := "ytamgngkiegbglaa", sum := "67437bfb14a306dc54d5db43891d6b73d17ea50856c1e6caa2c0d905c0dbbeb9", checked := Try.checked }
namespace Rows
def none {H : Type} : Left H := { results := [], args := [] }

/-- 'typebarlaw04.UcdComposes': WHATEVER THE INPUT: true; the input reads as it did. -/
def ucdComposesSpec : ChangeSpec := { name := "ucdComposes", fn := fun _ => fun
  | [d1, d2] => { results := [.lit (.bool true)], args := [d1, d2] }
  | _ => none }
def ucdComposesRow : OpenClaim := { program := "ytamgngkiegbglaa", sum := "67437bfb14a306dc54d5db43891d6b73d17ea50856c1e6caa2c0d905c0dbbeb9", func := "typebar/typebarlaw04.UcdComposes", spec := "ucdComposes", unfollowed := true, recurses := true, plainKeys := false, apart := false }
def UcdComposesSaid : Prop := ucdComposesRow.holds Try.pinned (OpenSpec.ofChange ucdComposesSpec)

/-- ITS FALSE NEIGHBOUR: 'it returns false'. Refute it at one input. -/
def ucdComposesWrong : ChangeSpec := { name := "ucdComposes", fn := fun _ => fun
  | [d1, d2] => { results := [.lit (.bool false)], args := [d1, d2] }
  | _ => none }
def UcdComposesWrongFalsely : Prop := ucdComposesRow.holds Try.pinned (OpenSpec.ofChange ucdComposesWrong)

/-- 'typebarlaw04.UcdPairs': WHATEVER THE INPUT: true; the input reads as it did. -/
def ucdPairsSpec : ChangeSpec := { name := "ucdPairs", fn := fun _ => fun
  | [d] => { results := [.lit (.bool true)], args := [d] }
  | _ => none }
def ucdPairsRow : OpenClaim := { program := "ytamgngkiegbglaa", sum := "67437bfb14a306dc54d5db43891d6b73d17ea50856c1e6caa2c0d905c0dbbeb9", func := "typebar/typebarlaw04.UcdPairs", spec := "ucdPairs", unfollowed := true, recurses := true, plainKeys := false, apart := false }
def UcdPairsSaid : Prop := ucdPairsRow.holds Try.pinned (OpenSpec.ofChange ucdPairsSpec)

/-- ITS FALSE NEIGHBOUR: 'it returns false'. Refute it at one input. -/
def ucdPairsWrong : ChangeSpec := { name := "ucdPairs", fn := fun _ => fun
  | [d] => { results := [.lit (.bool false)], args := [d] }
  | _ => none }
def UcdPairsWrongFalsely : Prop := ucdPairsRow.holds Try.pinned (OpenSpec.ofChange ucdPairsWrong)

/-- 'typebarlaw04.UcdTells': WHATEVER THE INPUT: true; the input reads as it did. -/
def ucdTellsSpec : ChangeSpec := { name := "ucdTells", fn := fun _ => fun
  | [d] => { results := [.lit (.bool true)], args := [d] }
  | _ => none }
def ucdTellsRow : OpenClaim := { program := "ytamgngkiegbglaa", sum := "67437bfb14a306dc54d5db43891d6b73d17ea50856c1e6caa2c0d905c0dbbeb9", func := "typebar/typebarlaw04.UcdTells", spec := "ucdTells", unfollowed := true, recurses := true, plainKeys := false, apart := false }
def UcdTellsSaid : Prop := ucdTellsRow.holds Try.pinned (OpenSpec.ofChange ucdTellsSpec)

/-- ITS FALSE NEIGHBOUR: 'it returns false'. Refute it at one input. -/
def ucdTellsWrong : ChangeSpec := { name := "ucdTells", fn := fun _ => fun
  | [d] => { results := [.lit (.bool false)], args := [d] }
  | _ => none }
def UcdTellsWrongFalsely : Prop := ucdTellsRow.holds Try.pinned (OpenSpec.ofChange ucdTellsWrong)

/-- 'typebarlaw04.UcdRows': WHATEVER THE INPUT: true; the input reads as it did. -/
def ucdRowsSpec : ChangeSpec := { name := "ucdRows", fn := fun _ => fun
  | [d1, d2] => { results := [.lit (.bool true)], args := [d1, d2] }
  | _ => none }
def ucdRowsRow : OpenClaim := { program := "ytamgngkiegbglaa", sum := "67437bfb14a306dc54d5db43891d6b73d17ea50856c1e6caa2c0d905c0dbbeb9", func := "typebar/typebarlaw04.UcdRows", spec := "ucdRows", unfollowed := true, recurses := true, plainKeys := false, apart := false }
def UcdRowsSaid : Prop := ucdRowsRow.holds Try.pinned (OpenSpec.ofChange ucdRowsSpec)

/-- ITS FALSE NEIGHBOUR: 'it returns false'. Refute it at one input. -/
def ucdRowsWrong : ChangeSpec := { name := "ucdRows", fn := fun _ => fun
  | [d1, d2] => { results := [.lit (.bool false)], args := [d1, d2] }
  | _ => none }
def UcdRowsWrongFalsely : Prop := ucdRowsRow.holds Try.pinned (OpenSpec.ofChange ucdRowsWrong)

/-- 'typebarlaw04.UcdNone': WHATEVER THE INPUT: true; the input reads as it did. -/
def ucdNoneSpec : ChangeSpec := { name := "ucdNone", fn := fun _ => fun
  | [d1, d2] => { results := [.lit (.bool true)], args := [d1, d2] }
  | _ => none }
def ucdNoneRow : OpenClaim := { program := "ytamgngkiegbglaa", sum := "67437bfb14a306dc54d5db43891d6b73d17ea50856c1e6caa2c0d905c0dbbeb9", func := "typebar/typebarlaw04.UcdNone", spec := "ucdNone", unfollowed := true, recurses := true, plainKeys := false, apart := false }
def UcdNoneSaid : Prop := ucdNoneRow.holds Try.pinned (OpenSpec.ofChange ucdNoneSpec)

/-- ITS FALSE NEIGHBOUR: 'it returns false'. Refute it at one input. -/
def ucdNoneWrong : ChangeSpec := { name := "ucdNone", fn := fun _ => fun
  | [d1, d2] => { results := [.lit (.bool false)], args := [d1, d2] }
  | _ => none }
def UcdNoneWrongFalsely : Prop := ucdNoneRow.holds Try.pinned (OpenSpec.ofChange ucdNoneWrong)

/-- 'typebarlaw10.SegStarts': WHATEVER THE INPUT: true; the input reads as it did. -/
def segStartsSpec : ChangeSpec := { name := "segStarts", fn := fun _ => fun
  | [d] => { results := [.lit (.bool true)], args := [d] }
  | _ => none }
def segStartsRow : OpenClaim := { program := "ytamgngkiegbglaa", sum := "67437bfb14a306dc54d5db43891d6b73d17ea50856c1e6caa2c0d905c0dbbeb9", func := "typebar/typebarlaw10.SegStarts", spec := "segStarts", unfollowed := true, recurses := true, plainKeys := false, apart := false }
def SegStartsSaid : Prop := segStartsRow.holds Try.pinned (OpenSpec.ofChange segStartsSpec)

/-- ITS FALSE NEIGHBOUR: 'it returns false'. Refute it at one input. -/
def segStartsWrong : ChangeSpec := { name := "segStarts", fn := fun _ => fun
  | [d] => { results := [.lit (.bool false)], args := [d] }
  | _ => none }
def SegStartsWrongFalsely : Prop := segStartsRow.holds Try.pinned (OpenSpec.ofChange segStartsWrong)

/-- 'typebarlaw10.SegSteps': WHATEVER THE INPUT: true; the input reads as it did. -/
def segStepsSpec : ChangeSpec := { name := "segSteps", fn := fun _ => fun
  | [d] => { results := [.lit (.bool true)], args := [d] }
  | _ => none }
def segStepsRow : OpenClaim := { program := "ytamgngkiegbglaa", sum := "67437bfb14a306dc54d5db43891d6b73d17ea50856c1e6caa2c0d905c0dbbeb9", func := "typebar/typebarlaw10.SegSteps", spec := "segSteps", unfollowed := true, recurses := true, plainKeys := false, apart := false }
def SegStepsSaid : Prop := segStepsRow.holds Try.pinned (OpenSpec.ofChange segStepsSpec)

/-- ITS FALSE NEIGHBOUR: 'it returns false'. Refute it at one input. -/
def segStepsWrong : ChangeSpec := { name := "segSteps", fn := fun _ => fun
  | [d] => { results := [.lit (.bool false)], args := [d] }
  | _ => none }
def SegStepsWrongFalsely : Prop := segStepsRow.holds Try.pinned (OpenSpec.ofChange segStepsWrong)

/-- 'typebarlaw10.SegSuffix': WHATEVER THE INPUT: true; the input reads as it did. -/
def segSuffixSpec : ChangeSpec := { name := "segSuffix", fn := fun _ => fun
  | [d1, d2] => { results := [.lit (.bool true)], args := [d1, d2] }
  | _ => none }
def segSuffixRow : OpenClaim := { program := "ytamgngkiegbglaa", sum := "67437bfb14a306dc54d5db43891d6b73d17ea50856c1e6caa2c0d905c0dbbeb9", func := "typebar/typebarlaw10.SegSuffix", spec := "segSuffix", unfollowed := true, recurses := true, plainKeys := false, apart := false }
def SegSuffixSaid : Prop := segSuffixRow.holds Try.pinned (OpenSpec.ofChange segSuffixSpec)

/-- ITS FALSE NEIGHBOUR: 'it returns false'. Refute it at one input. -/
def segSuffixWrong : ChangeSpec := { name := "segSuffix", fn := fun _ => fun
  | [d1, d2] => { results := [.lit (.bool false)], args := [d1, d2] }
  | _ => none }
def SegSuffixWrongFalsely : Prop := segSuffixRow.holds Try.pinned (OpenSpec.ofChange segSuffixWrong)

/-- 'typebarlaw13.GlyphShows': WHATEVER THE INPUT: true; the input reads as it did. -/
def glyphShowsSpec : ChangeSpec := { name := "glyphShows", fn := fun _ => fun
  | [d] => { results := [.lit (.bool true)], args := [d] }
  | _ => none }
def glyphShowsRow : OpenClaim := { program := "ytamgngkiegbglaa", sum := "67437bfb14a306dc54d5db43891d6b73d17ea50856c1e6caa2c0d905c0dbbeb9", func := "typebar/typebarlaw13.GlyphShows", spec := "glyphShows", unfollowed := true, recurses := true, plainKeys := false, apart := false }
def GlyphShowsSaid : Prop := glyphShowsRow.holds Try.pinned (OpenSpec.ofChange glyphShowsSpec)

/-- ITS FALSE NEIGHBOUR: 'it returns false'. Refute it at one input. -/
def glyphShowsWrong : ChangeSpec := { name := "glyphShows", fn := fun _ => fun
  | [d] => { results := [.lit (.bool false)], args := [d] }
  | _ => none }
def GlyphShowsWrongFalsely : Prop := glyphShowsRow.holds Try.pinned (OpenSpec.ofChange glyphShowsWrong)

/-- 'typebarlaw10.SegNext': WHATEVER THE INPUT: true; the input reads as it did. -/
def segNextSpec : ChangeSpec := { name := "segNext", fn := fun _ => fun
  | [d1, d2] => { results := [.lit (.bool true)], args := [d1, d2] }
  | _ => none }
def segNextRow : OpenClaim := { program := "ytamgngkiegbglaa", sum := "67437bfb14a306dc54d5db43891d6b73d17ea50856c1e6caa2c0d905c0dbbeb9", func := "typebar/typebarlaw10.SegNext", spec := "segNext", unfollowed := true, recurses := true, plainKeys := false, apart := false }
def SegNextSaid : Prop := segNextRow.holds Try.pinned (OpenSpec.ofChange segNextSpec)

/-- ITS FALSE NEIGHBOUR: 'it returns false'. Refute it at one input. -/
def segNextWrong : ChangeSpec := { name := "segNext", fn := fun _ => fun
  | [d1, d2] => { results := [.lit (.bool false)], args := [d1, d2] }
  | _ => none }
def SegNextWrongFalsely : Prop := segNextRow.holds Try.pinned (OpenSpec.ofChange segNextWrong)

/-- 'typebarlaw10.SegClusters': WHATEVER THE INPUT: true; the input reads as it did. -/
def segClustersSpec : ChangeSpec := { name := "segClusters", fn := fun _ => fun
  | [d] => { results := [.lit (.bool true)], args := [d] }
  | _ => none }
def segClustersRow : OpenClaim := { program := "ytamgngkiegbglaa", sum := "67437bfb14a306dc54d5db43891d6b73d17ea50856c1e6caa2c0d905c0dbbeb9", func := "typebar/typebarlaw10.SegClusters", spec := "segClusters", unfollowed := true, recurses := true, plainKeys := false, apart := false }
def SegClustersSaid : Prop := segClustersRow.holds Try.pinned (OpenSpec.ofChange segClustersSpec)

/-- ITS FALSE NEIGHBOUR: 'it returns false'. Refute it at one input. -/
def segClustersWrong : ChangeSpec := { name := "segClusters", fn := fun _ => fun
  | [d] => { results := [.lit (.bool false)], args := [d] }
  | _ => none }
def SegClustersWrongFalsely : Prop := segClustersRow.holds Try.pinned (OpenSpec.ofChange segClustersWrong)

/-- 'typebarlaw11.BackPrev': WHATEVER THE INPUT: true; the input reads as it did. -/
def backPrevSpec : ChangeSpec := { name := "backPrev", fn := fun _ => fun
  | [d1, d2] => { results := [.lit (.bool true)], args := [d1, d2] }
  | _ => none }
def backPrevRow : OpenClaim := { program := "ytamgngkiegbglaa", sum := "67437bfb14a306dc54d5db43891d6b73d17ea50856c1e6caa2c0d905c0dbbeb9", func := "typebar/typebarlaw11.BackPrev", spec := "backPrev", unfollowed := true, recurses := true, plainKeys := false, apart := false }
def BackPrevSaid : Prop := backPrevRow.holds Try.pinned (OpenSpec.ofChange backPrevSpec)

/-- ITS FALSE NEIGHBOUR: 'it returns false'. Refute it at one input. -/
def backPrevWrong : ChangeSpec := { name := "backPrev", fn := fun _ => fun
  | [d1, d2] => { results := [.lit (.bool false)], args := [d1, d2] }
  | _ => none }
def BackPrevWrongFalsely : Prop := backPrevRow.holds Try.pinned (OpenSpec.ofChange backPrevWrong)

/- THE SECOND FORM. 'bulk': how many values and letters a reading holds, each counted each time it is reached (what is shared counts as often as it is met; a slice's spare places count too). A statement '..UptoSaid' is the law's where the arguments, and the package variables that the reading takes, are together of bulk at most 1048576: NARROWER than '..Said'. Prove '..Said' where nothing that the law and all that it calls make is longer than what came in: it says more and counts as full. Else prove '..UptoSaid'. A law counts once. -/
mutual
def uptoBulk {H : Type} : DataW H → Nat
  | .lit (.string bytes) => bytes.length + 1
  | .lit _ => 1
  | .nil => 1
  | .ptr d => uptoBulk d + 1
  | .slice elems spare => uptoBulkAll elems + uptoBulkAll spare + 1
  | .agg parts => uptoBulkAll parts + 1
  | .iface _ d => uptoBulk d + 1
  | .map entries => uptoBulkEntries entries + 1
  | .held _ => 1
def uptoBulkAll {H : Type} : List (DataW H) → Nat
  | [] => 0
  | d :: r => uptoBulk d + uptoBulkAll r
def uptoBulkEntries {H : Type} : List (Lit × DataW H) → Nat
  | [] => 0
  | x :: r => uptoBulkEntry x + uptoBulkEntries r
def uptoBulkEntry {H : Type} : Lit × DataW H → Nat
  | (.string bytes, d) => bytes.length + uptoBulk d + 1
  | (_, d) => uptoBulk d + 1
 end
def uptoSmall : (H : Type) → List (DataW H) → Bool := fun _ ds => decide (uptoBulkAll ds ≤ 1048576)
def OpenSpec.upto (s : _root_.Go.ChangeSpec) : _root_.Go.OpenSpec := { _root_.Go.OpenSpec.ofChange s with cond := some uptoSmall }

/-- 'typebarlaw04.UcdComposes', WHERE WHAT IT READS IS OF BULK AT MOST 1048576: true; the input reads as it did. -/
def ucdComposesUptoRow : OpenClaim := { program := "ytamgngkiegbglaa", sum := "67437bfb14a306dc54d5db43891d6b73d17ea50856c1e6caa2c0d905c0dbbeb9", func := "typebar/typebarlaw04.UcdComposes", spec := "ucdComposes", unfollowed := true, recurses := true, plainKeys := false, apart := false, narrowed := true }
def UcdComposesUptoSaid : Prop := ucdComposesUptoRow.holds Try.pinned (OpenSpec.upto ucdComposesSpec)

/-- 'typebarlaw04.UcdPairs', WHERE WHAT IT READS IS OF BULK AT MOST 1048576: true; the input reads as it did. -/
def ucdPairsUptoRow : OpenClaim := { program := "ytamgngkiegbglaa", sum := "67437bfb14a306dc54d5db43891d6b73d17ea50856c1e6caa2c0d905c0dbbeb9", func := "typebar/typebarlaw04.UcdPairs", spec := "ucdPairs", unfollowed := true, recurses := true, plainKeys := false, apart := false, narrowed := true }
def UcdPairsUptoSaid : Prop := ucdPairsUptoRow.holds Try.pinned (OpenSpec.upto ucdPairsSpec)

/-- 'typebarlaw04.UcdTells', WHERE WHAT IT READS IS OF BULK AT MOST 1048576: true; the input reads as it did. -/
def ucdTellsUptoRow : OpenClaim := { program := "ytamgngkiegbglaa", sum := "67437bfb14a306dc54d5db43891d6b73d17ea50856c1e6caa2c0d905c0dbbeb9", func := "typebar/typebarlaw04.UcdTells", spec := "ucdTells", unfollowed := true, recurses := true, plainKeys := false, apart := false, narrowed := true }
def UcdTellsUptoSaid : Prop := ucdTellsUptoRow.holds Try.pinned (OpenSpec.upto ucdTellsSpec)

/-- 'typebarlaw04.UcdRows', WHERE WHAT IT READS IS OF BULK AT MOST 1048576: true; the input reads as it did. -/
def ucdRowsUptoRow : OpenClaim := { program := "ytamgngkiegbglaa", sum := "67437bfb14a306dc54d5db43891d6b73d17ea50856c1e6caa2c0d905c0dbbeb9", func := "typebar/typebarlaw04.UcdRows", spec := "ucdRows", unfollowed := true, recurses := true, plainKeys := false, apart := false, narrowed := true }
def UcdRowsUptoSaid : Prop := ucdRowsUptoRow.holds Try.pinned (OpenSpec.upto ucdRowsSpec)

/-- 'typebarlaw04.UcdNone', WHERE WHAT IT READS IS OF BULK AT MOST 1048576: true; the input reads as it did. -/
def ucdNoneUptoRow : OpenClaim := { program := "ytamgngkiegbglaa", sum := "67437bfb14a306dc54d5db43891d6b73d17ea50856c1e6caa2c0d905c0dbbeb9", func := "typebar/typebarlaw04.UcdNone", spec := "ucdNone", unfollowed := true, recurses := true, plainKeys := false, apart := false, narrowed := true }
def UcdNoneUptoSaid : Prop := ucdNoneUptoRow.holds Try.pinned (OpenSpec.upto ucdNoneSpec)

/-- 'typebarlaw10.SegStarts', WHERE WHAT IT READS IS OF BULK AT MOST 1048576: true; the input reads as it did. -/
def segStartsUptoRow : OpenClaim := { program := "ytamgngkiegbglaa", sum := "67437bfb14a306dc54d5db43891d6b73d17ea50856c1e6caa2c0d905c0dbbeb9", func := "typebar/typebarlaw10.SegStarts", spec := "segStarts", unfollowed := true, recurses := true, plainKeys := false, apart := false, narrowed := true }
def SegStartsUptoSaid : Prop := segStartsUptoRow.holds Try.pinned (OpenSpec.upto segStartsSpec)

/-- 'typebarlaw10.SegSteps', WHERE WHAT IT READS IS OF BULK AT MOST 1048576: true; the input reads as it did. -/
def segStepsUptoRow : OpenClaim := { program := "ytamgngkiegbglaa", sum := "67437bfb14a306dc54d5db43891d6b73d17ea50856c1e6caa2c0d905c0dbbeb9", func := "typebar/typebarlaw10.SegSteps", spec := "segSteps", unfollowed := true, recurses := true, plainKeys := false, apart := false, narrowed := true }
def SegStepsUptoSaid : Prop := segStepsUptoRow.holds Try.pinned (OpenSpec.upto segStepsSpec)

/-- 'typebarlaw10.SegSuffix', WHERE WHAT IT READS IS OF BULK AT MOST 1048576: true; the input reads as it did. -/
def segSuffixUptoRow : OpenClaim := { program := "ytamgngkiegbglaa", sum := "67437bfb14a306dc54d5db43891d6b73d17ea50856c1e6caa2c0d905c0dbbeb9", func := "typebar/typebarlaw10.SegSuffix", spec := "segSuffix", unfollowed := true, recurses := true, plainKeys := false, apart := false, narrowed := true }
def SegSuffixUptoSaid : Prop := segSuffixUptoRow.holds Try.pinned (OpenSpec.upto segSuffixSpec)

/-- 'typebarlaw13.GlyphShows', WHERE WHAT IT READS IS OF BULK AT MOST 1048576: true; the input reads as it did. -/
def glyphShowsUptoRow : OpenClaim := { program := "ytamgngkiegbglaa", sum := "67437bfb14a306dc54d5db43891d6b73d17ea50856c1e6caa2c0d905c0dbbeb9", func := "typebar/typebarlaw13.GlyphShows", spec := "glyphShows", unfollowed := true, recurses := true, plainKeys := false, apart := false, narrowed := true }
def GlyphShowsUptoSaid : Prop := glyphShowsUptoRow.holds Try.pinned (OpenSpec.upto glyphShowsSpec)

/-- 'typebarlaw10.SegNext', WHERE WHAT IT READS IS OF BULK AT MOST 1048576: true; the input reads as it did. -/
def segNextUptoRow : OpenClaim := { program := "ytamgngkiegbglaa", sum := "67437bfb14a306dc54d5db43891d6b73d17ea50856c1e6caa2c0d905c0dbbeb9", func := "typebar/typebarlaw10.SegNext", spec := "segNext", unfollowed := true, recurses := true, plainKeys := false, apart := false, narrowed := true }
def SegNextUptoSaid : Prop := segNextUptoRow.holds Try.pinned (OpenSpec.upto segNextSpec)

/-- 'typebarlaw10.SegClusters', WHERE WHAT IT READS IS OF BULK AT MOST 1048576: true; the input reads as it did. -/
def segClustersUptoRow : OpenClaim := { program := "ytamgngkiegbglaa", sum := "67437bfb14a306dc54d5db43891d6b73d17ea50856c1e6caa2c0d905c0dbbeb9", func := "typebar/typebarlaw10.SegClusters", spec := "segClusters", unfollowed := true, recurses := true, plainKeys := false, apart := false, narrowed := true }
def SegClustersUptoSaid : Prop := segClustersUptoRow.holds Try.pinned (OpenSpec.upto segClustersSpec)

/-- 'typebarlaw11.BackPrev', WHERE WHAT IT READS IS OF BULK AT MOST 1048576: true; the input reads as it did. -/
def backPrevUptoRow : OpenClaim := { program := "ytamgngkiegbglaa", sum := "67437bfb14a306dc54d5db43891d6b73d17ea50856c1e6caa2c0d905c0dbbeb9", func := "typebar/typebarlaw11.BackPrev", spec := "backPrev", unfollowed := true, recurses := true, plainKeys := false, apart := false, narrowed := true }
def BackPrevUptoSaid : Prop := backPrevUptoRow.holds Try.pinned (OpenSpec.upto backPrevSpec)

end Rows
end Go.Proofs.Ytamgngkiegbglaa
