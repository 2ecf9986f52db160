/-
  No cell of these rows narrows 'for every input' (looked for: loops, veiled, ifaces, maps, wideKeys, modest, calm, conditions, laid).
  DERIVED. THE GIVEN ROWS OF THIS SEAT. 8 by the template 'for every input the law returns true; each argument reads behind the call as it read before'; 0 by the template 'total and deterministic' (their statements: YteiolnofaebknaaTotals.lean).
  GIVEN WITH THE SEED: the statements are not yours to turn. If you find one false, say at which input.
  Laid BY PROGRAM, IN A SANDBOX (cutbox-rows.mjs): the forced cells as the released guide's own fill.sh prints them over the translation 824ea9fdb9d101ec… (all of the seat's roots in one cut). By AI agents, Wed Nov 11 2026. No macro, syntax, notation, axiom, sorry.
-/
import Derived.Test.YteiolnofaebknaaChecked
import GoSem.Claim
import GoSem.ClaimJoined
import GoSem.ClaimMapViews
import Derived.JoinedTies
import Derived.KernelRfl
namespace Go.Proofs.Yteiolnofaebknaa
/- THE CELL 'sum', in the pinned program and in every row, IS THE sha256 OF THE DUMP (.gsa) THAT YteiolnofaebknaaProg.lean LOADS. Nothing in Lean hashes anything: it is a label: what it is worth is what the hold of that sum in a sandbox is worth. -/
noncomputable def Try.pinned : Pinned := { name := "yteiolnofaebknaa", sum := "824ea9fdb9d101ec498bf70f42389acf9242690308ed1153cba376f001cd8c68", checked := Try.checked }
namespace Rows
def none {H : Type} : Left H := { results := [], args := [] }

/-- 'clearwaylaw34.CoordinateMatches': WHATEVER THE INPUT: true; the input reads as it did. -/
def coordinateMatchesSpec : ChangeSpec := { name := "coordinateMatches", fn := fun _ => fun
  | [d1, d2, d3] => { results := [.lit (.bool true)], args := [d1, d2, d3] }
  | _ => none }
def coordinateMatchesRow : OpenClaim := { program := "yteiolnofaebknaa", sum := "824ea9fdb9d101ec498bf70f42389acf9242690308ed1153cba376f001cd8c68", func := "clearway/clearwaylaw34.CoordinateMatches", spec := "coordinateMatches", unfollowed := true, recurses := true, apart := false }
def CoordinateMatchesSaid : Prop := coordinateMatchesRow.holds Try.pinned (OpenSpec.ofChange coordinateMatchesSpec)

/-- ITS FALSE NEIGHBOUR: 'it returns false'. Refute it at one input. -/
def coordinateMatchesWrong : ChangeSpec := { name := "coordinateMatches", fn := fun _ => fun
  | [d1, d2, d3] => { results := [.lit (.bool false)], args := [d1, d2, d3] }
  | _ => none }
def CoordinateMatchesWrongFalsely : Prop := coordinateMatchesRow.holds Try.pinned (OpenSpec.ofChange coordinateMatchesWrong)

/-- 'clearwaylaw34.CoordinateRunMatches': WHATEVER THE INPUT: true; the input reads as it did. -/
def coordinateRunMatchesSpec : ChangeSpec := { name := "coordinateRunMatches", fn := fun _ => fun
  | [d1, d2, d3] => { results := [.lit (.bool true)], args := [d1, d2, d3] }
  | _ => none }
def coordinateRunMatchesRow : OpenClaim := { program := "yteiolnofaebknaa", sum := "824ea9fdb9d101ec498bf70f42389acf9242690308ed1153cba376f001cd8c68", func := "clearway/clearwaylaw34.CoordinateRunMatches", spec := "coordinateRunMatches", unfollowed := true, recurses := true, apart := false }
def CoordinateRunMatchesSaid : Prop := coordinateRunMatchesRow.holds Try.pinned (OpenSpec.ofChange coordinateRunMatchesSpec)

/-- ITS FALSE NEIGHBOUR: 'it returns false'. Refute it at one input. -/
def coordinateRunMatchesWrong : ChangeSpec := { name := "coordinateRunMatches", fn := fun _ => fun
  | [d1, d2, d3] => { results := [.lit (.bool false)], args := [d1, d2, d3] }
  | _ => none }
def CoordinateRunMatchesWrongFalsely : Prop := coordinateRunMatchesRow.holds Try.pinned (OpenSpec.ofChange coordinateRunMatchesWrong)

/-- 'clearwaylaw34.CoordinateExamples': WHATEVER THE INPUT: true; the input reads as it did. -/
def coordinateExamplesSpec : ChangeSpec := { name := "coordinateExamples", fn := fun _ => fun
  | [] => { results := [.lit (.bool true)], args := [] }
  | _ => none }
def coordinateExamplesRow : OpenClaim := { program := "yteiolnofaebknaa", sum := "824ea9fdb9d101ec498bf70f42389acf9242690308ed1153cba376f001cd8c68", func := "clearway/clearwaylaw34.CoordinateExamples", spec := "coordinateExamples", unfollowed := true, recurses := true, apart := false }
def CoordinateExamplesSaid : Prop := coordinateExamplesRow.holds Try.pinned (OpenSpec.ofChange coordinateExamplesSpec)

/-- ITS FALSE NEIGHBOUR: 'it returns false'. Refute it at one input. -/
def coordinateExamplesWrong : ChangeSpec := { name := "coordinateExamples", fn := fun _ => fun
  | [] => { results := [.lit (.bool false)], args := [] }
  | _ => none }
def CoordinateExamplesWrongFalsely : Prop := coordinateExamplesRow.holds Try.pinned (OpenSpec.ofChange coordinateExamplesWrong)

/-- 'clearwaylaw34.CoordinateSafe': WHATEVER THE INPUT: true; the input reads as it did. -/
def coordinateSafeSpec : ChangeSpec := { name := "coordinateSafe", fn := fun _ => fun
  | [d1, d2, d3] => { results := [.lit (.bool true)], args := [d1, d2, d3] }
  | _ => none }
def coordinateSafeRow : OpenClaim := { program := "yteiolnofaebknaa", sum := "824ea9fdb9d101ec498bf70f42389acf9242690308ed1153cba376f001cd8c68", func := "clearway/clearwaylaw34.CoordinateSafe", spec := "coordinateSafe", unfollowed := true, recurses := true, apart := false }
def CoordinateSafeSaid : Prop := coordinateSafeRow.holds Try.pinned (OpenSpec.ofChange coordinateSafeSpec)

/-- ITS FALSE NEIGHBOUR: 'it returns false'. Refute it at one input. -/
def coordinateSafeWrong : ChangeSpec := { name := "coordinateSafe", fn := fun _ => fun
  | [d1, d2, d3] => { results := [.lit (.bool false)], args := [d1, d2, d3] }
  | _ => none }
def CoordinateSafeWrongFalsely : Prop := coordinateSafeRow.holds Try.pinned (OpenSpec.ofChange coordinateSafeWrong)

/-- 'clearwaylaw34.CoordinateAll': WHATEVER THE INPUT: true; the input reads as it did. -/
def coordinateAllSpec : ChangeSpec := { name := "coordinateAll", fn := fun _ => fun
  | [] => { results := [.lit (.bool true)], args := [] }
  | _ => none }
def coordinateAllRow : OpenClaim := { program := "yteiolnofaebknaa", sum := "824ea9fdb9d101ec498bf70f42389acf9242690308ed1153cba376f001cd8c68", func := "clearway/clearwaylaw34.CoordinateAll", spec := "coordinateAll", unfollowed := true, recurses := true, apart := false }
def CoordinateAllSaid : Prop := coordinateAllRow.holds Try.pinned (OpenSpec.ofChange coordinateAllSpec)

/-- ITS FALSE NEIGHBOUR: 'it returns false'. Refute it at one input. -/
def coordinateAllWrong : ChangeSpec := { name := "coordinateAll", fn := fun _ => fun
  | [] => { results := [.lit (.bool false)], args := [] }
  | _ => none }
def CoordinateAllWrongFalsely : Prop := coordinateAllRow.holds Try.pinned (OpenSpec.ofChange coordinateAllWrong)

/-- 'clearwaylaw34.CoordinateLeader': WHATEVER THE INPUT: true; the input reads as it did. -/
def coordinateLeaderSpec : ChangeSpec := { name := "coordinateLeader", fn := fun _ => fun
  | [d1, d2] => { results := [.lit (.bool true)], args := [d1, d2] }
  | _ => none }
def coordinateLeaderRow : OpenClaim := { program := "yteiolnofaebknaa", sum := "824ea9fdb9d101ec498bf70f42389acf9242690308ed1153cba376f001cd8c68", func := "clearway/clearwaylaw34.CoordinateLeader", spec := "coordinateLeader", unfollowed := true, recurses := true, apart := false }
def CoordinateLeaderSaid : Prop := coordinateLeaderRow.holds Try.pinned (OpenSpec.ofChange coordinateLeaderSpec)

/-- ITS FALSE NEIGHBOUR: 'it returns false'. Refute it at one input. -/
def coordinateLeaderWrong : ChangeSpec := { name := "coordinateLeader", fn := fun _ => fun
  | [d1, d2] => { results := [.lit (.bool false)], args := [d1, d2] }
  | _ => none }
def CoordinateLeaderWrongFalsely : Prop := coordinateLeaderRow.holds Try.pinned (OpenSpec.ofChange coordinateLeaderWrong)

/-- 'clearwaylaw34.CoordinateRecovers': WHATEVER THE INPUT: true; the input reads as it did. -/
def coordinateRecoversSpec : ChangeSpec := { name := "coordinateRecovers", fn := fun _ => fun
  | [d1, d2] => { results := [.lit (.bool true)], args := [d1, d2] }
  | _ => none }
def coordinateRecoversRow : OpenClaim := { program := "yteiolnofaebknaa", sum := "824ea9fdb9d101ec498bf70f42389acf9242690308ed1153cba376f001cd8c68", func := "clearway/clearwaylaw34.CoordinateRecovers", spec := "coordinateRecovers", unfollowed := true, recurses := true, apart := false }
def CoordinateRecoversSaid : Prop := coordinateRecoversRow.holds Try.pinned (OpenSpec.ofChange coordinateRecoversSpec)

/-- ITS FALSE NEIGHBOUR: 'it returns false'. Refute it at one input. -/
def coordinateRecoversWrong : ChangeSpec := { name := "coordinateRecovers", fn := fun _ => fun
  | [d1, d2] => { results := [.lit (.bool false)], args := [d1, d2] }
  | _ => none }
def CoordinateRecoversWrongFalsely : Prop := coordinateRecoversRow.holds Try.pinned (OpenSpec.ofChange coordinateRecoversWrong)

/-- 'clearwaylaw34.CoordinateStale': WHATEVER THE INPUT: true; the input reads as it did. -/
def coordinateStaleSpec : ChangeSpec := { name := "coordinateStale", fn := fun _ => fun
  | [d1, d2, d3] => { results := [.lit (.bool true)], args := [d1, d2, d3] }
  | _ => none }
def coordinateStaleRow : OpenClaim := { program := "yteiolnofaebknaa", sum := "824ea9fdb9d101ec498bf70f42389acf9242690308ed1153cba376f001cd8c68", func := "clearway/clearwaylaw34.CoordinateStale", spec := "coordinateStale", unfollowed := true, recurses := true, apart := false }
def CoordinateStaleSaid : Prop := coordinateStaleRow.holds Try.pinned (OpenSpec.ofChange coordinateStaleSpec)

/-- ITS FALSE NEIGHBOUR: 'it returns false'. Refute it at one input. -/
def coordinateStaleWrong : ChangeSpec := { name := "coordinateStale", fn := fun _ => fun
  | [d1, d2, d3] => { results := [.lit (.bool false)], args := [d1, d2, d3] }
  | _ => none }
def CoordinateStaleWrongFalsely : Prop := coordinateStaleRow.holds Try.pinned (OpenSpec.ofChange coordinateStaleWrong)

/- THE SECOND FORM. 'bulk': how many values and letters a reading holds, each counted each time it is reached (what is shared counts as often as it is met; a slice's spare places count too). A statement '..UptoSaid' is the law's where the arguments, and the package variables that the reading takes, are together of bulk at most 1048576: NARROWER than '..Said'. Prove '..Said' where nothing that the law and all that it calls make is longer than what came in: it says more and counts as full. Else prove '..UptoSaid'. A law counts once. -/
mutual
def uptoBulk {H : Type} : DataW H → Nat
  | .lit (.string bytes) => bytes.length + 1
  | .lit _ => 1
  | .nil => 1
  | .ptr d => uptoBulk d + 1
  | .slice elems spare => uptoBulkAll elems + uptoBulkAll spare + 1
  | .agg parts => uptoBulkAll parts + 1
  | .iface _ d => uptoBulk d + 1
  | .map entries => uptoBulkEntries entries + 1
  | .held _ => 1
def uptoBulkAll {H : Type} : List (DataW H) → Nat
  | [] => 0
  | d :: r => uptoBulk d + uptoBulkAll r
def uptoBulkEntries {H : Type} : List (Lit × DataW H) → Nat
  | [] => 0
  | x :: r => uptoBulkEntry x + uptoBulkEntries r
def uptoBulkEntry {H : Type} : Lit × DataW H → Nat
  | (.string bytes, d) => bytes.length + uptoBulk d + 1
  | (_, d) => uptoBulk d + 1
 end
def uptoSmall : (H : Type) → List (DataW H) → Bool := fun _ ds => decide (uptoBulkAll ds ≤ 1048576)
def OpenSpec.upto (s : _root_.Go.ChangeSpec) : _root_.Go.OpenSpec := { _root_.Go.OpenSpec.ofChange s with cond := some uptoSmall }

/-- 'clearwaylaw34.CoordinateMatches', WHERE WHAT IT READS IS OF BULK AT MOST 1048576: true; the input reads as it did. -/
def coordinateMatchesUptoRow : OpenClaim := { program := "yteiolnofaebknaa", sum := "824ea9fdb9d101ec498bf70f42389acf9242690308ed1153cba376f001cd8c68", func := "clearway/clearwaylaw34.CoordinateMatches", spec := "coordinateMatches", unfollowed := true, recurses := true, apart := false, narrowed := true }
def CoordinateMatchesUptoSaid : Prop := coordinateMatchesUptoRow.holds Try.pinned (OpenSpec.upto coordinateMatchesSpec)

/-- 'clearwaylaw34.CoordinateRunMatches', WHERE WHAT IT READS IS OF BULK AT MOST 1048576: true; the input reads as it did. -/
def coordinateRunMatchesUptoRow : OpenClaim := { program := "yteiolnofaebknaa", sum := "824ea9fdb9d101ec498bf70f42389acf9242690308ed1153cba376f001cd8c68", func := "clearway/clearwaylaw34.CoordinateRunMatches", spec := "coordinateRunMatches", unfollowed := true, recurses := true, apart := false, narrowed := true }
def CoordinateRunMatchesUptoSaid : Prop := coordinateRunMatchesUptoRow.holds Try.pinned (OpenSpec.upto coordinateRunMatchesSpec)

/-- 'clearwaylaw34.CoordinateExamples', WHERE WHAT IT READS IS OF BULK AT MOST 1048576: true; the input reads as it did. -/
def coordinateExamplesUptoRow : OpenClaim := { program := "yteiolnofaebknaa", sum := "824ea9fdb9d101ec498bf70f42389acf9242690308ed1153cba376f001cd8c68", func := "clearway/clearwaylaw34.CoordinateExamples", spec := "coordinateExamples", unfollowed := true, recurses := true, apart := false, narrowed := true }
def CoordinateExamplesUptoSaid : Prop := coordinateExamplesUptoRow.holds Try.pinned (OpenSpec.upto coordinateExamplesSpec)

/-- 'clearwaylaw34.CoordinateSafe', WHERE WHAT IT READS IS OF BULK AT MOST 1048576: true; the input reads as it did. -/
def coordinateSafeUptoRow : OpenClaim := { program := "yteiolnofaebknaa", sum := "824ea9fdb9d101ec498bf70f42389acf9242690308ed1153cba376f001cd8c68", func := "clearway/clearwaylaw34.CoordinateSafe", spec := "coordinateSafe", unfollowed := true, recurses := true, apart := false, narrowed := true }
def CoordinateSafeUptoSaid : Prop := coordinateSafeUptoRow.holds Try.pinned (OpenSpec.upto coordinateSafeSpec)

/-- 'clearwaylaw34.CoordinateAll', WHERE WHAT IT READS IS OF BULK AT MOST 1048576: true; the input reads as it did. -/
def coordinateAllUptoRow : OpenClaim := { program := "yteiolnofaebknaa", sum := "824ea9fdb9d101ec498bf70f42389acf9242690308ed1153cba376f001cd8c68", func := "clearway/clearwaylaw34.CoordinateAll", spec := "coordinateAll", unfollowed := true, recurses := true, apart := false, narrowed := true }
def CoordinateAllUptoSaid : Prop := coordinateAllUptoRow.holds Try.pinned (OpenSpec.upto coordinateAllSpec)

/-- 'clearwaylaw34.CoordinateLeader', WHERE WHAT IT READS IS OF BULK AT MOST 1048576: true; the input reads as it did. -/
def coordinateLeaderUptoRow : OpenClaim := { program := "yteiolnofaebknaa", sum := "824ea9fdb9d101ec498bf70f42389acf9242690308ed1153cba376f001cd8c68", func := "clearway/clearwaylaw34.CoordinateLeader", spec := "coordinateLeader", unfollowed := true, recurses := true, apart := false, narrowed := true }
def CoordinateLeaderUptoSaid : Prop := coordinateLeaderUptoRow.holds Try.pinned (OpenSpec.upto coordinateLeaderSpec)

/-- 'clearwaylaw34.CoordinateRecovers', WHERE WHAT IT READS IS OF BULK AT MOST 1048576: true; the input reads as it did. -/
def coordinateRecoversUptoRow : OpenClaim := { program := "yteiolnofaebknaa", sum := "824ea9fdb9d101ec498bf70f42389acf9242690308ed1153cba376f001cd8c68", func := "clearway/clearwaylaw34.CoordinateRecovers", spec := "coordinateRecovers", unfollowed := true, recurses := true, apart := false, narrowed := true }
def CoordinateRecoversUptoSaid : Prop := coordinateRecoversUptoRow.holds Try.pinned (OpenSpec.upto coordinateRecoversSpec)

/-- 'clearwaylaw34.CoordinateStale', WHERE WHAT IT READS IS OF BULK AT MOST 1048576: true; the input reads as it did. -/
def coordinateStaleUptoRow : OpenClaim := { program := "yteiolnofaebknaa", sum := "824ea9fdb9d101ec498bf70f42389acf9242690308ed1153cba376f001cd8c68", func := "clearway/clearwaylaw34.CoordinateStale", spec := "coordinateStale", unfollowed := true, recurses := true, apart := false, narrowed := true }
def CoordinateStaleUptoSaid : Prop := coordinateStaleUptoRow.holds Try.pinned (OpenSpec.upto coordinateStaleSpec)

end Rows
end Go.Proofs.Yteiolnofaebknaa
