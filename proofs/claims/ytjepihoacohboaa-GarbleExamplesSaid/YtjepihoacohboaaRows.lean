/-
  No cell of these rows narrows 'for every input' (looked for: loops, veiled, ifaces, maps, wideKeys, modest, calm, conditions, laid).
  DERIVED. THE GIVEN ROWS OF THIS SEAT. 7 by the template 'for every input the law returns true; each argument reads behind the call as it read before'; 0 by the template 'total and deterministic' (their statements: YtjepihoacohboaaTotals.lean).
  GIVEN WITH THE SEED: the statements are not yours to turn. If you find one false, say at which input.
  Laid BY PROGRAM, IN A SANDBOX (cutbox-rows.mjs): the forced cells as the released guide's own fill.sh prints them over the translation 4df1666e0cabdf9a… (all of the seat's roots in one cut). By AI agents, Wed Nov 11 2026. No macro, syntax, notation, axiom, sorry.
-/
import Derived.Test.YtjepihoacohboaaChecked
import GoSem.Claim
import GoSem.ClaimJoined
import GoSem.ClaimMapViews
import Derived.JoinedTies
import Derived.KernelRfl
namespace Go.Proofs.Ytjepihoacohboaa
/- THE CELL 'sum', in the pinned program and in every row, IS THE sha256 OF THE DUMP (.gsa) THAT YtjepihoacohboaaProg.lean LOADS. Nothing in Lean hashes anything: it is a label: what it is worth is what the hold of that sum in a sandbox is worth. -/
noncomputable def Try.pinned : Pinned := { name := "ytjepihoacohboaa", sum := "4df1666e0cabdf9a3bf49dd7ce754bbb269cbf374ca17b4b475e5638a912b89a", checked := Try.checked }
namespace Rows
def none {H : Type} : Left H := { results := [], args := [] }

/-- 'clearwaylaw11.GarbleMatches': WHATEVER THE INPUT: true; the input reads as it did. -/
def garbleMatchesSpec : ChangeSpec := { name := "garbleMatches", fn := fun _ => fun
  | [d1, d2] => { results := [.lit (.bool true)], args := [d1, d2] }
  | _ => none }
def garbleMatchesRow : OpenClaim := { program := "ytjepihoacohboaa", sum := "4df1666e0cabdf9a3bf49dd7ce754bbb269cbf374ca17b4b475e5638a912b89a", func := "clearway/clearwaylaw11.GarbleMatches", spec := "garbleMatches", unfollowed := true, recurses := true, apart := false }
def GarbleMatchesSaid : Prop := garbleMatchesRow.holds Try.pinned (OpenSpec.ofChange garbleMatchesSpec)

/-- ITS FALSE NEIGHBOUR: 'it returns false'. Refute it at one input. -/
def garbleMatchesWrong : ChangeSpec := { name := "garbleMatches", fn := fun _ => fun
  | [d1, d2] => { results := [.lit (.bool false)], args := [d1, d2] }
  | _ => none }
def GarbleMatchesWrongFalsely : Prop := garbleMatchesRow.holds Try.pinned (OpenSpec.ofChange garbleMatchesWrong)

/-- 'clearwaylaw11.GarbleTruth': WHATEVER THE INPUT: true; the input reads as it did. -/
def garbleTruthSpec : ChangeSpec := { name := "garbleTruth", fn := fun _ => fun
  | [d1, d2] => { results := [.lit (.bool true)], args := [d1, d2] }
  | _ => none }
def garbleTruthRow : OpenClaim := { program := "ytjepihoacohboaa", sum := "4df1666e0cabdf9a3bf49dd7ce754bbb269cbf374ca17b4b475e5638a912b89a", func := "clearway/clearwaylaw11.GarbleTruth", spec := "garbleTruth", unfollowed := true, recurses := true, apart := false }
def GarbleTruthSaid : Prop := garbleTruthRow.holds Try.pinned (OpenSpec.ofChange garbleTruthSpec)

/-- ITS FALSE NEIGHBOUR: 'it returns false'. Refute it at one input. -/
def garbleTruthWrong : ChangeSpec := { name := "garbleTruth", fn := fun _ => fun
  | [d1, d2] => { results := [.lit (.bool false)], args := [d1, d2] }
  | _ => none }
def GarbleTruthWrongFalsely : Prop := garbleTruthRow.holds Try.pinned (OpenSpec.ofChange garbleTruthWrong)

/-- 'clearwaylaw11.GarbleAll': WHATEVER THE INPUT: true; the input reads as it did. -/
def garbleAllSpec : ChangeSpec := { name := "garbleAll", fn := fun _ => fun
  | [d1, d2] => { results := [.lit (.bool true)], args := [d1, d2] }
  | _ => none }
def garbleAllRow : OpenClaim := { program := "ytjepihoacohboaa", sum := "4df1666e0cabdf9a3bf49dd7ce754bbb269cbf374ca17b4b475e5638a912b89a", func := "clearway/clearwaylaw11.GarbleAll", spec := "garbleAll", unfollowed := true, recurses := true, apart := false }
def GarbleAllSaid : Prop := garbleAllRow.holds Try.pinned (OpenSpec.ofChange garbleAllSpec)

/-- ITS FALSE NEIGHBOUR: 'it returns false'. Refute it at one input. -/
def garbleAllWrong : ChangeSpec := { name := "garbleAll", fn := fun _ => fun
  | [d1, d2] => { results := [.lit (.bool false)], args := [d1, d2] }
  | _ => none }
def GarbleAllWrongFalsely : Prop := garbleAllRow.holds Try.pinned (OpenSpec.ofChange garbleAllWrong)

/-- 'clearwaylaw11.GarbleTail': WHATEVER THE INPUT: true; the input reads as it did. -/
def garbleTailSpec : ChangeSpec := { name := "garbleTail", fn := fun _ => fun
  | [d1, d2, d3] => { results := [.lit (.bool true)], args := [d1, d2, d3] }
  | _ => none }
def garbleTailRow : OpenClaim := { program := "ytjepihoacohboaa", sum := "4df1666e0cabdf9a3bf49dd7ce754bbb269cbf374ca17b4b475e5638a912b89a", func := "clearway/clearwaylaw11.GarbleTail", spec := "garbleTail", unfollowed := true, recurses := true, apart := false }
def GarbleTailSaid : Prop := garbleTailRow.holds Try.pinned (OpenSpec.ofChange garbleTailSpec)

/-- ITS FALSE NEIGHBOUR: 'it returns false'. Refute it at one input. -/
def garbleTailWrong : ChangeSpec := { name := "garbleTail", fn := fun _ => fun
  | [d1, d2, d3] => { results := [.lit (.bool false)], args := [d1, d2, d3] }
  | _ => none }
def GarbleTailWrongFalsely : Prop := garbleTailRow.holds Try.pinned (OpenSpec.ofChange garbleTailWrong)

/-- 'clearwaylaw11.GarbleCertain': WHATEVER THE INPUT: true; the input reads as it did. -/
def garbleCertainSpec : ChangeSpec := { name := "garbleCertain", fn := fun _ => fun
  | [d1, d2] => { results := [.lit (.bool true)], args := [d1, d2] }
  | _ => none }
def garbleCertainRow : OpenClaim := { program := "ytjepihoacohboaa", sum := "4df1666e0cabdf9a3bf49dd7ce754bbb269cbf374ca17b4b475e5638a912b89a", func := "clearway/clearwaylaw11.GarbleCertain", spec := "garbleCertain", unfollowed := true, recurses := true, apart := false }
def GarbleCertainSaid : Prop := garbleCertainRow.holds Try.pinned (OpenSpec.ofChange garbleCertainSpec)

/-- ITS FALSE NEIGHBOUR: 'it returns false'. Refute it at one input. -/
def garbleCertainWrong : ChangeSpec := { name := "garbleCertain", fn := fun _ => fun
  | [d1, d2] => { results := [.lit (.bool false)], args := [d1, d2] }
  | _ => none }
def GarbleCertainWrongFalsely : Prop := garbleCertainRow.holds Try.pinned (OpenSpec.ofChange garbleCertainWrong)

/-- 'clearwaylaw11.GarbleFits': WHATEVER THE INPUT: true; the input reads as it did. -/
def garbleFitsSpec : ChangeSpec := { name := "garbleFits", fn := fun _ => fun
  | [d1, d2] => { results := [.lit (.bool true)], args := [d1, d2] }
  | _ => none }
def garbleFitsRow : OpenClaim := { program := "ytjepihoacohboaa", sum := "4df1666e0cabdf9a3bf49dd7ce754bbb269cbf374ca17b4b475e5638a912b89a", func := "clearway/clearwaylaw11.GarbleFits", spec := "garbleFits", unfollowed := true, recurses := true, apart := false }
def GarbleFitsSaid : Prop := garbleFitsRow.holds Try.pinned (OpenSpec.ofChange garbleFitsSpec)

/-- ITS FALSE NEIGHBOUR: 'it returns false'. Refute it at one input. -/
def garbleFitsWrong : ChangeSpec := { name := "garbleFits", fn := fun _ => fun
  | [d1, d2] => { results := [.lit (.bool false)], args := [d1, d2] }
  | _ => none }
def GarbleFitsWrongFalsely : Prop := garbleFitsRow.holds Try.pinned (OpenSpec.ofChange garbleFitsWrong)

/-- 'clearwaylaw11.GarbleExamples': WHATEVER THE INPUT: true; the input reads as it did. -/
def garbleExamplesSpec : ChangeSpec := { name := "garbleExamples", fn := fun _ => fun
  | [] => { results := [.lit (.bool true)], args := [] }
  | _ => none }
def garbleExamplesRow : OpenClaim := { program := "ytjepihoacohboaa", sum := "4df1666e0cabdf9a3bf49dd7ce754bbb269cbf374ca17b4b475e5638a912b89a", func := "clearway/clearwaylaw11.GarbleExamples", spec := "garbleExamples", unfollowed := true, recurses := true, apart := false }
def GarbleExamplesSaid : Prop := garbleExamplesRow.holds Try.pinned (OpenSpec.ofChange garbleExamplesSpec)

/-- ITS FALSE NEIGHBOUR: 'it returns false'. Refute it at one input. -/
def garbleExamplesWrong : ChangeSpec := { name := "garbleExamples", fn := fun _ => fun
  | [] => { results := [.lit (.bool false)], args := [] }
  | _ => none }
def GarbleExamplesWrongFalsely : Prop := garbleExamplesRow.holds Try.pinned (OpenSpec.ofChange garbleExamplesWrong)

/- THE SECOND FORM. 'bulk': how many values and letters a reading holds, each counted each time it is reached (what is shared counts as often as it is met; a slice's spare places count too). A statement '..UptoSaid' is the law's where the arguments, and the package variables that the reading takes, are together of bulk at most 1048576: NARROWER than '..Said'. Prove '..Said' where nothing that the law and all that it calls make is longer than what came in: it says more and counts as full. Else prove '..UptoSaid'. A law counts once. -/
mutual
def uptoBulk {H : Type} : DataW H → Nat
  | .lit (.string bytes) => bytes.length + 1
  | .lit _ => 1
  | .nil => 1
  | .ptr d => uptoBulk d + 1
  | .slice elems spare => uptoBulkAll elems + uptoBulkAll spare + 1
  | .agg parts => uptoBulkAll parts + 1
  | .iface _ d => uptoBulk d + 1
  | .map entries => uptoBulkEntries entries + 1
  | .held _ => 1
def uptoBulkAll {H : Type} : List (DataW H) → Nat
  | [] => 0
  | d :: r => uptoBulk d + uptoBulkAll r
def uptoBulkEntries {H : Type} : List (Lit × DataW H) → Nat
  | [] => 0
  | x :: r => uptoBulkEntry x + uptoBulkEntries r
def uptoBulkEntry {H : Type} : Lit × DataW H → Nat
  | (.string bytes, d) => bytes.length + uptoBulk d + 1
  | (_, d) => uptoBulk d + 1
 end
def uptoSmall : (H : Type) → List (DataW H) → Bool := fun _ ds => decide (uptoBulkAll ds ≤ 1048576)
def OpenSpec.upto (s : _root_.Go.ChangeSpec) : _root_.Go.OpenSpec := { _root_.Go.OpenSpec.ofChange s with cond := some uptoSmall }

/-- 'clearwaylaw11.GarbleMatches', WHERE WHAT IT READS IS OF BULK AT MOST 1048576: true; the input reads as it did. -/
def garbleMatchesUptoRow : OpenClaim := { program := "ytjepihoacohboaa", sum := "4df1666e0cabdf9a3bf49dd7ce754bbb269cbf374ca17b4b475e5638a912b89a", func := "clearway/clearwaylaw11.GarbleMatches", spec := "garbleMatches", unfollowed := true, recurses := true, apart := false, narrowed := true }
def GarbleMatchesUptoSaid : Prop := garbleMatchesUptoRow.holds Try.pinned (OpenSpec.upto garbleMatchesSpec)

/-- 'clearwaylaw11.GarbleTruth', WHERE WHAT IT READS IS OF BULK AT MOST 1048576: true; the input reads as it did. -/
def garbleTruthUptoRow : OpenClaim := { program := "ytjepihoacohboaa", sum := "4df1666e0cabdf9a3bf49dd7ce754bbb269cbf374ca17b4b475e5638a912b89a", func := "clearway/clearwaylaw11.GarbleTruth", spec := "garbleTruth", unfollowed := true, recurses := true, apart := false, narrowed := true }
def GarbleTruthUptoSaid : Prop := garbleTruthUptoRow.holds Try.pinned (OpenSpec.upto garbleTruthSpec)

/-- 'clearwaylaw11.GarbleAll', WHERE WHAT IT READS IS OF BULK AT MOST 1048576: true; the input reads as it did. -/
def garbleAllUptoRow : OpenClaim := { program := "ytjepihoacohboaa", sum := "4df1666e0cabdf9a3bf49dd7ce754bbb269cbf374ca17b4b475e5638a912b89a", func := "clearway/clearwaylaw11.GarbleAll", spec := "garbleAll", unfollowed := true, recurses := true, apart := false, narrowed := true }
def GarbleAllUptoSaid : Prop := garbleAllUptoRow.holds Try.pinned (OpenSpec.upto garbleAllSpec)

/-- 'clearwaylaw11.GarbleTail', WHERE WHAT IT READS IS OF BULK AT MOST 1048576: true; the input reads as it did. -/
def garbleTailUptoRow : OpenClaim := { program := "ytjepihoacohboaa", sum := "4df1666e0cabdf9a3bf49dd7ce754bbb269cbf374ca17b4b475e5638a912b89a", func := "clearway/clearwaylaw11.GarbleTail", spec := "garbleTail", unfollowed := true, recurses := true, apart := false, narrowed := true }
def GarbleTailUptoSaid : Prop := garbleTailUptoRow.holds Try.pinned (OpenSpec.upto garbleTailSpec)

/-- 'clearwaylaw11.GarbleCertain', WHERE WHAT IT READS IS OF BULK AT MOST 1048576: true; the input reads as it did. -/
def garbleCertainUptoRow : OpenClaim := { program := "ytjepihoacohboaa", sum := "4df1666e0cabdf9a3bf49dd7ce754bbb269cbf374ca17b4b475e5638a912b89a", func := "clearway/clearwaylaw11.GarbleCertain", spec := "garbleCertain", unfollowed := true, recurses := true, apart := false, narrowed := true }
def GarbleCertainUptoSaid : Prop := garbleCertainUptoRow.holds Try.pinned (OpenSpec.upto garbleCertainSpec)

/-- 'clearwaylaw11.GarbleFits', WHERE WHAT IT READS IS OF BULK AT MOST 1048576: true; the input reads as it did. -/
def garbleFitsUptoRow : OpenClaim := { program := "ytjepihoacohboaa", sum := "4df1666e0cabdf9a3bf49dd7ce754bbb269cbf374ca17b4b475e5638a912b89a", func := "clearway/clearwaylaw11.GarbleFits", spec := "garbleFits", unfollowed := true, recurses := true, apart := false, narrowed := true }
def GarbleFitsUptoSaid : Prop := garbleFitsUptoRow.holds Try.pinned (OpenSpec.upto garbleFitsSpec)

/-- 'clearwaylaw11.GarbleExamples', WHERE WHAT IT READS IS OF BULK AT MOST 1048576: true; the input reads as it did. -/
def garbleExamplesUptoRow : OpenClaim := { program := "ytjepihoacohboaa", sum := "4df1666e0cabdf9a3bf49dd7ce754bbb269cbf374ca17b4b475e5638a912b89a", func := "clearway/clearwaylaw11.GarbleExamples", spec := "garbleExamples", unfollowed := true, recurses := true, apart := false, narrowed := true }
def GarbleExamplesUptoSaid : Prop := garbleExamplesUptoRow.holds Try.pinned (OpenSpec.upto garbleExamplesSpec)

end Rows
end Go.Proofs.Ytjepihoacohboaa
