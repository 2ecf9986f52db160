/-
  No cell of these rows narrows 'for every input' (looked for: loops, veiled, ifaces, maps, wideKeys, modest, calm, conditions, laid).
  DERIVED. THE GIVEN ROWS OF THIS SEAT. 7 by the template 'for every input the law returns true; each argument reads behind the call as it read before'; 0 by the template 'total and deterministic' (their statements: YtlmdgmppeacobaaGreatTotals.lean).
  GIVEN WITH THE SEED: the statements are not yours to turn. If you find one false, say at which input.
  Laid BY PROGRAM, IN A SANDBOX (cutbox-rows.mjs): the forced cells as the released guide's own fill.sh prints them over the translation 3184a3d33b9ce8e8… (all of the seat's roots in one cut). By AI agents, Wed Nov 11 2026. No macro, syntax, notation, axiom, sorry.
-/
import Derived.Test.YtlmdgmppeacobaaGreatChecked
import GoSem.Claim
import GoSem.ClaimJoined
import GoSem.ClaimMapViews
import Derived.JoinedTies
import Derived.KernelRfl
namespace Go.Proofs.YtlmdgmppeacobaaGreat
/- THE CELL 'sum', in the pinned program and in every row, IS THE sha256 OF THE DUMP (.gsa) THAT YtlmdgmppeacobaaGreatProg.lean LOADS. Nothing in Lean hashes anything: it is a label: what it is worth is what the hold of that sum in a sandbox is worth. -/
noncomputable def Tryz.pinned : Pinned := { name := "ytlmdgmppeacobaagreat", sum := "3184a3d33b9ce8e81bd4a60ba22698ad80da3afa6a79e7fc542130f50743dcf4", checked := Tryz.checked }
namespace Rows
def none {H : Type} : Left H := { results := [], args := [] }

/-- 'clearwaylaw31.MergeCosts': WHATEVER THE INPUT: true; the input reads as it did. -/
def mergeCostsSpec : ChangeSpec := { name := "mergeCosts", fn := fun _ => fun
  | [d1, d2] => { results := [.lit (.bool true)], args := [d1, d2] }
  | _ => none }
def mergeCostsRow : OpenClaim := { program := "ytlmdgmppeacobaagreat", sum := "3184a3d33b9ce8e81bd4a60ba22698ad80da3afa6a79e7fc542130f50743dcf4", func := "clearway/clearwaylaw31.MergeCosts", spec := "mergeCosts", unfollowed := true, recurses := true, apart := false }
def MergeCostsSaid : Prop := mergeCostsRow.holds Tryz.pinned (OpenSpec.ofChange mergeCostsSpec)

/-- ITS FALSE NEIGHBOUR: 'it returns false'. Refute it at one input. -/
def mergeCostsWrong : ChangeSpec := { name := "mergeCosts", fn := fun _ => fun
  | [d1, d2] => { results := [.lit (.bool false)], args := [d1, d2] }
  | _ => none }
def MergeCostsWrongFalsely : Prop := mergeCostsRow.holds Tryz.pinned (OpenSpec.ofChange mergeCostsWrong)

/-- 'clearwaylaw31.MergeChoices': WHATEVER THE INPUT: true; the input reads as it did. -/
def mergeChoicesSpec : ChangeSpec := { name := "mergeChoices", fn := fun _ => fun
  | [d1, d2] => { results := [.lit (.bool true)], args := [d1, d2] }
  | _ => none }
def mergeChoicesRow : OpenClaim := { program := "ytlmdgmppeacobaagreat", sum := "3184a3d33b9ce8e81bd4a60ba22698ad80da3afa6a79e7fc542130f50743dcf4", func := "clearway/clearwaylaw31.MergeChoices", spec := "mergeChoices", unfollowed := true, recurses := true, apart := false }
def MergeChoicesSaid : Prop := mergeChoicesRow.holds Tryz.pinned (OpenSpec.ofChange mergeChoicesSpec)

/-- ITS FALSE NEIGHBOUR: 'it returns false'. Refute it at one input. -/
def mergeChoicesWrong : ChangeSpec := { name := "mergeChoices", fn := fun _ => fun
  | [d1, d2] => { results := [.lit (.bool false)], args := [d1, d2] }
  | _ => none }
def MergeChoicesWrongFalsely : Prop := mergeChoicesRow.holds Tryz.pinned (OpenSpec.ofChange mergeChoicesWrong)

/-- 'clearwaylaw31.MergeExamples': WHATEVER THE INPUT: true; the input reads as it did. -/
def mergeExamplesSpec : ChangeSpec := { name := "mergeExamples", fn := fun _ => fun
  | [] => { results := [.lit (.bool true)], args := [] }
  | _ => none }
def mergeExamplesRow : OpenClaim := { program := "ytlmdgmppeacobaagreat", sum := "3184a3d33b9ce8e81bd4a60ba22698ad80da3afa6a79e7fc542130f50743dcf4", func := "clearway/clearwaylaw31.MergeExamples", spec := "mergeExamples", unfollowed := true, recurses := true, apart := false }
def MergeExamplesSaid : Prop := mergeExamplesRow.holds Tryz.pinned (OpenSpec.ofChange mergeExamplesSpec)

/-- ITS FALSE NEIGHBOUR: 'it returns false'. Refute it at one input. -/
def mergeExamplesWrong : ChangeSpec := { name := "mergeExamples", fn := fun _ => fun
  | [] => { results := [.lit (.bool false)], args := [] }
  | _ => none }
def MergeExamplesWrongFalsely : Prop := mergeExamplesRow.holds Tryz.pinned (OpenSpec.ofChange mergeExamplesWrong)

/-- 'clearwaylaw31.MergeTurned': WHATEVER THE INPUT: true; the input reads as it did. -/
def mergeTurnedSpec : ChangeSpec := { name := "mergeTurned", fn := fun _ => fun
  | [d1, d2, d3] => { results := [.lit (.bool true)], args := [d1, d2, d3] }
  | _ => none }
def mergeTurnedRow : OpenClaim := { program := "ytlmdgmppeacobaagreat", sum := "3184a3d33b9ce8e81bd4a60ba22698ad80da3afa6a79e7fc542130f50743dcf4", func := "clearway/clearwaylaw31.MergeTurned", spec := "mergeTurned", unfollowed := true, recurses := true, apart := false }
def MergeTurnedSaid : Prop := mergeTurnedRow.holds Tryz.pinned (OpenSpec.ofChange mergeTurnedSpec)

/-- ITS FALSE NEIGHBOUR: 'it returns false'. Refute it at one input. -/
def mergeTurnedWrong : ChangeSpec := { name := "mergeTurned", fn := fun _ => fun
  | [d1, d2, d3] => { results := [.lit (.bool false)], args := [d1, d2, d3] }
  | _ => none }
def MergeTurnedWrongFalsely : Prop := mergeTurnedRow.holds Tryz.pinned (OpenSpec.ofChange mergeTurnedWrong)

/-- 'clearwaylaw31.MergeInside': WHATEVER THE INPUT: true; the input reads as it did. -/
def mergeInsideSpec : ChangeSpec := { name := "mergeInside", fn := fun _ => fun
  | [d1, d2] => { results := [.lit (.bool true)], args := [d1, d2] }
  | _ => none }
def mergeInsideRow : OpenClaim := { program := "ytlmdgmppeacobaagreat", sum := "3184a3d33b9ce8e81bd4a60ba22698ad80da3afa6a79e7fc542130f50743dcf4", func := "clearway/clearwaylaw31.MergeInside", spec := "mergeInside", unfollowed := true, recurses := true, apart := false }
def MergeInsideSaid : Prop := mergeInsideRow.holds Tryz.pinned (OpenSpec.ofChange mergeInsideSpec)

/-- ITS FALSE NEIGHBOUR: 'it returns false'. Refute it at one input. -/
def mergeInsideWrong : ChangeSpec := { name := "mergeInside", fn := fun _ => fun
  | [d1, d2] => { results := [.lit (.bool false)], args := [d1, d2] }
  | _ => none }
def MergeInsideWrongFalsely : Prop := mergeInsideRow.holds Tryz.pinned (OpenSpec.ofChange mergeInsideWrong)

/-- 'clearwaylaw31.MergeDominates': WHATEVER THE INPUT: true; the input reads as it did. -/
def mergeDominatesSpec : ChangeSpec := { name := "mergeDominates", fn := fun _ => fun
  | [d1, d2] => { results := [.lit (.bool true)], args := [d1, d2] }
  | _ => none }
def mergeDominatesRow : OpenClaim := { program := "ytlmdgmppeacobaagreat", sum := "3184a3d33b9ce8e81bd4a60ba22698ad80da3afa6a79e7fc542130f50743dcf4", func := "clearway/clearwaylaw31.MergeDominates", spec := "mergeDominates", unfollowed := true, recurses := true, apart := false }
def MergeDominatesSaid : Prop := mergeDominatesRow.holds Tryz.pinned (OpenSpec.ofChange mergeDominatesSpec)

/-- ITS FALSE NEIGHBOUR: 'it returns false'. Refute it at one input. -/
def mergeDominatesWrong : ChangeSpec := { name := "mergeDominates", fn := fun _ => fun
  | [d1, d2] => { results := [.lit (.bool false)], args := [d1, d2] }
  | _ => none }
def MergeDominatesWrongFalsely : Prop := mergeDominatesRow.holds Tryz.pinned (OpenSpec.ofChange mergeDominatesWrong)

/-- 'clearwaylaw31.MergeSingle': WHATEVER THE INPUT: true; the input reads as it did. -/
def mergeSingleSpec : ChangeSpec := { name := "mergeSingle", fn := fun _ => fun
  | [d1, d2, d3] => { results := [.lit (.bool true)], args := [d1, d2, d3] }
  | _ => none }
def mergeSingleRow : OpenClaim := { program := "ytlmdgmppeacobaagreat", sum := "3184a3d33b9ce8e81bd4a60ba22698ad80da3afa6a79e7fc542130f50743dcf4", func := "clearway/clearwaylaw31.MergeSingle", spec := "mergeSingle", unfollowed := true, recurses := true, apart := false }
def MergeSingleSaid : Prop := mergeSingleRow.holds Tryz.pinned (OpenSpec.ofChange mergeSingleSpec)

/-- ITS FALSE NEIGHBOUR: 'it returns false'. Refute it at one input. -/
def mergeSingleWrong : ChangeSpec := { name := "mergeSingle", fn := fun _ => fun
  | [d1, d2, d3] => { results := [.lit (.bool false)], args := [d1, d2, d3] }
  | _ => none }
def MergeSingleWrongFalsely : Prop := mergeSingleRow.holds Tryz.pinned (OpenSpec.ofChange mergeSingleWrong)

/- THE SECOND FORM. 'bulk': how many values and letters a reading holds, each counted each time it is reached (what is shared counts as often as it is met; a slice's spare places count too). A statement '..UptoSaid' is the law's where the arguments, and the package variables that the reading takes, are together of bulk at most 1048576: NARROWER than '..Said'. Prove '..Said' where nothing that the law and all that it calls make is longer than what came in: it says more and counts as full. Else prove '..UptoSaid'. A law counts once. -/
mutual
def uptoBulk {H : Type} : DataW H → Nat
  | .lit (.string bytes) => bytes.length + 1
  | .lit _ => 1
  | .nil => 1
  | .ptr d => uptoBulk d + 1
  | .slice elems spare => uptoBulkAll elems + uptoBulkAll spare + 1
  | .agg parts => uptoBulkAll parts + 1
  | .iface _ d => uptoBulk d + 1
  | .map entries => uptoBulkEntries entries + 1
  | .held _ => 1
def uptoBulkAll {H : Type} : List (DataW H) → Nat
  | [] => 0
  | d :: r => uptoBulk d + uptoBulkAll r
def uptoBulkEntries {H : Type} : List (Lit × DataW H) → Nat
  | [] => 0
  | x :: r => uptoBulkEntry x + uptoBulkEntries r
def uptoBulkEntry {H : Type} : Lit × DataW H → Nat
  | (.string bytes, d) => bytes.length + uptoBulk d + 1
  | (_, d) => uptoBulk d + 1
 end
def uptoSmall : (H : Type) → List (DataW H) → Bool := fun _ ds => decide (uptoBulkAll ds ≤ 1048576)
def OpenSpec.upto (s : _root_.Go.ChangeSpec) : _root_.Go.OpenSpec := { _root_.Go.OpenSpec.ofChange s with cond := some uptoSmall }

/-- 'clearwaylaw31.MergeCosts', WHERE WHAT IT READS IS OF BULK AT MOST 1048576: true; the input reads as it did. -/
def mergeCostsUptoRow : OpenClaim := { program := "ytlmdgmppeacobaagreat", sum := "3184a3d33b9ce8e81bd4a60ba22698ad80da3afa6a79e7fc542130f50743dcf4", func := "clearway/clearwaylaw31.MergeCosts", spec := "mergeCosts", unfollowed := true, recurses := true, apart := false, narrowed := true }
def MergeCostsUptoSaid : Prop := mergeCostsUptoRow.holds Tryz.pinned (OpenSpec.upto mergeCostsSpec)

/-- 'clearwaylaw31.MergeChoices', WHERE WHAT IT READS IS OF BULK AT MOST 1048576: true; the input reads as it did. -/
def mergeChoicesUptoRow : OpenClaim := { program := "ytlmdgmppeacobaagreat", sum := "3184a3d33b9ce8e81bd4a60ba22698ad80da3afa6a79e7fc542130f50743dcf4", func := "clearway/clearwaylaw31.MergeChoices", spec := "mergeChoices", unfollowed := true, recurses := true, apart := false, narrowed := true }
def MergeChoicesUptoSaid : Prop := mergeChoicesUptoRow.holds Tryz.pinned (OpenSpec.upto mergeChoicesSpec)

/-- 'clearwaylaw31.MergeExamples', WHERE WHAT IT READS IS OF BULK AT MOST 1048576: true; the input reads as it did. -/
def mergeExamplesUptoRow : OpenClaim := { program := "ytlmdgmppeacobaagreat", sum := "3184a3d33b9ce8e81bd4a60ba22698ad80da3afa6a79e7fc542130f50743dcf4", func := "clearway/clearwaylaw31.MergeExamples", spec := "mergeExamples", unfollowed := true, recurses := true, apart := false, narrowed := true }
def MergeExamplesUptoSaid : Prop := mergeExamplesUptoRow.holds Tryz.pinned (OpenSpec.upto mergeExamplesSpec)

/-- 'clearwaylaw31.MergeTurned', WHERE WHAT IT READS IS OF BULK AT MOST 1048576: true; the input reads as it did. -/
def mergeTurnedUptoRow : OpenClaim := { program := "ytlmdgmppeacobaagreat", sum := "3184a3d33b9ce8e81bd4a60ba22698ad80da3afa6a79e7fc542130f50743dcf4", func := "clearway/clearwaylaw31.MergeTurned", spec := "mergeTurned", unfollowed := true, recurses := true, apart := false, narrowed := true }
def MergeTurnedUptoSaid : Prop := mergeTurnedUptoRow.holds Tryz.pinned (OpenSpec.upto mergeTurnedSpec)

/-- 'clearwaylaw31.MergeInside', WHERE WHAT IT READS IS OF BULK AT MOST 1048576: true; the input reads as it did. -/
def mergeInsideUptoRow : OpenClaim := { program := "ytlmdgmppeacobaagreat", sum := "3184a3d33b9ce8e81bd4a60ba22698ad80da3afa6a79e7fc542130f50743dcf4", func := "clearway/clearwaylaw31.MergeInside", spec := "mergeInside", unfollowed := true, recurses := true, apart := false, narrowed := true }
def MergeInsideUptoSaid : Prop := mergeInsideUptoRow.holds Tryz.pinned (OpenSpec.upto mergeInsideSpec)

/-- 'clearwaylaw31.MergeDominates', WHERE WHAT IT READS IS OF BULK AT MOST 1048576: true; the input reads as it did. -/
def mergeDominatesUptoRow : OpenClaim := { program := "ytlmdgmppeacobaagreat", sum := "3184a3d33b9ce8e81bd4a60ba22698ad80da3afa6a79e7fc542130f50743dcf4", func := "clearway/clearwaylaw31.MergeDominates", spec := "mergeDominates", unfollowed := true, recurses := true, apart := false, narrowed := true }
def MergeDominatesUptoSaid : Prop := mergeDominatesUptoRow.holds Tryz.pinned (OpenSpec.upto mergeDominatesSpec)

/-- 'clearwaylaw31.MergeSingle', WHERE WHAT IT READS IS OF BULK AT MOST 1048576: true; the input reads as it did. -/
def mergeSingleUptoRow : OpenClaim := { program := "ytlmdgmppeacobaagreat", sum := "3184a3d33b9ce8e81bd4a60ba22698ad80da3afa6a79e7fc542130f50743dcf4", func := "clearway/clearwaylaw31.MergeSingle", spec := "mergeSingle", unfollowed := true, recurses := true, apart := false, narrowed := true }
def MergeSingleUptoSaid : Prop := mergeSingleUptoRow.holds Tryz.pinned (OpenSpec.upto mergeSingleSpec)

end Rows
end Go.Proofs.YtlmdgmppeacobaaGreat
