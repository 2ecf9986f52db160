/-
  No cell of these rows narrows 'for every input' (looked for: loops, veiled, ifaces, maps, wideKeys, modest, calm, conditions, laid).
  DERIVED. THE GIVEN ROWS OF THIS SEAT. 5 by the template 'for every input the law returns true; each argument reads behind the call as it read before'; 0 by the template 'total and deterministic' (their statements: YtgcfdghbnpjpbaaTotals.lean).
  GIVEN WITH THE SEED: the statements are not yours to turn. If you find one false, say at which input.
  Laid BY PROGRAM, IN A SANDBOX (cutbox-rows.mjs): the forced cells as the released guide's own fill.sh prints them over the translation 42089c8e8307b7a1… (all of the seat's roots in one cut). By AI agents, Wed Nov 11 2026. No macro, syntax, notation, axiom, sorry.
-/
import Derived.Test.YtgcfdghbnpjpbaaChecked
import GoSem.Claim
import GoSem.ClaimJoined
import GoSem.ClaimMapViews
import Derived.JoinedTies
import Derived.KernelRfl
namespace Go.Proofs.Ytgcfdghbnpjpbaa
/- THE CELL 'sum', in the pinned program and in every row, IS THE sha256 OF THE DUMP (.gsa) THAT YtgcfdghbnpjpbaaProg.lean LOADS. Nothing in Lean hashes anything: it is a label: what it is worth is what the hold of that sum in a sandbox is worth. -/
noncomputable def Try.pinned : Pinned := { name := "ytgcfdghbnpjpbaa", sum := "42089c8e8307b7a196589c4faf438f98c0800834fb5377f673a4aba1e4830a76", checked := Try.checked }
namespace Rows
def none {H : Type} : Left H := { results := [], args := [] }

/-- 'clearwaylaw15.RollcallMatches': WHATEVER THE INPUT: true; the input reads as it did. -/
def rollcallMatchesSpec : ChangeSpec := { name := "rollcallMatches", fn := fun _ => fun
  | [d1, d2, d3] => { results := [.lit (.bool true)], args := [d1, d2, d3] }
  | _ => none }
def rollcallMatchesRow : OpenClaim := { program := "ytgcfdghbnpjpbaa", sum := "42089c8e8307b7a196589c4faf438f98c0800834fb5377f673a4aba1e4830a76", func := "clearway/clearwaylaw15.RollcallMatches", spec := "rollcallMatches", unfollowed := true, recurses := true, apart := false }
def RollcallMatchesSaid : Prop := rollcallMatchesRow.holds Try.pinned (OpenSpec.ofChange rollcallMatchesSpec)

/-- ITS FALSE NEIGHBOUR: 'it returns false'. Refute it at one input. -/
def rollcallMatchesWrong : ChangeSpec := { name := "rollcallMatches", fn := fun _ => fun
  | [d1, d2, d3] => { results := [.lit (.bool false)], args := [d1, d2, d3] }
  | _ => none }
def RollcallMatchesWrongFalsely : Prop := rollcallMatchesRow.holds Try.pinned (OpenSpec.ofChange rollcallMatchesWrong)

/-- 'clearwaylaw15.RollcallWorth': WHATEVER THE INPUT: true; the input reads as it did. -/
def rollcallWorthSpec : ChangeSpec := { name := "rollcallWorth", fn := fun _ => fun
  | [d1, d2, d3] => { results := [.lit (.bool true)], args := [d1, d2, d3] }
  | _ => none }
def rollcallWorthRow : OpenClaim := { program := "ytgcfdghbnpjpbaa", sum := "42089c8e8307b7a196589c4faf438f98c0800834fb5377f673a4aba1e4830a76", func := "clearway/clearwaylaw15.RollcallWorth", spec := "rollcallWorth", unfollowed := true, recurses := true, apart := false }
def RollcallWorthSaid : Prop := rollcallWorthRow.holds Try.pinned (OpenSpec.ofChange rollcallWorthSpec)

/-- ITS FALSE NEIGHBOUR: 'it returns false'. Refute it at one input. -/
def rollcallWorthWrong : ChangeSpec := { name := "rollcallWorth", fn := fun _ => fun
  | [d1, d2, d3] => { results := [.lit (.bool false)], args := [d1, d2, d3] }
  | _ => none }
def RollcallWorthWrongFalsely : Prop := rollcallWorthRow.holds Try.pinned (OpenSpec.ofChange rollcallWorthWrong)

/-- 'clearwaylaw15.RollcallBest': WHATEVER THE INPUT: true; the input reads as it did. -/
def rollcallBestSpec : ChangeSpec := { name := "rollcallBest", fn := fun _ => fun
  | [d1, d2, d3] => { results := [.lit (.bool true)], args := [d1, d2, d3] }
  | _ => none }
def rollcallBestRow : OpenClaim := { program := "ytgcfdghbnpjpbaa", sum := "42089c8e8307b7a196589c4faf438f98c0800834fb5377f673a4aba1e4830a76", func := "clearway/clearwaylaw15.RollcallBest", spec := "rollcallBest", unfollowed := true, recurses := true, apart := false }
def RollcallBestSaid : Prop := rollcallBestRow.holds Try.pinned (OpenSpec.ofChange rollcallBestSpec)

/-- ITS FALSE NEIGHBOUR: 'it returns false'. Refute it at one input. -/
def rollcallBestWrong : ChangeSpec := { name := "rollcallBest", fn := fun _ => fun
  | [d1, d2, d3] => { results := [.lit (.bool false)], args := [d1, d2, d3] }
  | _ => none }
def RollcallBestWrongFalsely : Prop := rollcallBestRow.holds Try.pinned (OpenSpec.ofChange rollcallBestWrong)

/-- 'clearwaylaw15.RollcallMore': WHATEVER THE INPUT: true; the input reads as it did. -/
def rollcallMoreSpec : ChangeSpec := { name := "rollcallMore", fn := fun _ => fun
  | [d1, d2, d3, d4] => { results := [.lit (.bool true)], args := [d1, d2, d3, d4] }
  | _ => none }
def rollcallMoreRow : OpenClaim := { program := "ytgcfdghbnpjpbaa", sum := "42089c8e8307b7a196589c4faf438f98c0800834fb5377f673a4aba1e4830a76", func := "clearway/clearwaylaw15.RollcallMore", spec := "rollcallMore", unfollowed := true, recurses := true, apart := false }
def RollcallMoreSaid : Prop := rollcallMoreRow.holds Try.pinned (OpenSpec.ofChange rollcallMoreSpec)

/-- ITS FALSE NEIGHBOUR: 'it returns false'. Refute it at one input. -/
def rollcallMoreWrong : ChangeSpec := { name := "rollcallMore", fn := fun _ => fun
  | [d1, d2, d3, d4] => { results := [.lit (.bool false)], args := [d1, d2, d3, d4] }
  | _ => none }
def RollcallMoreWrongFalsely : Prop := rollcallMoreRow.holds Try.pinned (OpenSpec.ofChange rollcallMoreWrong)

/-- 'clearwaylaw15.RollcallExamples': WHATEVER THE INPUT: true; the input reads as it did. -/
def rollcallExamplesSpec : ChangeSpec := { name := "rollcallExamples", fn := fun _ => fun
  | [] => { results := [.lit (.bool true)], args := [] }
  | _ => none }
def rollcallExamplesRow : OpenClaim := { program := "ytgcfdghbnpjpbaa", sum := "42089c8e8307b7a196589c4faf438f98c0800834fb5377f673a4aba1e4830a76", func := "clearway/clearwaylaw15.RollcallExamples", spec := "rollcallExamples", unfollowed := true, recurses := true, apart := false }
def RollcallExamplesSaid : Prop := rollcallExamplesRow.holds Try.pinned (OpenSpec.ofChange rollcallExamplesSpec)

/-- ITS FALSE NEIGHBOUR: 'it returns false'. Refute it at one input. -/
def rollcallExamplesWrong : ChangeSpec := { name := "rollcallExamples", fn := fun _ => fun
  | [] => { results := [.lit (.bool false)], args := [] }
  | _ => none }
def RollcallExamplesWrongFalsely : Prop := rollcallExamplesRow.holds Try.pinned (OpenSpec.ofChange rollcallExamplesWrong)

/- THE SECOND FORM. 'bulk': how many values and letters a reading holds, each counted each time it is reached (what is shared counts as often as it is met; a slice's spare places count too). A statement '..UptoSaid' is the law's where the arguments, and the package variables that the reading takes, are together of bulk at most 1048576: NARROWER than '..Said'. Prove '..Said' where nothing that the law and all that it calls make is longer than what came in: it says more and counts as full. Else prove '..UptoSaid'. A law counts once. -/
mutual
def uptoBulk {H : Type} : DataW H → Nat
  | .lit (.string bytes) => bytes.length + 1
  | .lit _ => 1
  | .nil => 1
  | .ptr d => uptoBulk d + 1
  | .slice elems spare => uptoBulkAll elems + uptoBulkAll spare + 1
  | .agg parts => uptoBulkAll parts + 1
  | .iface _ d => uptoBulk d + 1
  | .map entries => uptoBulkEntries entries + 1
  | .held _ => 1
def uptoBulkAll {H : Type} : List (DataW H) → Nat
  | [] => 0
  | d :: r => uptoBulk d + uptoBulkAll r
def uptoBulkEntries {H : Type} : List (Lit × DataW H) → Nat
  | [] => 0
  | x :: r => uptoBulkEntry x + uptoBulkEntries r
def uptoBulkEntry {H : Type} : Lit × DataW H → Nat
  | (.string bytes, d) => bytes.length + uptoBulk d + 1
  | (_, d) => uptoBulk d + 1
 end
def uptoSmall : (H : Type) → List (DataW H) → Bool := fun _ ds => decide (uptoBulkAll ds ≤ 1048576)
def OpenSpec.upto (s : _root_.Go.ChangeSpec) : _root_.Go.OpenSpec := { _root_.Go.OpenSpec.ofChange s with cond := some uptoSmall }

/-- 'clearwaylaw15.RollcallMatches', WHERE WHAT IT READS IS OF BULK AT MOST 1048576: true; the input reads as it did. -/
def rollcallMatchesUptoRow : OpenClaim := { program := "ytgcfdghbnpjpbaa", sum := "42089c8e8307b7a196589c4faf438f98c0800834fb5377f673a4aba1e4830a76", func := "clearway/clearwaylaw15.RollcallMatches", spec := "rollcallMatches", unfollowed := true, recurses := true, apart := false, narrowed := true }
def RollcallMatchesUptoSaid : Prop := rollcallMatchesUptoRow.holds Try.pinned (OpenSpec.upto rollcallMatchesSpec)

/-- 'clearwaylaw15.RollcallWorth', WHERE WHAT IT READS IS OF BULK AT MOST 1048576: true; the input reads as it did. -/
def rollcallWorthUptoRow : OpenClaim := { program := "ytgcfdghbnpjpbaa", sum := "42089c8e8307b7a196589c4faf438f98c0800834fb5377f673a4aba1e4830a76", func := "clearway/clearwaylaw15.RollcallWorth", spec := "rollcallWorth", unfollowed := true, recurses := true, apart := false, narrowed := true }
def RollcallWorthUptoSaid : Prop := rollcallWorthUptoRow.holds Try.pinned (OpenSpec.upto rollcallWorthSpec)

/-- 'clearwaylaw15.RollcallBest', WHERE WHAT IT READS IS OF BULK AT MOST 1048576: true; the input reads as it did. -/
def rollcallBestUptoRow : OpenClaim := { program := "ytgcfdghbnpjpbaa", sum := "42089c8e8307b7a196589c4faf438f98c0800834fb5377f673a4aba1e4830a76", func := "clearway/clearwaylaw15.RollcallBest", spec := "rollcallBest", unfollowed := true, recurses := true, apart := false, narrowed := true }
def RollcallBestUptoSaid : Prop := rollcallBestUptoRow.holds Try.pinned (OpenSpec.upto rollcallBestSpec)

/-- 'clearwaylaw15.RollcallMore', WHERE WHAT IT READS IS OF BULK AT MOST 1048576: true; the input reads as it did. -/
def rollcallMoreUptoRow : OpenClaim := { program := "ytgcfdghbnpjpbaa", sum := "42089c8e8307b7a196589c4faf438f98c0800834fb5377f673a4aba1e4830a76", func := "clearway/clearwaylaw15.RollcallMore", spec := "rollcallMore", unfollowed := true, recurses := true, apart := false, narrowed := true }
def RollcallMoreUptoSaid : Prop := rollcallMoreUptoRow.holds Try.pinned (OpenSpec.upto rollcallMoreSpec)

/-- 'clearwaylaw15.RollcallExamples', WHERE WHAT IT READS IS OF BULK AT MOST 1048576: true; the input reads as it did. -/
def rollcallExamplesUptoRow : OpenClaim := { program := "ytgcfdghbnpjpbaa", sum := "42089c8e8307b7a196589c4faf438f98c0800834fb5377f673a4aba1e4830a76", func := "clearway/clearwaylaw15.RollcallExamples", spec := "rollcallExamples", unfollowed := true, recurses := true, apart := false, narrowed := true }
def RollcallExamplesUptoSaid : Prop := rollcallExamplesUptoRow.holds Try.pinned (OpenSpec.upto rollcallExamplesSpec)

end Rows
end Go.Proofs.Ytgcfdghbnpjpbaa
