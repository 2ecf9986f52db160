/-
  No cell of these rows narrows 'for every input' (looked for: loops, veiled, ifaces, maps, wideKeys, modest, calm, conditions, laid).
  DERIVED. THE GIVEN ROWS OF THIS SEAT. 7 by the template 'for every input the law returns true; each argument reads behind the call as it read before'; 0 by the template 'total and deterministic' (their statements: YtchmkekndbfflaaTotals.lean).
  GIVEN WITH THE SEED: the statements are not yours to turn. If you find one false, say at which input.
  Laid BY PROGRAM, IN A SANDBOX (cutbox-rows.mjs): the forced cells as the released guide's own fill.sh prints them over the translation 096f8c5c55fcfd0c… (all of the seat's roots in one cut). By AI agents, Wed Nov 11 2026. No macro, syntax, notation, axiom, sorry.
-/
import Derived.Test.YtchmkekndbfflaaChecked
import GoSem.Claim
import GoSem.ClaimJoined
import GoSem.ClaimMapViews
import Derived.JoinedTies
import Derived.KernelRfl
namespace Go.Proofs.Ytchmkekndbfflaa
/- THE CELL 'sum', in the pinned program and in every row, IS THE sha256 OF THE DUMP (.gsa) THAT YtchmkekndbfflaaProg.lean LOADS. Nothing in Lean hashes anything: it is a label: what it is worth is what the hold of that sum in a sandbox is worth. -/
noncomputable def Try.pinned : Pinned := { name := "ytchmkekndbfflaa", sum := "096f8c5c55fcfd0c5e0af92e742a884ac8f5a52cd96f3ce0c8dbc995b434662f", checked := Try.checked }
namespace Rows
def none {H : Type} : Left H := { results := [], args := [] }

/-- 'clearwaylaw33.LinkMatches': WHATEVER THE INPUT: true; the input reads as it did. -/
def linkMatchesSpec : ChangeSpec := { name := "linkMatches", fn := fun _ => fun
  | [d1, d2] => { results := [.lit (.bool true)], args := [d1, d2] }
  | _ => none }
def linkMatchesRow : OpenClaim := { program := "ytchmkekndbfflaa", sum := "096f8c5c55fcfd0c5e0af92e742a884ac8f5a52cd96f3ce0c8dbc995b434662f", func := "clearway/clearwaylaw33.LinkMatches", spec := "linkMatches", unfollowed := true, recurses := true, apart := false }
def LinkMatchesSaid : Prop := linkMatchesRow.holds Try.pinned (OpenSpec.ofChange linkMatchesSpec)

/-- ITS FALSE NEIGHBOUR: 'it returns false'. Refute it at one input. -/
def linkMatchesWrong : ChangeSpec := { name := "linkMatches", fn := fun _ => fun
  | [d1, d2] => { results := [.lit (.bool false)], args := [d1, d2] }
  | _ => none }
def LinkMatchesWrongFalsely : Prop := linkMatchesRow.holds Try.pinned (OpenSpec.ofChange linkMatchesWrong)

/-- 'clearwaylaw33.LinkLost': WHATEVER THE INPUT: true; the input reads as it did. -/
def linkLostSpec : ChangeSpec := { name := "linkLost", fn := fun _ => fun
  | [d] => { results := [.lit (.bool true)], args := [d] }
  | _ => none }
def linkLostRow : OpenClaim := { program := "ytchmkekndbfflaa", sum := "096f8c5c55fcfd0c5e0af92e742a884ac8f5a52cd96f3ce0c8dbc995b434662f", func := "clearway/clearwaylaw33.LinkLost", spec := "linkLost", unfollowed := true, recurses := true, apart := false }
def LinkLostSaid : Prop := linkLostRow.holds Try.pinned (OpenSpec.ofChange linkLostSpec)

/-- ITS FALSE NEIGHBOUR: 'it returns false'. Refute it at one input. -/
def linkLostWrong : ChangeSpec := { name := "linkLost", fn := fun _ => fun
  | [d] => { results := [.lit (.bool false)], args := [d] }
  | _ => none }
def LinkLostWrongFalsely : Prop := linkLostRow.holds Try.pinned (OpenSpec.ofChange linkLostWrong)

/-- 'clearwaylaw33.LinkExamples': WHATEVER THE INPUT: true; the input reads as it did. -/
def linkExamplesSpec : ChangeSpec := { name := "linkExamples", fn := fun _ => fun
  | [] => { results := [.lit (.bool true)], args := [] }
  | _ => none }
def linkExamplesRow : OpenClaim := { program := "ytchmkekndbfflaa", sum := "096f8c5c55fcfd0c5e0af92e742a884ac8f5a52cd96f3ce0c8dbc995b434662f", func := "clearway/clearwaylaw33.LinkExamples", spec := "linkExamples", unfollowed := true, recurses := true, apart := false }
def LinkExamplesSaid : Prop := linkExamplesRow.holds Try.pinned (OpenSpec.ofChange linkExamplesSpec)

/-- ITS FALSE NEIGHBOUR: 'it returns false'. Refute it at one input. -/
def linkExamplesWrong : ChangeSpec := { name := "linkExamples", fn := fun _ => fun
  | [] => { results := [.lit (.bool false)], args := [] }
  | _ => none }
def LinkExamplesWrongFalsely : Prop := linkExamplesRow.holds Try.pinned (OpenSpec.ofChange linkExamplesWrong)

/-- 'clearwaylaw33.LinkOnce': WHATEVER THE INPUT: true; the input reads as it did. -/
def linkOnceSpec : ChangeSpec := { name := "linkOnce", fn := fun _ => fun
  | [d1, d2] => { results := [.lit (.bool true)], args := [d1, d2] }
  | _ => none }
def linkOnceRow : OpenClaim := { program := "ytchmkekndbfflaa", sum := "096f8c5c55fcfd0c5e0af92e742a884ac8f5a52cd96f3ce0c8dbc995b434662f", func := "clearway/clearwaylaw33.LinkOnce", spec := "linkOnce", unfollowed := true, recurses := true, apart := false }
def LinkOnceSaid : Prop := linkOnceRow.holds Try.pinned (OpenSpec.ofChange linkOnceSpec)

/-- ITS FALSE NEIGHBOUR: 'it returns false'. Refute it at one input. -/
def linkOnceWrong : ChangeSpec := { name := "linkOnce", fn := fun _ => fun
  | [d1, d2] => { results := [.lit (.bool false)], args := [d1, d2] }
  | _ => none }
def LinkOnceWrongFalsely : Prop := linkOnceRow.holds Try.pinned (OpenSpec.ofChange linkOnceWrong)

/-- 'clearwaylaw33.LinkSplit': WHATEVER THE INPUT: true; the input reads as it did. -/
def linkSplitSpec : ChangeSpec := { name := "linkSplit", fn := fun _ => fun
  | [d1, d2, d3] => { results := [.lit (.bool true)], args := [d1, d2, d3] }
  | _ => none }
def linkSplitRow : OpenClaim := { program := "ytchmkekndbfflaa", sum := "096f8c5c55fcfd0c5e0af92e742a884ac8f5a52cd96f3ce0c8dbc995b434662f", func := "clearway/clearwaylaw33.LinkSplit", spec := "linkSplit", unfollowed := true, recurses := true, apart := false }
def LinkSplitSaid : Prop := linkSplitRow.holds Try.pinned (OpenSpec.ofChange linkSplitSpec)

/-- ITS FALSE NEIGHBOUR: 'it returns false'. Refute it at one input. -/
def linkSplitWrong : ChangeSpec := { name := "linkSplit", fn := fun _ => fun
  | [d1, d2, d3] => { results := [.lit (.bool false)], args := [d1, d2, d3] }
  | _ => none }
def LinkSplitWrongFalsely : Prop := linkSplitRow.holds Try.pinned (OpenSpec.ofChange linkSplitWrong)

/-- 'clearwaylaw33.LinkOrder': WHATEVER THE INPUT: true; the input reads as it did. -/
def linkOrderSpec : ChangeSpec := { name := "linkOrder", fn := fun _ => fun
  | [d1, d2] => { results := [.lit (.bool true)], args := [d1, d2] }
  | _ => none }
def linkOrderRow : OpenClaim := { program := "ytchmkekndbfflaa", sum := "096f8c5c55fcfd0c5e0af92e742a884ac8f5a52cd96f3ce0c8dbc995b434662f", func := "clearway/clearwaylaw33.LinkOrder", spec := "linkOrder", unfollowed := true, recurses := true, apart := false }
def LinkOrderSaid : Prop := linkOrderRow.holds Try.pinned (OpenSpec.ofChange linkOrderSpec)

/-- ITS FALSE NEIGHBOUR: 'it returns false'. Refute it at one input. -/
def linkOrderWrong : ChangeSpec := { name := "linkOrder", fn := fun _ => fun
  | [d1, d2] => { results := [.lit (.bool false)], args := [d1, d2] }
  | _ => none }
def LinkOrderWrongFalsely : Prop := linkOrderRow.holds Try.pinned (OpenSpec.ofChange linkOrderWrong)

/-- 'clearwaylaw33.LinkRuns': WHATEVER THE INPUT: true; the input reads as it did. -/
def linkRunsSpec : ChangeSpec := { name := "linkRuns", fn := fun _ => fun
  | [d1, d2] => { results := [.lit (.bool true)], args := [d1, d2] }
  | _ => none }
def linkRunsRow : OpenClaim := { program := "ytchmkekndbfflaa", sum := "096f8c5c55fcfd0c5e0af92e742a884ac8f5a52cd96f3ce0c8dbc995b434662f", func := "clearway/clearwaylaw33.LinkRuns", spec := "linkRuns", unfollowed := true, recurses := true, apart := false }
def LinkRunsSaid : Prop := linkRunsRow.holds Try.pinned (OpenSpec.ofChange linkRunsSpec)

/-- ITS FALSE NEIGHBOUR: 'it returns false'. Refute it at one input. -/
def linkRunsWrong : ChangeSpec := { name := "linkRuns", fn := fun _ => fun
  | [d1, d2] => { results := [.lit (.bool false)], args := [d1, d2] }
  | _ => none }
def LinkRunsWrongFalsely : Prop := linkRunsRow.holds Try.pinned (OpenSpec.ofChange linkRunsWrong)

/- THE SECOND FORM. 'bulk': how many values and letters a reading holds, each counted each time it is reached (what is shared counts as often as it is met; a slice's spare places count too). A statement '..UptoSaid' is the law's where the arguments, and the package variables that the reading takes, are together of bulk at most 1048576: NARROWER than '..Said'. Prove '..Said' where nothing that the law and all that it calls make is longer than what came in: it says more and counts as full. Else prove '..UptoSaid'. A law counts once. -/
mutual
def uptoBulk {H : Type} : DataW H → Nat
  | .lit (.string bytes) => bytes.length + 1
  | .lit _ => 1
  | .nil => 1
  | .ptr d => uptoBulk d + 1
  | .slice elems spare => uptoBulkAll elems + uptoBulkAll spare + 1
  | .agg parts => uptoBulkAll parts + 1
  | .iface _ d => uptoBulk d + 1
  | .map entries => uptoBulkEntries entries + 1
  | .held _ => 1
def uptoBulkAll {H : Type} : List (DataW H) → Nat
  | [] => 0
  | d :: r => uptoBulk d + uptoBulkAll r
def uptoBulkEntries {H : Type} : List (Lit × DataW H) → Nat
  | [] => 0
  | x :: r => uptoBulkEntry x + uptoBulkEntries r
def uptoBulkEntry {H : Type} : Lit × DataW H → Nat
  | (.string bytes, d) => bytes.length + uptoBulk d + 1
  | (_, d) => uptoBulk d + 1
 end
def uptoSmall : (H : Type) → List (DataW H) → Bool := fun _ ds => decide (uptoBulkAll ds ≤ 1048576)
def OpenSpec.upto (s : _root_.Go.ChangeSpec) : _root_.Go.OpenSpec := { _root_.Go.OpenSpec.ofChange s with cond := some uptoSmall }

/-- 'clearwaylaw33.LinkMatches', WHERE WHAT IT READS IS OF BULK AT MOST 1048576: true; the input reads as it did. -/
def linkMatchesUptoRow : OpenClaim := { program := "ytchmkekndbfflaa", sum := "096f8c5c55fcfd0c5e0af92e742a884ac8f5a52cd96f3ce0c8dbc995b434662f", func := "clearway/clearwaylaw33.LinkMatches", spec := "linkMatches", unfollowed := true, recurses := true, apart := false, narrowed := true }
def LinkMatchesUptoSaid : Prop := linkMatchesUptoRow.holds Try.pinned (OpenSpec.upto linkMatchesSpec)

/-- 'clearwaylaw33.LinkLost', WHERE WHAT IT READS IS OF BULK AT MOST 1048576: true; the input reads as it did. -/
def linkLostUptoRow : OpenClaim := { program := "ytchmkekndbfflaa", sum := "096f8c5c55fcfd0c5e0af92e742a884ac8f5a52cd96f3ce0c8dbc995b434662f", func := "clearway/clearwaylaw33.LinkLost", spec := "linkLost", unfollowed := true, recurses := true, apart := false, narrowed := true }
def LinkLostUptoSaid : Prop := linkLostUptoRow.holds Try.pinned (OpenSpec.upto linkLostSpec)

/-- 'clearwaylaw33.LinkExamples', WHERE WHAT IT READS IS OF BULK AT MOST 1048576: true; the input reads as it did. -/
def linkExamplesUptoRow : OpenClaim := { program := "ytchmkekndbfflaa", sum := "096f8c5c55fcfd0c5e0af92e742a884ac8f5a52cd96f3ce0c8dbc995b434662f", func := "clearway/clearwaylaw33.LinkExamples", spec := "linkExamples", unfollowed := true, recurses := true, apart := false, narrowed := true }
def LinkExamplesUptoSaid : Prop := linkExamplesUptoRow.holds Try.pinned (OpenSpec.upto linkExamplesSpec)

/-- 'clearwaylaw33.LinkOnce', WHERE WHAT IT READS IS OF BULK AT MOST 1048576: true; the input reads as it did. -/
def linkOnceUptoRow : OpenClaim := { program := "ytchmkekndbfflaa", sum := "096f8c5c55fcfd0c5e0af92e742a884ac8f5a52cd96f3ce0c8dbc995b434662f", func := "clearway/clearwaylaw33.LinkOnce", spec := "linkOnce", unfollowed := true, recurses := true, apart := false, narrowed := true }
def LinkOnceUptoSaid : Prop := linkOnceUptoRow.holds Try.pinned (OpenSpec.upto linkOnceSpec)

/-- 'clearwaylaw33.LinkSplit', WHERE WHAT IT READS IS OF BULK AT MOST 1048576: true; the input reads as it did. -/
def linkSplitUptoRow : OpenClaim := { program := "ytchmkekndbfflaa", sum := "096f8c5c55fcfd0c5e0af92e742a884ac8f5a52cd96f3ce0c8dbc995b434662f", func := "clearway/clearwaylaw33.LinkSplit", spec := "linkSplit", unfollowed := true, recurses := true, apart := false, narrowed := true }
def LinkSplitUptoSaid : Prop := linkSplitUptoRow.holds Try.pinned (OpenSpec.upto linkSplitSpec)

/-- 'clearwaylaw33.LinkOrder', WHERE WHAT IT READS IS OF BULK AT MOST 1048576: true; the input reads as it did. -/
def linkOrderUptoRow : OpenClaim := { program := "ytchmkekndbfflaa", sum := "096f8c5c55fcfd0c5e0af92e742a884ac8f5a52cd96f3ce0c8dbc995b434662f", func := "clearway/clearwaylaw33.LinkOrder", spec := "linkOrder", unfollowed := true, recurses := true, apart := false, narrowed := true }
def LinkOrderUptoSaid : Prop := linkOrderUptoRow.holds Try.pinned (OpenSpec.upto linkOrderSpec)

/-- 'clearwaylaw33.LinkRuns', WHERE WHAT IT READS IS OF BULK AT MOST 1048576: true; the input reads as it did. -/
def linkRunsUptoRow : OpenClaim := { program := "ytchmkekndbfflaa", sum := "096f8c5c55fcfd0c5e0af92e742a884ac8f5a52cd96f3ce0c8dbc995b434662f", func := "clearway/clearwaylaw33.LinkRuns", spec := "linkRuns", unfollowed := true, recurses := true, apart := false, narrowed := true }
def LinkRunsUptoSaid : Prop := linkRunsUptoRow.holds Try.pinned (OpenSpec.upto linkRunsSpec)

end Rows
end Go.Proofs.Ytchmkekndbfflaa
