/-
  NARROWER THAN 'FOR EVERY INPUT', by the rows' own cells (each row's printed sentence says how): PulseMakes: laid · PulseFinds: laid · PulseReads: laid · PulseMerges: laid · PulseGrows: laid · PulseExamples: laid.
  DERIVED. THE GIVEN ROWS OF THIS SEAT. 6 by the template 'for every input the law returns true; each argument reads behind the call as it read before'; 0 by the template 'total and deterministic' (their statements: YtnfimkmjjjbopaaDoorTotals.lean).
  GIVEN WITH THE SEED: the statements are not yours to turn. If you find one false, say at which input.
  Laid BY PROGRAM, IN A SANDBOX (cutbox-rows.mjs): the forced cells as the released guide's own fill.sh prints them over the translation 81fd66bd2afbaa44… (all of the seat's roots in one cut). By AI agents, Wed Nov 11 2026. No macro, syntax, notation, axiom, sorry.
-/
import Derived.Test.YtnfimkmjjjbopaaDoorChecked
import GoSem.Claim
import GoSem.ClaimJoined
import GoSem.ClaimMapViews
import Derived.JoinedTies
import Derived.KernelRfl
namespace Go.Proofs.YtnfimkmjjjbopaaDoor
/- THE CELL 'sum', in the pinned program and in every row, IS THE sha256 OF THE DUMP (.gsa) THAT YtnfimkmjjjbopaaDoorProg.lean LOADS. Nothing in Lean hashes anything: it is a label: what it is worth is what the hold of that sum in a sandbox is worth. -/
noncomputable def Tryd.pinned : Pinned := { name := "ytnfimkmjjjbopaadoor", sum := "81fd66bd2afbaa44bf6e97fc8aaa924c85e85e4164e3e7aa752eec352847fd0e", checked := Tryd.checked }
namespace Rows
def none {H : Type} : Left H := { results := [], args := [] }

/- WHAT THE LISTED PACKAGE-LEVEL VARIABLES READ AS WHEN THE CALL BEGINS. Each datum BY PROGRAM (the guide's laid-datum.mjs) off the statement by which the dump's own 'gosem.cut.vars' lays the variable. In a bare row this is a premise. The card (YtnfimkmjjjbopaaDoorCards.lean) ties it to the program's text. -/
def laid_clearway_pulse_preamble {H : Type} : DataW H := .agg [.lit (.int .i64 0), .lit (.int .i64 2), .lit (.int .i64 7), .lit (.int .i64 9)]

/-- 'clearwaylaw10.PulseMakes': WHATEVER THE INPUT: true; the input reads as it did. -/
def pulseMakesSpec : ChangeSpec := { name := "pulseMakes", fn := fun _ => fun
  | [d1, d2, d3] => { results := [.lit (.bool true)], args := [d1, d2, d3] }
  | _ => none }
def pulseMakesRow : OpenClaim := { program := "ytnfimkmjjjbopaadoor", sum := "81fd66bd2afbaa44bf6e97fc8aaa924c85e85e4164e3e7aa752eec352847fd0e", func := "clearway/clearwaylaw10.PulseMakes", spec := "pulseMakes", unfollowed := true, recurses := true, named := ["clearway/pulse.preamble"], apart := false, laid := [("clearway/pulse.preamble", laid_clearway_pulse_preamble)] }
def PulseMakesSaid : Prop := pulseMakesRow.holds Tryd.pinned (OpenSpec.ofChange pulseMakesSpec)

/-- ITS FALSE NEIGHBOUR: 'it returns false'. Refute it at one input. -/
def pulseMakesWrong : ChangeSpec := { name := "pulseMakes", fn := fun _ => fun
  | [d1, d2, d3] => { results := [.lit (.bool false)], args := [d1, d2, d3] }
  | _ => none }
def PulseMakesWrongFalsely : Prop := pulseMakesRow.holds Tryd.pinned (OpenSpec.ofChange pulseMakesWrong)

/-- 'clearwaylaw10.PulseFinds': WHATEVER THE INPUT: true; the input reads as it did. -/
def pulseFindsSpec : ChangeSpec := { name := "pulseFinds", fn := fun _ => fun
  | [d1, d2, d3] => { results := [.lit (.bool true)], args := [d1, d2, d3] }
  | _ => none }
def pulseFindsRow : OpenClaim := { program := "ytnfimkmjjjbopaadoor", sum := "81fd66bd2afbaa44bf6e97fc8aaa924c85e85e4164e3e7aa752eec352847fd0e", func := "clearway/clearwaylaw10.PulseFinds", spec := "pulseFinds", unfollowed := true, recurses := true, named := ["clearway/pulse.preamble"], apart := false, laid := [("clearway/pulse.preamble", laid_clearway_pulse_preamble)] }
def PulseFindsSaid : Prop := pulseFindsRow.holds Tryd.pinned (OpenSpec.ofChange pulseFindsSpec)

/-- ITS FALSE NEIGHBOUR: 'it returns false'. Refute it at one input. -/
def pulseFindsWrong : ChangeSpec := { name := "pulseFinds", fn := fun _ => fun
  | [d1, d2, d3] => { results := [.lit (.bool false)], args := [d1, d2, d3] }
  | _ => none }
def PulseFindsWrongFalsely : Prop := pulseFindsRow.holds Tryd.pinned (OpenSpec.ofChange pulseFindsWrong)

/-- 'clearwaylaw10.PulseReads': WHATEVER THE INPUT: true; the input reads as it did. -/
def pulseReadsSpec : ChangeSpec := { name := "pulseReads", fn := fun _ => fun
  | [d1, d2] => { results := [.lit (.bool true)], args := [d1, d2] }
  | _ => none }
def pulseReadsRow : OpenClaim := { program := "ytnfimkmjjjbopaadoor", sum := "81fd66bd2afbaa44bf6e97fc8aaa924c85e85e4164e3e7aa752eec352847fd0e", func := "clearway/clearwaylaw10.PulseReads", spec := "pulseReads", unfollowed := true, recurses := true, named := ["clearway/pulse.preamble"], apart := false, laid := [("clearway/pulse.preamble", laid_clearway_pulse_preamble)] }
def PulseReadsSaid : Prop := pulseReadsRow.holds Tryd.pinned (OpenSpec.ofChange pulseReadsSpec)

/-- ITS FALSE NEIGHBOUR: 'it returns false'. Refute it at one input. -/
def pulseReadsWrong : ChangeSpec := { name := "pulseReads", fn := fun _ => fun
  | [d1, d2] => { results := [.lit (.bool false)], args := [d1, d2] }
  | _ => none }
def PulseReadsWrongFalsely : Prop := pulseReadsRow.holds Tryd.pinned (OpenSpec.ofChange pulseReadsWrong)

/-- 'clearwaylaw10.PulseMerges': WHATEVER THE INPUT: true; the input reads as it did. -/
def pulseMergesSpec : ChangeSpec := { name := "pulseMerges", fn := fun _ => fun
  | [d1, d2, d3, d4] => { results := [.lit (.bool true)], args := [d1, d2, d3, d4] }
  | _ => none }
def pulseMergesRow : OpenClaim := { program := "ytnfimkmjjjbopaadoor", sum := "81fd66bd2afbaa44bf6e97fc8aaa924c85e85e4164e3e7aa752eec352847fd0e", func := "clearway/clearwaylaw10.PulseMerges", spec := "pulseMerges", unfollowed := true, recurses := true, named := ["clearway/pulse.preamble"], apart := false, laid := [("clearway/pulse.preamble", laid_clearway_pulse_preamble)] }
def PulseMergesSaid : Prop := pulseMergesRow.holds Tryd.pinned (OpenSpec.ofChange pulseMergesSpec)

/-- ITS FALSE NEIGHBOUR: 'it returns false'. Refute it at one input. -/
def pulseMergesWrong : ChangeSpec := { name := "pulseMerges", fn := fun _ => fun
  | [d1, d2, d3, d4] => { results := [.lit (.bool false)], args := [d1, d2, d3, d4] }
  | _ => none }
def PulseMergesWrongFalsely : Prop := pulseMergesRow.holds Tryd.pinned (OpenSpec.ofChange pulseMergesWrong)

/-- 'clearwaylaw10.PulseGrows': WHATEVER THE INPUT: true; the input reads as it did. -/
def pulseGrowsSpec : ChangeSpec := { name := "pulseGrows", fn := fun _ => fun
  | [d1, d2, d3, d4] => { results := [.lit (.bool true)], args := [d1, d2, d3, d4] }
  | _ => none }
def pulseGrowsRow : OpenClaim := { program := "ytnfimkmjjjbopaadoor", sum := "81fd66bd2afbaa44bf6e97fc8aaa924c85e85e4164e3e7aa752eec352847fd0e", func := "clearway/clearwaylaw10.PulseGrows", spec := "pulseGrows", unfollowed := true, recurses := true, named := ["clearway/pulse.preamble"], apart := false, laid := [("clearway/pulse.preamble", laid_clearway_pulse_preamble)] }
def PulseGrowsSaid : Prop := pulseGrowsRow.holds Tryd.pinned (OpenSpec.ofChange pulseGrowsSpec)

/-- ITS FALSE NEIGHBOUR: 'it returns false'. Refute it at one input. -/
def pulseGrowsWrong : ChangeSpec := { name := "pulseGrows", fn := fun _ => fun
  | [d1, d2, d3, d4] => { results := [.lit (.bool false)], args := [d1, d2, d3, d4] }
  | _ => none }
def PulseGrowsWrongFalsely : Prop := pulseGrowsRow.holds Tryd.pinned (OpenSpec.ofChange pulseGrowsWrong)

/-- 'clearwaylaw10.PulseExamples': WHATEVER THE INPUT: true; the input reads as it did. -/
def pulseExamplesSpec : ChangeSpec := { name := "pulseExamples", fn := fun _ => fun
  | [] => { results := [.lit (.bool true)], args := [] }
  | _ => none }
def pulseExamplesRow : OpenClaim := { program := "ytnfimkmjjjbopaadoor", sum := "81fd66bd2afbaa44bf6e97fc8aaa924c85e85e4164e3e7aa752eec352847fd0e", func := "clearway/clearwaylaw10.PulseExamples", spec := "pulseExamples", unfollowed := true, recurses := true, named := ["clearway/pulse.preamble"], apart := false, laid := [("clearway/pulse.preamble", laid_clearway_pulse_preamble)] }
def PulseExamplesSaid : Prop := pulseExamplesRow.holds Tryd.pinned (OpenSpec.ofChange pulseExamplesSpec)

/-- ITS FALSE NEIGHBOUR: 'it returns false'. Refute it at one input. -/
def pulseExamplesWrong : ChangeSpec := { name := "pulseExamples", fn := fun _ => fun
  | [] => { results := [.lit (.bool false)], args := [] }
  | _ => none }
def PulseExamplesWrongFalsely : Prop := pulseExamplesRow.holds Tryd.pinned (OpenSpec.ofChange pulseExamplesWrong)

/- THE SECOND FORM. 'bulk': how many values and letters a reading holds, each counted each time it is reached (what is shared counts as often as it is met; a slice's spare places count too). A statement '..UptoSaid' is the law's where the arguments, and the package variables that the reading takes, are together of bulk at most 1048576: NARROWER than '..Said'. Prove '..Said' where nothing that the law and all that it calls make is longer than what came in: it says more and counts as full. Else prove '..UptoSaid'. A law counts once. -/
mutual
def uptoBulk {H : Type} : DataW H → Nat
  | .lit (.string bytes) => bytes.length + 1
  | .lit _ => 1
  | .nil => 1
  | .ptr d => uptoBulk d + 1
  | .slice elems spare => uptoBulkAll elems + uptoBulkAll spare + 1
  | .agg parts => uptoBulkAll parts + 1
  | .iface _ d => uptoBulk d + 1
  | .map entries => uptoBulkEntries entries + 1
  | .held _ => 1
def uptoBulkAll {H : Type} : List (DataW H) → Nat
  | [] => 0
  | d :: r => uptoBulk d + uptoBulkAll r
def uptoBulkEntries {H : Type} : List (Lit × DataW H) → Nat
  | [] => 0
  | x :: r => uptoBulkEntry x + uptoBulkEntries r
def uptoBulkEntry {H : Type} : Lit × DataW H → Nat
  | (.string bytes, d) => bytes.length + uptoBulk d + 1
  | (_, d) => uptoBulk d + 1
 end
def uptoSmall : (H : Type) → List (DataW H) → Bool := fun _ ds => decide (uptoBulkAll ds ≤ 1048576)
def OpenSpec.upto (s : _root_.Go.ChangeSpec) : _root_.Go.OpenSpec := { _root_.Go.OpenSpec.ofChange s with cond := some uptoSmall }

/-- 'clearwaylaw10.PulseMakes', WHERE WHAT IT READS IS OF BULK AT MOST 1048576: true; the input reads as it did. -/
def pulseMakesUptoRow : OpenClaim := { program := "ytnfimkmjjjbopaadoor", sum := "81fd66bd2afbaa44bf6e97fc8aaa924c85e85e4164e3e7aa752eec352847fd0e", func := "clearway/clearwaylaw10.PulseMakes", spec := "pulseMakes", unfollowed := true, recurses := true, named := ["clearway/pulse.preamble"], apart := false, laid := [("clearway/pulse.preamble", laid_clearway_pulse_preamble)], narrowed := true }
def PulseMakesUptoSaid : Prop := pulseMakesUptoRow.holds Tryd.pinned (OpenSpec.upto pulseMakesSpec)

/-- 'clearwaylaw10.PulseFinds', WHERE WHAT IT READS IS OF BULK AT MOST 1048576: true; the input reads as it did. -/
def pulseFindsUptoRow : OpenClaim := { program := "ytnfimkmjjjbopaadoor", sum := "81fd66bd2afbaa44bf6e97fc8aaa924c85e85e4164e3e7aa752eec352847fd0e", func := "clearway/clearwaylaw10.PulseFinds", spec := "pulseFinds", unfollowed := true, recurses := true, named := ["clearway/pulse.preamble"], apart := false, laid := [("clearway/pulse.preamble", laid_clearway_pulse_preamble)], narrowed := true }
def PulseFindsUptoSaid : Prop := pulseFindsUptoRow.holds Tryd.pinned (OpenSpec.upto pulseFindsSpec)

/-- 'clearwaylaw10.PulseReads', WHERE WHAT IT READS IS OF BULK AT MOST 1048576: true; the input reads as it did. -/
def pulseReadsUptoRow : OpenClaim := { program := "ytnfimkmjjjbopaadoor", sum := "81fd66bd2afbaa44bf6e97fc8aaa924c85e85e4164e3e7aa752eec352847fd0e", func := "clearway/clearwaylaw10.PulseReads", spec := "pulseReads", unfollowed := true, recurses := true, named := ["clearway/pulse.preamble"], apart := false, laid := [("clearway/pulse.preamble", laid_clearway_pulse_preamble)], narrowed := true }
def PulseReadsUptoSaid : Prop := pulseReadsUptoRow.holds Tryd.pinned (OpenSpec.upto pulseReadsSpec)

/-- 'clearwaylaw10.PulseMerges', WHERE WHAT IT READS IS OF BULK AT MOST 1048576: true; the input reads as it did. -/
def pulseMergesUptoRow : OpenClaim := { program := "ytnfimkmjjjbopaadoor", sum := "81fd66bd2afbaa44bf6e97fc8aaa924c85e85e4164e3e7aa752eec352847fd0e", func := "clearway/clearwaylaw10.PulseMerges", spec := "pulseMerges", unfollowed := true, recurses := true, named := ["clearway/pulse.preamble"], apart := false, laid := [("clearway/pulse.preamble", laid_clearway_pulse_preamble)], narrowed := true }
def PulseMergesUptoSaid : Prop := pulseMergesUptoRow.holds Tryd.pinned (OpenSpec.upto pulseMergesSpec)

/-- 'clearwaylaw10.PulseGrows', WHERE WHAT IT READS IS OF BULK AT MOST 1048576: true; the input reads as it did. -/
def pulseGrowsUptoRow : OpenClaim := { program := "ytnfimkmjjjbopaadoor", sum := "81fd66bd2afbaa44bf6e97fc8aaa924c85e85e4164e3e7aa752eec352847fd0e", func := "clearway/clearwaylaw10.PulseGrows", spec := "pulseGrows", unfollowed := true, recurses := true, named := ["clearway/pulse.preamble"], apart := false, laid := [("clearway/pulse.preamble", laid_clearway_pulse_preamble)], narrowed := true }
def PulseGrowsUptoSaid : Prop := pulseGrowsUptoRow.holds Tryd.pinned (OpenSpec.upto pulseGrowsSpec)

/-- 'clearwaylaw10.PulseExamples', WHERE WHAT IT READS IS OF BULK AT MOST 1048576: true; the input reads as it did. -/
def pulseExamplesUptoRow : OpenClaim := { program := "ytnfimkmjjjbopaadoor", sum := "81fd66bd2afbaa44bf6e97fc8aaa924c85e85e4164e3e7aa752eec352847fd0e", func := "clearway/clearwaylaw10.PulseExamples", spec := "pulseExamples", unfollowed := true, recurses := true, named := ["clearway/pulse.preamble"], apart := false, laid := [("clearway/pulse.preamble", laid_clearway_pulse_preamble)], narrowed := true }
def PulseExamplesUptoSaid : Prop := pulseExamplesUptoRow.holds Tryd.pinned (OpenSpec.upto pulseExamplesSpec)

end Rows
end Go.Proofs.YtnfimkmjjjbopaaDoor
