/-
  No cell of these rows narrows 'for every input' (looked for: loops, veiled, ifaces, maps, wideKeys, modest, calm, conditions, laid).
  DERIVED. THE GIVEN ROWS OF THIS SEAT. 7 by the template 'for every input the law returns true; each argument reads behind the call as it read before'; 0 by the template 'total and deterministic' (their statements: YtbjehpjlpckbfaaTotals.lean).
  GIVEN WITH THE SEED: the statements are not yours to turn. If you find one false, say at which input.
  Laid BY PROGRAM, IN A SANDBOX (cutbox-rows.mjs): the forced cells as the released guide's own fill.sh prints them over the translation 08430e2d70d763f9… (all of the seat's roots in one cut). By AI agents, Wed Nov 11 2026. No macro, syntax, notation, axiom, sorry.
-/
import Derived.Test.YtbjehpjlpckbfaaChecked
import GoSem.Claim
import GoSem.ClaimJoined
import GoSem.ClaimMapViews
import Derived.JoinedTies
import Derived.KernelRfl
namespace Go.Proofs.Ytbjehpjlpckbfaa
/- THE CELL 'sum', in the pinned program and in every row, IS THE sha256 OF THE DUMP (.gsa) THAT YtbjehpjlpckbfaaProg.lean LOADS. Nothing in Lean hashes anything: it is a label: what it is worth is what the hold of that sum in a sandbox is worth. -/
noncomputable def Try.pinned : Pinned := { name := "ytbjehpjlpckbfaa", sum := "08430e2d70d763f97d26d1d80ec91fb26210a0f627cc1f286e59862943a60ec3", checked := Try.checked }
namespace Rows
def none {H : Type} : Left H := { results := [], args := [] }

/-- 'clearwaylaw32.LockMatches': WHATEVER THE INPUT: true; the input reads as it did. -/
def lockMatchesSpec : ChangeSpec := { name := "lockMatches", fn := fun _ => fun
  | [d1, d2, d3] => { results := [.lit (.bool true)], args := [d1, d2, d3] }
  | _ => none }
def lockMatchesRow : OpenClaim := { program := "ytbjehpjlpckbfaa", sum := "08430e2d70d763f97d26d1d80ec91fb26210a0f627cc1f286e59862943a60ec3", func := "clearway/clearwaylaw32.LockMatches", spec := "lockMatches", inPlace := ["maps.clone"], unfollowed := true, recurses := true, apart := false }
def LockMatchesSaid : Prop := lockMatchesRow.holds Try.pinned (OpenSpec.ofChange lockMatchesSpec)

/-- ITS FALSE NEIGHBOUR: 'it returns false'. Refute it at one input. -/
def lockMatchesWrong : ChangeSpec := { name := "lockMatches", fn := fun _ => fun
  | [d1, d2, d3] => { results := [.lit (.bool false)], args := [d1, d2, d3] }
  | _ => none }
def LockMatchesWrongFalsely : Prop := lockMatchesRow.holds Try.pinned (OpenSpec.ofChange lockMatchesWrong)

/-- 'clearwaylaw32.LockBodies': WHATEVER THE INPUT: true; the input reads as it did. -/
def lockBodiesSpec : ChangeSpec := { name := "lockBodies", fn := fun _ => fun
  | [d1, d2, d3] => { results := [.lit (.bool true)], args := [d1, d2, d3] }
  | _ => none }
def lockBodiesRow : OpenClaim := { program := "ytbjehpjlpckbfaa", sum := "08430e2d70d763f97d26d1d80ec91fb26210a0f627cc1f286e59862943a60ec3", func := "clearway/clearwaylaw32.LockBodies", spec := "lockBodies", inPlace := ["maps.clone"], unfollowed := true, recurses := true, apart := false }
def LockBodiesSaid : Prop := lockBodiesRow.holds Try.pinned (OpenSpec.ofChange lockBodiesSpec)

/-- ITS FALSE NEIGHBOUR: 'it returns false'. Refute it at one input. -/
def lockBodiesWrong : ChangeSpec := { name := "lockBodies", fn := fun _ => fun
  | [d1, d2, d3] => { results := [.lit (.bool false)], args := [d1, d2, d3] }
  | _ => none }
def LockBodiesWrongFalsely : Prop := lockBodiesRow.holds Try.pinned (OpenSpec.ofChange lockBodiesWrong)

/-- 'clearwaylaw32.LockExamples': WHATEVER THE INPUT: true; the input reads as it did. -/
def lockExamplesSpec : ChangeSpec := { name := "lockExamples", fn := fun _ => fun
  | [] => { results := [.lit (.bool true)], args := [] }
  | _ => none }
def lockExamplesRow : OpenClaim := { program := "ytbjehpjlpckbfaa", sum := "08430e2d70d763f97d26d1d80ec91fb26210a0f627cc1f286e59862943a60ec3", func := "clearway/clearwaylaw32.LockExamples", spec := "lockExamples", inPlace := ["maps.clone"], unfollowed := true, recurses := true, apart := false }
def LockExamplesSaid : Prop := lockExamplesRow.holds Try.pinned (OpenSpec.ofChange lockExamplesSpec)

/-- ITS FALSE NEIGHBOUR: 'it returns false'. Refute it at one input. -/
def lockExamplesWrong : ChangeSpec := { name := "lockExamples", fn := fun _ => fun
  | [] => { results := [.lit (.bool false)], args := [] }
  | _ => none }
def LockExamplesWrongFalsely : Prop := lockExamplesRow.holds Try.pinned (OpenSpec.ofChange lockExamplesWrong)

/-- 'clearwaylaw32.LockRoundTrip': WHATEVER THE INPUT: true; the input reads as it did. -/
def lockRoundTripSpec : ChangeSpec := { name := "lockRoundTrip", fn := fun _ => fun
  | [d1, d2, d3] => { results := [.lit (.bool true)], args := [d1, d2, d3] }
  | _ => none }
def lockRoundTripRow : OpenClaim := { program := "ytbjehpjlpckbfaa", sum := "08430e2d70d763f97d26d1d80ec91fb26210a0f627cc1f286e59862943a60ec3", func := "clearway/clearwaylaw32.LockRoundTrip", spec := "lockRoundTrip", inPlace := ["maps.clone"], unfollowed := true, recurses := true, apart := false }
def LockRoundTripSaid : Prop := lockRoundTripRow.holds Try.pinned (OpenSpec.ofChange lockRoundTripSpec)

/-- ITS FALSE NEIGHBOUR: 'it returns false'. Refute it at one input. -/
def lockRoundTripWrong : ChangeSpec := { name := "lockRoundTrip", fn := fun _ => fun
  | [d1, d2, d3] => { results := [.lit (.bool false)], args := [d1, d2, d3] }
  | _ => none }
def LockRoundTripWrongFalsely : Prop := lockRoundTripRow.holds Try.pinned (OpenSpec.ofChange lockRoundTripWrong)

/-- 'clearwaylaw32.LockOrder': WHATEVER THE INPUT: true; the input reads as it did. -/
def lockOrderSpec : ChangeSpec := { name := "lockOrder", fn := fun _ => fun
  | [d1, d2] => { results := [.lit (.bool true)], args := [d1, d2] }
  | _ => none }
def lockOrderRow : OpenClaim := { program := "ytbjehpjlpckbfaa", sum := "08430e2d70d763f97d26d1d80ec91fb26210a0f627cc1f286e59862943a60ec3", func := "clearway/clearwaylaw32.LockOrder", spec := "lockOrder", inPlace := ["maps.clone"], unfollowed := true, recurses := true, apart := false }
def LockOrderSaid : Prop := lockOrderRow.holds Try.pinned (OpenSpec.ofChange lockOrderSpec)

/-- ITS FALSE NEIGHBOUR: 'it returns false'. Refute it at one input. -/
def lockOrderWrong : ChangeSpec := { name := "lockOrder", fn := fun _ => fun
  | [d1, d2] => { results := [.lit (.bool false)], args := [d1, d2] }
  | _ => none }
def LockOrderWrongFalsely : Prop := lockOrderRow.holds Try.pinned (OpenSpec.ofChange lockOrderWrong)

/-- 'clearwaylaw32.LockRenewal': WHATEVER THE INPUT: true; the input reads as it did. -/
def lockRenewalSpec : ChangeSpec := { name := "lockRenewal", fn := fun _ => fun
  | [d1, d2, d3] => { results := [.lit (.bool true)], args := [d1, d2, d3] }
  | _ => none }
def lockRenewalRow : OpenClaim := { program := "ytbjehpjlpckbfaa", sum := "08430e2d70d763f97d26d1d80ec91fb26210a0f627cc1f286e59862943a60ec3", func := "clearway/clearwaylaw32.LockRenewal", spec := "lockRenewal", inPlace := ["maps.clone"], unfollowed := true, recurses := true, apart := false }
def LockRenewalSaid : Prop := lockRenewalRow.holds Try.pinned (OpenSpec.ofChange lockRenewalSpec)

/-- ITS FALSE NEIGHBOUR: 'it returns false'. Refute it at one input. -/
def lockRenewalWrong : ChangeSpec := { name := "lockRenewal", fn := fun _ => fun
  | [d1, d2, d3] => { results := [.lit (.bool false)], args := [d1, d2, d3] }
  | _ => none }
def LockRenewalWrongFalsely : Prop := lockRenewalRow.holds Try.pinned (OpenSpec.ofChange lockRenewalWrong)

/-- 'clearwaylaw32.LockMasks': WHATEVER THE INPUT: true; the input reads as it did. -/
def lockMasksSpec : ChangeSpec := { name := "lockMasks", fn := fun _ => fun
  | [d1, d2] => { results := [.lit (.bool true)], args := [d1, d2] }
  | _ => none }
def lockMasksRow : OpenClaim := { program := "ytbjehpjlpckbfaa", sum := "08430e2d70d763f97d26d1d80ec91fb26210a0f627cc1f286e59862943a60ec3", func := "clearway/clearwaylaw32.LockMasks", spec := "lockMasks", inPlace := ["maps.clone"], unfollowed := true, recurses := true, apart := false }
def LockMasksSaid : Prop := lockMasksRow.holds Try.pinned (OpenSpec.ofChange lockMasksSpec)

/-- ITS FALSE NEIGHBOUR: 'it returns false'. Refute it at one input. -/
def lockMasksWrong : ChangeSpec := { name := "lockMasks", fn := fun _ => fun
  | [d1, d2] => { results := [.lit (.bool false)], args := [d1, d2] }
  | _ => none }
def LockMasksWrongFalsely : Prop := lockMasksRow.holds Try.pinned (OpenSpec.ofChange lockMasksWrong)

/- THE SECOND FORM. 'bulk': how many values and letters a reading holds, each counted each time it is reached (what is shared counts as often as it is met; a slice's spare places count too). A statement '..UptoSaid' is the law's where the arguments, and the package variables that the reading takes, are together of bulk at most 1048576: NARROWER than '..Said'. Prove '..Said' where nothing that the law and all that it calls make is longer than what came in: it says more and counts as full. Else prove '..UptoSaid'. A law counts once. -/
mutual
def uptoBulk {H : Type} : DataW H → Nat
  | .lit (.string bytes) => bytes.length + 1
  | .lit _ => 1
  | .nil => 1
  | .ptr d => uptoBulk d + 1
  | .slice elems spare => uptoBulkAll elems + uptoBulkAll spare + 1
  | .agg parts => uptoBulkAll parts + 1
  | .iface _ d => uptoBulk d + 1
  | .map entries => uptoBulkEntries entries + 1
  | .held _ => 1
def uptoBulkAll {H : Type} : List (DataW H) → Nat
  | [] => 0
  | d :: r => uptoBulk d + uptoBulkAll r
def uptoBulkEntries {H : Type} : List (Lit × DataW H) → Nat
  | [] => 0
  | x :: r => uptoBulkEntry x + uptoBulkEntries r
def uptoBulkEntry {H : Type} : Lit × DataW H → Nat
  | (.string bytes, d) => bytes.length + uptoBulk d + 1
  | (_, d) => uptoBulk d + 1
 end
def uptoSmall : (H : Type) → List (DataW H) → Bool := fun _ ds => decide (uptoBulkAll ds ≤ 1048576)
def OpenSpec.upto (s : _root_.Go.ChangeSpec) : _root_.Go.OpenSpec := { _root_.Go.OpenSpec.ofChange s with cond := some uptoSmall }

/-- 'clearwaylaw32.LockMatches', WHERE WHAT IT READS IS OF BULK AT MOST 1048576: true; the input reads as it did. -/
def lockMatchesUptoRow : OpenClaim := { program := "ytbjehpjlpckbfaa", sum := "08430e2d70d763f97d26d1d80ec91fb26210a0f627cc1f286e59862943a60ec3", func := "clearway/clearwaylaw32.LockMatches", spec := "lockMatches", inPlace := ["maps.clone"], unfollowed := true, recurses := true, apart := false, narrowed := true }
def LockMatchesUptoSaid : Prop := lockMatchesUptoRow.holds Try.pinned (OpenSpec.upto lockMatchesSpec)

/-- 'clearwaylaw32.LockBodies', WHERE WHAT IT READS IS OF BULK AT MOST 1048576: true; the input reads as it did. -/
def lockBodiesUptoRow : OpenClaim := { program := "ytbjehpjlpckbfaa", sum := "08430e2d70d763f97d26d1d80ec91fb26210a0f627cc1f286e59862943a60ec3", func := "clearway/clearwaylaw32.LockBodies", spec := "lockBodies", inPlace := ["maps.clone"], unfollowed := true, recurses := true, apart := false, narrowed := true }
def LockBodiesUptoSaid : Prop := lockBodiesUptoRow.holds Try.pinned (OpenSpec.upto lockBodiesSpec)

/-- 'clearwaylaw32.LockExamples', WHERE WHAT IT READS IS OF BULK AT MOST 1048576: true; the input reads as it did. -/
def lockExamplesUptoRow : OpenClaim := { program := "ytbjehpjlpckbfaa", sum := "08430e2d70d763f97d26d1d80ec91fb26210a0f627cc1f286e59862943a60ec3", func := "clearway/clearwaylaw32.LockExamples", spec := "lockExamples", inPlace := ["maps.clone"], unfollowed := true, recurses := true, apart := false, narrowed := true }
def LockExamplesUptoSaid : Prop := lockExamplesUptoRow.holds Try.pinned (OpenSpec.upto lockExamplesSpec)

/-- 'clearwaylaw32.LockRoundTrip', WHERE WHAT IT READS IS OF BULK AT MOST 1048576: true; the input reads as it did. -/
def lockRoundTripUptoRow : OpenClaim := { program := "ytbjehpjlpckbfaa", sum := "08430e2d70d763f97d26d1d80ec91fb26210a0f627cc1f286e59862943a60ec3", func := "clearway/clearwaylaw32.LockRoundTrip", spec := "lockRoundTrip", inPlace := ["maps.clone"], unfollowed := true, recurses := true, apart := false, narrowed := true }
def LockRoundTripUptoSaid : Prop := lockRoundTripUptoRow.holds Try.pinned (OpenSpec.upto lockRoundTripSpec)

/-- 'clearwaylaw32.LockOrder', WHERE WHAT IT READS IS OF BULK AT MOST 1048576: true; the input reads as it did. -/
def lockOrderUptoRow : OpenClaim := { program := "ytbjehpjlpckbfaa", sum := "08430e2d70d763f97d26d1d80ec91fb26210a0f627cc1f286e59862943a60ec3", func := "clearway/clearwaylaw32.LockOrder", spec := "lockOrder", inPlace := ["maps.clone"], unfollowed := true, recurses := true, apart := false, narrowed := true }
def LockOrderUptoSaid : Prop := lockOrderUptoRow.holds Try.pinned (OpenSpec.upto lockOrderSpec)

/-- 'clearwaylaw32.LockRenewal', WHERE WHAT IT READS IS OF BULK AT MOST 1048576: true; the input reads as it did. -/
def lockRenewalUptoRow : OpenClaim := { program := "ytbjehpjlpckbfaa", sum := "08430e2d70d763f97d26d1d80ec91fb26210a0f627cc1f286e59862943a60ec3", func := "clearway/clearwaylaw32.LockRenewal", spec := "lockRenewal", inPlace := ["maps.clone"], unfollowed := true, recurses := true, apart := false, narrowed := true }
def LockRenewalUptoSaid : Prop := lockRenewalUptoRow.holds Try.pinned (OpenSpec.upto lockRenewalSpec)

/-- 'clearwaylaw32.LockMasks', WHERE WHAT IT READS IS OF BULK AT MOST 1048576: true; the input reads as it did. -/
def lockMasksUptoRow : OpenClaim := { program := "ytbjehpjlpckbfaa", sum := "08430e2d70d763f97d26d1d80ec91fb26210a0f627cc1f286e59862943a60ec3", func := "clearway/clearwaylaw32.LockMasks", spec := "lockMasks", inPlace := ["maps.clone"], unfollowed := true, recurses := true, apart := false, narrowed := true }
def LockMasksUptoSaid : Prop := lockMasksUptoRow.holds Try.pinned (OpenSpec.upto lockMasksSpec)

end Rows
end Go.Proofs.Ytbjehpjlpckbfaa
