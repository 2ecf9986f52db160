/- advise.Check, its reference, and Mask. -/
import Derived.Test.YtbjehpjlpckbfaaLu
set_option linter.unusedSimpArgs false
set_option linter.unusedVariables false
set_option maxRecDepth 20000
set_option maxHeartbeats 8000000
namespace Go.Ab
open Go.Proofs
abbrev BND := Int × Int × Int
def achkT : List BND → Int
 | [] => 0
 | x :: r => if x.1 ≠ 1 ∧ x.1 ≠ 2 then 6 else if x.2.1 > x.2.2 ∨ x.2.1 < -100 ∨ x.2.2 > 100 then 1 else achkT r
def achk (l : List BND) : Int := if l.length = 0 then 3 else if l.length > 6 then 4 else achkT (l.drop 1)
def heldB (l : LE) (s : Int) : Bool := l.any fun e => decide (e.2.1.2.1 = s)
def mskL (l : LE) : List BND → List Bool
 | [] => []
 | _ :: r => true :: r.map fun x => !heldB l x.1
structure MASKK (c : Int) (n : Nat) (l : LE) (B : List BND) (A : List Bool → Nat → Prop) (A' : Int → Prop) : Prop where
 tab : TAB c n l
 sh : B.length ≤ 2000
 t : ∀ M N, achk B = 0 → M = mskL l B → N = B.length → A M N
 f : ∀ e, e = achk B → e ≠ 0 → A' e
end Go.Ab
