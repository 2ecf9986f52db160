/- Locks' result is the caller's own. -/
import Derived.Test.YtbjehpjlpckbfaaLw
set_option linter.unusedSimpArgs false
set_option linter.unusedVariables false
set_option maxRecDepth 20000
set_option maxHeartbeats 8000000
namespace Go.Ab
open Go.Proofs
structure LOKB (c : Int) (n : Nat) (l : LE) (K0 : Prop) (K : List LKV → Nat → Prop) : Prop where
 tab : TAB c n l
 h0 : locksL l = [] → K0
 h : ∀ R N, R = locksL l → N = R.length → R ≠ [] → K R N
end Go.Ab
