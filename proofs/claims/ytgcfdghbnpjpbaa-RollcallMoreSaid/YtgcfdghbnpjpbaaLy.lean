/- RollcallBest. -/
import Derived.Test.YtgcfdghbnpjpbaaLx
set_option linter.unusedSimpArgs false
set_option linter.unusedVariables false
set_option maxRecDepth 20000
set_option maxHeartbeats 8000000
namespace Go.Ab
open Go.Proofs
structure IFB (x y : Int) (b : Bool) : Prop where
 h : x = y ↔ b = true
structure FITP (l : List DUE) (s cy per : Int) : Prop where
 h : Short 2000 l
 b : 0 ≤ s ∧ (0 ≤ cy ∧ cy ≤ 64) ∧ 0 ≤ per ∧ per ≤ 64
end Go.Ab
