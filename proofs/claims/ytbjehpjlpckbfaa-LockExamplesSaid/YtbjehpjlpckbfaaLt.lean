/- LockOrder. -/
import Derived.Test.YtbjehpjlpckbfaaLs
set_option linter.unusedSimpArgs false
set_option linter.unusedVariables false
set_option maxRecDepth 20000
set_option maxHeartbeats 8000000
namespace Go.Ab
open Go.Proofs
structure AFX (L : List tChoice.den) : Prop where
 h : ∃ nums, L = nums.map chO ∧ nums ≠ [] ∧ nums.length ≤ 12 ∧ ∀ x ∈ nums, 1 ≤ x ∧ x ≤ 65536
end Go.Ab
