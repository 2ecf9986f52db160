/- LockMasks. -/
import Derived.Test.YtbjehpjlpckbfaaLv
set_option linter.unusedSimpArgs false
set_option linter.unusedVariables false
set_option maxRecDepth 20000
set_option maxHeartbeats 8000000
namespace Go.Ab
open Go.Proofs
structure HLD (i : Int) (l : LE) (H : List Bool) : Prop where
 len : H.length = 3
 ent : ∀ e ∈ l, e.1 < i ∧ e.2.1.2.2.2 = (10 : Int)
 n : (l.length : Int) = i
 get : ∀ s : Int, 0 ≤ s → s ≤ 2 → gtR .bool H s = heldB l s
end Go.Ab
