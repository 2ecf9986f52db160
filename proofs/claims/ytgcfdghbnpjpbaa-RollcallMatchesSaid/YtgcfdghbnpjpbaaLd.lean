/- The reference's Worth. -/
import Derived.Test.YtgcfdghbnpjpbaaLc
set_option linter.unusedSimpArgs false
set_option linter.unusedVariables false
set_option maxRecDepth 20000
set_option maxHeartbeats 4000000
namespace Go.Ab
open Go.Proofs
structure FLG (F : List Bool) (l : List DUE) (dn : List Int) : Prop where
 n : F.length = l.length
 f : ∀ (k : Nat) (hk : k < l.length),F.getD k false = decide (l[k].1 ∈ dn)
end Go.Ab
