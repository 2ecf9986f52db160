/- Fits: the reference's; the program's with a result of the caller's own. -/
import Derived.Test.YtjepihoacohboaaLC
set_option linter.unusedSimpArgs false
set_option linter.unusedVariables false
set_option maxRecDepth 20000
set_option maxHeartbeats 8000000
namespace Go.Ab
open Go.Proofs
structure ARF (b l:List Int):Prop where
 h:LENB b
 h0:∀ y∈b,0≤y
 hl:LENB l
end Go.Ab
