/- LinkOrder: its small functions. -/
import Derived.Test.YteiolnofaebknaaLj
set_option linter.unusedSimpArgs false
set_option linter.unusedVariables false
set_option maxRecDepth 20000
set_option maxHeartbeats 2000000
namespace Go.Ab
open Go.Proofs
structure NEWK (l:List Int):Prop where
 h:wrongM l=0
end Go.Ab
