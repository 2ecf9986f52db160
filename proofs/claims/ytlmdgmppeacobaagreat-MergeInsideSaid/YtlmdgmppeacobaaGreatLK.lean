/- The reference's sums and greatest costs. -/
import Derived.Test.YtlmdgmppeacobaaGreatLJ
set_option linter.unusedSimpArgs false
set_option linter.unusedVariables false
set_option maxRecDepth 20000
set_option maxHeartbeats 4000000
namespace Go.Ab
open Go.Proofs
end Go.Ab
