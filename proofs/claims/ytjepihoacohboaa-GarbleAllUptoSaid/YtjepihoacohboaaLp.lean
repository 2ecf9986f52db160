/- GarbleTail,GarbleTruth: plain part. -/
import Derived.Test.YtjepihoacohboaaLk
set_option linter.unusedSimpArgs false
set_option linter.unusedVariables false
set_option maxRecDepth 20000
set_option maxHeartbeats 8000000
namespace Go.Ab
open Go.Proofs
end Go.Ab
