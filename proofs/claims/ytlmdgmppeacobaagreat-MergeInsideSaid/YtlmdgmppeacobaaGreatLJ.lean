/- The reference's profiles. -/
import Derived.Test.YtlmdgmppeacobaaGreatLI
set_option linter.unusedSimpArgs false
set_option linter.unusedVariables false
set_option maxRecDepth 20000
set_option maxHeartbeats 4000000
namespace Go.Ab
open Go.Proofs
structure LSP (a b:List RT):Prop where
 n:a.length≤2000
 e:b.length=a.length
 va:∀ x∈a,VT x
 vb:∀ x∈b,VT x
end Go.Ab
