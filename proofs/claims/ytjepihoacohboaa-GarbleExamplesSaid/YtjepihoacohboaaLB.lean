/- The reference's parts,columns,the least rest,a basis. -/
import Derived.Test.YtjepihoacohboaaLf
import Derived.Test.YtjepihoacohboaaLA
set_option linter.unusedSimpArgs false
set_option linter.unusedVariables false
set_option maxRecDepth 20000
set_option maxHeartbeats 4000000
namespace Go.Ab
open Go.Proofs
structure CLP (n:Int) (l:List Int) (f:Int):Prop where
 n0:24≤n
 n1:n≤200
 l0:∀ p∈l,0≤p∧p<n
 l1:l.length≤200
 f0:0≤f
 f1:f≤l.length
structure RDP (l:List Int) (x:Int):Prop where
 L:∃ m:List Nat,l=plD m∧ECH m∧(∀ a∈m,a<2 ^ 24)∧m.length≤200
 x0:0≤x
 x1:x≤16777215
end Go.Ab
