/- The reference's basis,Power. -/
import Derived.Test.YtjepihoacohboaaLB
set_option linter.unusedSimpArgs false
set_option linter.unusedVariables false
set_option maxRecDepth 20000
set_option maxHeartbeats 4000000
namespace Go.Ab
open Go.Proofs
structure BSP (l:List Int):Prop where
 L:∃ cs:List Nat,l=plD cs∧(∀ c∈cs,c<2 ^ 24)∧cs.length≤200
structure PWP (b:List Int) (over:Int):Prop where
 b:OFP b
 o0:0≤over
 o1:over≤16777215
end Go.Ab
