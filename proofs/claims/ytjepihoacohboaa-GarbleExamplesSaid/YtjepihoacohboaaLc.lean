/- The reference's remainders and overlays. -/
import Derived.Test.YtjepihoacohboaaLb
set_option linter.unusedSimpArgs false
set_option linter.unusedVariables false
set_option maxRecDepth 20000
set_option maxHeartbeats 4000000
namespace Go.Ab
open Go.Proofs
structure OVP (b:List Int):Prop where
 bt:BITS b
 l:b.length≤200
 m:24≤b.length
structure COLP (n p:Int):Prop where
 l:n≤200
 m:24≤n
 p0:0≤p
 p1:p<n
theorem unit_len (n p:Nat):(unitL n p).length=n:=by simp[unitL]
end Go.Ab
