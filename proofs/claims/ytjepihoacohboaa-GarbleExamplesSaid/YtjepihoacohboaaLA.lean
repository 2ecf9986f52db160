/- The reference's elimination: the least rest,a basis. Plain Lean. -/
import Derived.Test.YtjepihoacohboaaLo
set_option linter.unusedSimpArgs false
set_option linter.unusedVariables false
set_option maxRecDepth 20000
set_option maxHeartbeats 2000000
namespace Go.Ab
structure ECH (l:List Nat):Prop where
 nz:∀ a∈l,a≠0
 pw:l.Pairwise fun a b=>a.log2≠b.log2
structure RDC (l:List Nat) (x r:Nat):Prop where
 s:inS l (x ^^^ r)
 m:∀ a∈l,¬ r ^^^ a<r
structure BI (cs out:List Nat):Prop where
 ech:ECH out
 sp:∀ t,inS out t↔inS cs t
 le:out.length≤cs.length
 kd:KD (cs.length - out.length) cs
 lt:∀ a∈out,a<2 ^ 24
end Go.Ab
