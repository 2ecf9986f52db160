/- Costs of threats: what is wrong with them. -/
import Derived.Test.YtlmdgmppeacobaaGreatLu
set_option linter.unusedSimpArgs false
set_option linter.unusedVariables false
set_option maxRecDepth 20000
set_option maxHeartbeats 4000000
namespace Go.Ab
open Go.Proofs
def rck (x:RT):Int:=rchk x.1 x.2.1.2 x.2.2.2
def fe:List RT→Int
 | []=>0
 | x :: l=>if rck x≠0 then rck x else fe l
def row0 (l:List RS):List RT:=(gtR tRs l 0).2
def sameL (n:Nat):List RS→Bool
 | []=>true
 | r :: l=>decide (r.2.length=n) && sameL n l
def cat:List RS→List RT
 | []=>[]
 | r :: l=>r.2 ++ cat l
def mchk (l:List RS):Int:=
 if l.length=0 then 3 else if l.length>8 then 4
 else if (row0 l).length=0 then 3 else if (row0 l).length>6 then 4
 else if sameL (row0 l).length l then fe (cat l) else 16
structure MC (l:List RS):Prop where
 a:Short 2000 l
 b:SZR 2000 2000 l
theorem SZ.ckp {l:List RT} (h:SZ 2000 l) {i:Int} (h0:0≤i) (h1:i<l.length):CKP (gtR tR l i).2.1.2 (gtR tR l i).2.2.2:=by
 obtain ⟨a,b,c,d⟩:=h.h _ (gtR_mem (t:=tR) h0 h1)
 exact ⟨a,b,by omega,by omega⟩
end Go.Ab
