/- The channel's functions as relations; small functions of the laws. -/
import Derived.Test.YteiolnofaebknaaLk
import Derived.Test.YteiolnofaebknaaLp
set_option linter.unusedSimpArgs false
set_option linter.unusedVariables false
set_option maxRecDepth 20000
set_option maxHeartbeats 2000000
namespace Go.Ab
open Go.Proofs
theorem SQ.hears {q s:List PT} {n:Nat} {t:Int} (h:SQ q n s):hearO t n q=(s.takeWhile (dueT t)).map (fun x=>x.2.2)∧hearN t n q=(s.dropWhile (dueT t)).length∧SQ (hearQ t n q) (hearN t n q) (s.dropWhile (dueT t))∧(hearQ t n q).length=q.length:=by
 obtain ⟨q',h1,h2,h3⟩:=h.hear (t:=t) (out:=[])
 unfold hearO hearN hearQ
 rw[h1]
 exact ⟨by simp,rfl,h2,h3⟩
structure SENTR (F:List Int) (now sent:Int) (N n:Nat) (q:List tPar.den) (t:Int) (x:tChoice.den) (e now' sent':Int) (N' n':Nat) (q':List tPar.den):Prop where
 he:e=sendE F now sent n t x
 hnow:now'=sendNow F now sent n t x
 hsent:sent'=sendSent F now sent n t x
 hN:N'=sendCap F now sent N n t x
 hn:n'=sendN F now sent n t x
 hq:q'=sendQ F now sent n q t x
structure SENT (F:List Int) (now sent:Int) (N n:Nat) (q:List tPar.den) (t:Int) (x:tChoice.den) (K:Int→Int→Int→Nat→Nat→List tPar.den→Prop):Prop where
 pre:SENDK F sent N n q
 h:∀ e now' sent' N' n' q',SENTR F now sent N n q t x e now' sent' N' n' q'→K e now' sent' N' n' q'
def spSendR:OpsS→CallS:=fun _ _ ds st K=>match ds with
 | [.ptr a 0,.p (.v (.int .i64 t)),x]=>(match getT tChoice x with
  | some x=>linkAt a st fun b c F now sent N n q=>SENT F now sent N n q t x fun e now' sent' N' n' q'=>frS [a,b,c] [] [.ptr 0 0,.p (iv t),injT tChoice x] (linkS F now sent N n q) (.p (iv e))
    (linkE F now' sent' N' n' q') ds st K
  | none=>False)
 | _=>False
theorem cSendR:∀ ds st K,spSendR OpsS.real 57 ds st K→FnS Try.prog 57 ds st K:=fun ds st K h=>by
 unfold spSendR at h
 split at h
 ·split at h
  ·obtain ⟨b,c,F,now,sent,N,n,q,hu⟩:=linkAt_some h
   obtain ⟨h1,h2,h3,h4,h5,h6⟩:=hu.pre.h
   exact frS_ok (cSend F now sent N n q _ _ h1 h2 h3 h4 h5 h6) (hu.h _ _ _ _ _ _ ⟨rfl,rfl,rfl,rfl,rfl,rfl⟩)
  ·exact h.elim
 ·exact h.elim
structure HEAR (now t:Int) (N n:Nat) (q:List tPar.den) (K:Nat→List tPar.den→List tChoice.den→Prop):Prop where
 pre:HEARK now t N n q
 h:∀ n' q' o,n'=hearN t n q→q'=hearQ t n q→o=hearO t n q→K n' q' o
def spHearR:OpsS→CallS:=fun o _ ds st K=>match ds with
 | [.ptr a 0,.p (.v (.int .i64 t))]=>linkAt a st fun b c F now sent N n q=>HEAR now t N n q fun n' q' out=>frS [a,b,c] [] [.ptr 0 0,.p (iv t)] (linkS F now sent N n q) (.tup [.og 0 tChoice out,.p (iv 0)])
   (linkG F t sent N n' q' [(o.ml (o.ln tChoice out) 4,25)]) ds st K
 | _=>False
theorem cHearR:∀ ds st K,spHearR OpsS.real 58 ds st K→FnS Try.prog 58 ds st K:=fun ds st K h=>by
 unfold spHearR at h
 split at h
 ·obtain ⟨b,c,F,now,sent,N,n,q,hu⟩:=linkAt_some h
  obtain ⟨h1,h2,h3,h4⟩:=hu.pre.h
  exact frS_ok (cHear F now sent N n _ q _ _ _ _ rfl rfl h1 h2 h3 h4) (hu.h _ _ _ rfl rfl rfl)
 ·exact h.elim
theorem BR.lss {cmp:BinOp→Int→Int→Bool} (h:cmp=cmpR) {x y:Int} {A B:Prop} (t:x<y→A) (f:¬ x<y→B):BR (cmp .lss x y) A B:=by
 subst h;refine ⟨fun h=>t (by simpa [cmpR] using h),fun h=>f (by simpa [cmpR] using h)⟩
theorem BR.leq {cmp:BinOp→Int→Int→Bool} (h:cmp=cmpR) {x y:Int} {A B:Prop} (t:x≤y→A) (f:¬ x≤y→B):BR (cmp .leq x y) A B:=by
 subst h;refine ⟨fun h=>t (by simpa [cmpR] using h),fun h=>f (by simpa [cmpR] using h)⟩
theorem BR.eql {cmp:BinOp→Int→Int→Bool} (h:cmp=cmpR) {x y:Int} {A B:Prop} (t:x=y→A) (f:¬ x=y→B):BR (cmp .eql x y) A B:=by
 subst h;refine ⟨fun h=>t (by simpa [cmpR] using h),fun h=>f (by simpa [cmpR] using h)⟩
theorem BR.neq {cmp:BinOp→Int→Int→Bool} (h:cmp=cmpR) {x y:Int} {A B:Prop} (t:x≠y→A) (f:¬ x≠y→B):BR (cmp .neq x y) A B:=by
 subst h;refine ⟨fun h=>t (by simpa [cmpR] using h),fun h=>f (by simpa [cmpR] using h)⟩
theorem BR.gtr {cmp:BinOp→Int→Int→Bool} (h:cmp=cmpR) {x y:Int} {A B:Prop} (t:x>y→A) (f:¬ x>y→B):BR (cmp .gtr x y) A B:=by
 subst h;refine ⟨fun h=>t (by simpa [cmpR] using h),fun h=>f (by simpa [cmpR] using h)⟩
theorem BR.geq {cmp:BinOp→Int→Int→Bool} (h:cmp=cmpR) {x y:Int} {A B:Prop} (t:x≥y→A) (f:¬ x≥y→B):BR (cmp .geq x y) A B:=by
 subst h;refine ⟨fun h=>t (by simpa [cmpR] using h),fun h=>f (by simpa [cmpR] using h)⟩
theorem BR.nn {cmp:BinOp→Int→Int→Bool} (h:cmp=cmpR) {x:Int} {A B:Prop} (f:B):BR (cmp .neq x x) A B:=BR.neq h (fun h=>absurd rfl h) fun _=>f
end Go.Ab
