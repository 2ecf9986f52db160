/- The parties' functions as calls of a bigger state; the check of wishes. -/
import Derived.Test.YteiolnofaebknaaMb
set_option linter.unusedSimpArgs false
set_option linter.unusedVariables false
set_option maxRecDepth 20000
set_option maxHeartbeats 2000000
namespace Go.Ab
open Go.Proofs
abbrev tW:Ty:=.pair (.int .u8) (.int .u8)
def badW (p:tW.den):Bool:=decide (p.1>2∨p.2>2)
def idxW:List tW.den→Int→Int
 | [],_=>-1
 | x :: l,i=>if badW x=true then i else idxW l (i+1)
theorem idxW_any:∀ (l:List tW.den) (i:Int),0≤i→(decide (0≤idxW l i)=l.any badW)
 | [],i,_=>by simp[idxW]
 | x :: l,i,h=>by
  have:=idxW_any l (i+1) (by omega)
  simp only[idxW,List.any_cons]
  by_cases hb:badW x=true
  ·simp[hb,h]
  ·simp[hb,this]
theorem c45w (x y:Int):PurS Try.prog 45 [injT tW (x,y)] (.sb (badW (x,y))):=by
 refine PurS.of (S:=[]) (T:=[]) (U:=[]) (tbl:=[]) (n:=9) hm33 cfg .nil .nil .nil .nil 0 Try.call45 Try.func45 (ac45_ok (some (0,0))) (by rw[Try.ntmps45];exact Nat.le_refl _) rfl ⟨_,rfl⟩ ?_
 intro cmp ar cv tn ic ai mx an ad ml sb mn ln em gt up ap sc vw cp rp p1 p2 s1 s2 X Y hX hY r0 r1 r2 r3 r4 r5 r6 r7 r8 r9 r10 r11 r12 r13 r14 r15 r16 r17 r18 r19 r20 r21 r22 r23 r24
 generalize hg0:badW=g0
 cbv
 repeat' (first | exact True.intro | refine And.intro ?_ ?_ | (refine BR.mk ?_ ?_ <;> intro _) | (refine CASE.mk ?_;intro _))
 all_goals subst_vars
 all_goals try simp only[Short_iff,cmpR,arR,mxR,INB_iff,SLB_iff,SLM_iff,NZ_iff,NN_iff,EQN_iff,LEN_iff,LIM_iff,MK_iff,decide_eq_true_eq,decide_eq_false_iff_not,ne_eq,Bool.and_eq_true,mxR]at *
 all_goals try dsimp only[Ty.den]at *
 all_goals try simp only[nc_eq]at *
 all_goals try (simp (disch:=omega) only[wrap64]at *)
 all_goals grind [badW]
theorem c55 (nl:Option Bool) (l:List tW.den) (hl:Short 300 l):PurS Try.prog 55 [injT (.sl tW) (nl,l),.fn (.func 45) [] []] (.p (iv (idxW l 0))):=by
 refine PurS.of (S:=[(45,_)]) (T:=[]) (U:=[]) (tbl:=[]) (n:=19) hm33 cfg (.cons (spT1.ok (a:=(.pair (.int .u8) (.int .u8))) (pre:=fun _=>True) fun x0 _=>c45w x0.1 x0.2) .nil) .nil .nil .nil 0 Try.call55 Try.func55 (ac55_ok (some (0,0))) (by rw[Try.ntmps55];exact Nat.le_refl _) rfl ⟨_,rfl⟩ ?_
 intro cmp ar cv tn ic ai mx an ad ml sb mn ln em gt up ap sc vw cp rp p1 p2 s1 s2 X Y hX hY r0 r1 r2 r3 r4 r5 r6 r7 r8 r9 r10 r11 r12 r13 r14 r15 r16 r17 r18 r19 r20 r21 r22 r23 r24
 generalize hg0:badW=g0
 generalize hg1:idxW=g1
 cbv
 refine LOOP.ind (σ:=Int) (fun i=>[(0,.tl nl tW l),(1,.fn (.func 45) [] []),(7,.p (iv (ic (ln tW l)))),(8,.p (iv i))]) (fun _=>⟨[],[]⟩) (fun i=>(l.length - i).toNat) (fun i=>0≤i∧i≤l.length∧idxW (l.drop i.toNat) i=idxW l 0) 0 (by simp) (.inl ⟨rfl,rfl⟩) ?_
 intro i hI X' hX
 cbv
 have hd:=gtR_drop (t:=tW) (l:=l) (i:=i)
 have he:=gtR_end (l:=l) (i:=i)
 repeat' (first | exact True.intro | refine And.intro ?_ ?_ | (refine BR.mk ?_ ?_ <;> intro _) | (refine CASE.mk ?_;intro _) | refine NEXT.mk (hX _ _ _ ?_ ?_ (.inl ⟨rfl,rfl⟩)))
 all_goals clear hX
 all_goals subst_vars
 all_goals try simp only[Short_iff,cmpR,arR,mxR,INB_iff,SLB_iff,SLM_iff,NZ_iff,NN_iff,EQN_iff,LEN_iff,LIM_iff,MK_iff,decide_eq_true_eq,decide_eq_false_iff_not,ne_eq,Bool.and_eq_true]at *
 all_goals try dsimp only[Ty.den]at *
 all_goals try simp only[nc_eq]at *
 all_goals try (simp (disch:=omega) only[wrap64]at *)
 all_goals grind [idxW]
theorem c44w (nl:Option Bool) (l:List tW.den) (hl:Short 300 l):PurS Try.prog 44 [injT (.sl tW) (nl,l),.fn (.func 45) [] []] (.sb (l.any badW)):=by
 refine PurS.of (S:=[(55,_)]) (T:=[]) (U:=[]) (tbl:=[]) (n:=9) hm33 cfg (.cons (spTF1.ok (a:=(.sl (.pair (.int .u8) (.int .u8)))) fun x h=>c55 x.1 x.2 h) .nil) .nil .nil .nil 0 Try.call44 Try.func44 (ac44_ok (some (0,0))) (by rw[Try.ntmps44];exact Nat.le_refl _) rfl ⟨_,rfl⟩ ?_
 intro cmp ar cv tn ic ai mx an ad ml sb mn ln em gt up ap sc vw cp rp p1 p2 s1 s2 X Y hX hY r0 r1 r2 r3 r4 r5 r6 r7 r8 r9 r10 r11 r12 r13 r14 r15 r16 r17 r18 r19 r20 r21 r22 r23 r24
 generalize hg0:idxW=g0
 generalize hg1:badW=g1
 generalize hg2:List.any=g2
 cbv
 have h:=idxW_any l 0 (by omega)
 repeat' (first | exact True.intro | refine And.intro ?_ ?_ | (refine BR.mk ?_ ?_ <;> intro _) | (refine CASE.mk ?_;intro _))
 all_goals subst_vars
 all_goals try simp only[Short_iff,cmpR,arR,mxR,INB_iff,SLB_iff,SLM_iff,NZ_iff,NN_iff,EQN_iff,LEN_iff,LIM_iff,MK_iff,decide_eq_true_eq,decide_eq_false_iff_not,ne_eq,Bool.and_eq_true]at *
 all_goals try dsimp only[Ty.den]at *
 all_goals try simp only[nc_eq]at *
 all_goals try (simp (disch:=omega) only[wrap64]at *)
 all_goals grind
def bothAt (a:Nat) (st:StS) (K:SD→SD→Int→Int→Int→Nat→Nat→Prop):Prop:=match nthD st.box a with
 | some B=>(match B.cells with
   | [.p (.v (.int .i64 x1)),.p (.v (.int .i64 x2)),.p (.v (.int .u8 x3)),.p (.v (.int .i64 x4)),.p (.v (.int .u8 x5)),.p (.v (.int .i64 x6)),.ptr o 0,.ptr i 0,.p (.v (.int .i64 t)),.p (.v (.int .u8 wx)),
      .p (.v (.int .i64 y1)),.p (.v (.int .i64 y2)),.p (.v (.int .u8 y3)),.p (.v (.int .i64 y4)),.p (.v (.int .u8 y5)),.p (.v (.int .i64 y6)),.ptr _ 0,.ptr _ 0,.p (.v (.int .i64 _)),.p (.v (.int .u8 wy))]=>K (x1,x2,x3,x4,x5,x6) (y1,y2,y3,y4,y5,y6) t wx wy o i
   | _=>False)
 | none=>False
theorem bothAt_some {a:Nat} {st:StS} {K:SD→SD→Int→Int→Int→Nat→Nat→Prop} (h:bothAt a st K):∃ x y t wx wy o i,K x y t wx wy o i:=by
 unfold bothAt at h
 repeat' split at h
 all_goals first | exact ⟨_,_,_,_,_,_,_,h⟩ | exact h.elim
def runAt (a:Nat) (st:StS) (K:SD→SD→Int→Int→Int→List Nat→List Int→Int→Int→Nat→Nat→List tPar.den→List Int→Int→Int→Nat→Nat→List tPar.den→Prop):Prop:=
 bothAt a st fun x y t wx wy o i=>linkAt o st fun b c Fa na ua Na la qa=>linkAt i st fun b' c' Fb nb ub Nb lb qb=>K x y t wx wy [a,o,b,c,i,b',c'] Fa na ua Na la qa Fb nb ub Nb lb qb
theorem runAt_some {a:Nat} {st:StS} {K:SD→SD→Int→Int→Int→List Nat→List Int→Int→Int→Nat→Nat→List tPar.den→List Int→Int→Int→Nat→Nat→List tPar.den→Prop} (h:runAt a st K):∃ x y t wx wy fl Fa na ua Na la qa Fb nb ub Nb lb qb,K x y t wx wy fl Fa na ua Na la qa Fb nb ub Nb lb qb:=by
 obtain ⟨x,y,t,wx,wy,o,i,h⟩:=bothAt_some h
 obtain ⟨b,c,Fa,na,ua,Na,la,qa,h⟩:=linkAt_some h
 obtain ⟨b',c',Fb,nb,ub,Nb,lb,qb,h⟩:=linkAt_some h
 exact ⟨x,y,t,wx,wy,_,Fa,na,ua,Na,la,qa,Fb,nb,ub,Nb,lb,qb,h⟩
structure CHO (x:SD) (w:Int) (K:SD→Prop):Prop where
 h:∀ x',x'=(chooseM x w).1→K x'
def spCho:OpsS→CallS:=fun _ _ ds st K=>match ds with
 | [.ptr a 0]=>runAt a st fun x y t wx wy fl Fa na ua Na la qa Fb nb ub Nb lb qb=>CHO x wx fun x'=>frS fl [] [.ptr 0 0] (stR x y t wx wy Fa na ua Na la qa Fb nb ub Nb lb qb) (.tup []) (stR x' y t wx wy Fa na ua Na la qa Fb nb ub Nb lb qb) ds st K
 | [.ptr a 10]=>runAt a st fun x y t wx wy fl Fa na ua Na la qa Fb nb ub Nb lb qb=>CHO y wy fun y'=>frS fl [] [.ptr 0 10] (stR x y t wx wy Fa na ua Na la qa Fb nb ub Nb lb qb) (.tup []) (stR x y' t wx wy Fa na ua Na la qa Fb nb ub Nb lb qb) ds st K
 | _=>False
theorem cChoT:∀ ds st K,spCho OpsS.real 47 ds st K→FnS Try.prog 47 ds st K:=fun ds st K h=>by
 unfold spCho at h
 split at h
 ·obtain ⟨x,y,t,wx,wy,fl,Fa,na,ua,Na,la,qa,Fb,nb,ub,Nb,lb,qb,hu⟩:=runAt_some h
  exact frS_ok (cCh0 x y t wx wy Fa na ua Na la qa Fb nb ub Nb lb qb) (hu.h _ rfl)
 ·obtain ⟨x,y,t,wx,wy,fl,Fa,na,ua,Na,la,qa,Fb,nb,ub,Nb,lb,qb,hu⟩:=runAt_some h
  exact frS_ok (cCh1 x y t wx wy Fa na ua Na la qa Fb nb ub Nb lb qb) (hu.h _ rfl)
 ·exact h.elim
structure SND (x:SD) (F:List Int) (now sent:Int) (N n:Nat) (q:List tPar.den) (t:Int) (K:Int→Int→Nat→Nat→List tPar.den→Prop):Prop where
 pre:SENDK F sent N n q
 h:∀ now' sent' N' n' q',SNT x F now sent N n q t now' sent' N' n' q'→K now' sent' N' n' q'
theorem SND.ex {x:SD} {F:List Int} {now sent:Int} {N n:Nat} {q:List tPar.den} {t:Int} {K:Int→Int→Nat→Nat→List tPar.den→Prop} (h:SND x F now sent N n q t K):∃ now' sent' N' n' q',SNT x F now sent N n q t now' sent' N' n' q'∧K now' sent' N' n' q':=by
 by_cases hc:(sayM x).2=0
 ·have k:SNT x F now sent N n q t (sendNow F now sent n t (sayM x).1) (sendSent F now sent n t (sayM x).1) (sendCap F now sent N n t (sayM x).1) (sendN F now sent n t (sayM x).1) (sendQ F now sent n q t (sayM x).1):=
   ⟨fun _=>⟨rfl,rfl,rfl,rfl,rfl⟩,fun hn=>absurd hc hn⟩
  exact ⟨_,_,_,_,_,k,h.h _ _ _ _ _ k⟩
 ·have k:SNT x F now sent N n q t now sent N n q:=⟨fun hn=>absurd hn hc,fun _=>⟨rfl,rfl,rfl,rfl,rfl⟩⟩
  exact ⟨_,_,_,_,_,k,h.h _ _ _ _ _ k⟩
def spSnd:OpsS→CallS:=fun _ _ ds st K=>match ds with
 | [.ptr a 0]=>runAt a st fun x y t wx wy fl Fa na ua Na la qa Fb nb ub Nb lb qb=>SND x Fa na ua Na la qa t fun na' ua' Na' la' qa'=>frS fl [] [.ptr 0 0] (stR x y t wx wy Fa na ua Na la qa Fb nb ub Nb lb qb) (.tup []) (stRa x y t wx wy Fa na' ua' Na' la' qa' Fb nb ub Nb lb qb) ds st K
 | [.ptr a 10]=>runAt a st fun x y t wx wy fl Fa na ua Na la qa Fb nb ub Nb lb qb=>SND y Fb nb ub Nb lb qb t fun nb' ub' Nb' lb' qb'=>frS fl [] [.ptr 0 10] (stR x y t wx wy Fa na ua Na la qa Fb nb ub Nb lb qb) (.tup []) (stRb x y t wx wy Fa na ua Na la qa Fb nb' ub' Nb' lb' qb') ds st K
 | _=>False
theorem cSndT:∀ ds st K,spSnd OpsS.real 48 ds st K→FnS Try.prog 48 ds st K:=fun ds st K h=>by
 unfold spSnd at h
 split at h
 ·obtain ⟨x,y,t,wx,wy,fl,Fa,na,ua,Na,la,qa,Fb,nb,ub,Nb,lb,qb,hu⟩:=runAt_some h
  obtain ⟨_,_,_,_,_,k,h⟩:=hu.ex
  exact frS_ok (cSe0 x y t wx wy Fa na ua Na la qa Fb nb ub Nb lb qb _ _ _ _ _ k hu.pre) h
 ·obtain ⟨x,y,t,wx,wy,fl,Fa,na,ua,Na,la,qa,Fb,nb,ub,Nb,lb,qb,hu⟩:=runAt_some h
  obtain ⟨_,_,_,_,_,k,h⟩:=hu.ex
  exact frS_ok (cSe1 x y t wx wy Fa na ua Na la qa Fb nb ub Nb lb qb _ _ _ _ _ k hu.pre) h
 ·exact h.elim
structure RCV (x:SD) (now t:Int) (N n:Nat) (q:List tPar.den) (K:SD→Nat→List tPar.den→Prop):Prop where
 pre:HEARK now t N n q
 len:(hearO t n q).length≤64
 h:∀ x' n' q' o,n'=hearN t n q→q'=hearQ t n q→o=hearO t n q→x'=recvM x o→K x' n' q'
def spRcv:OpsS→CallS:=fun _ _ ds st K=>match ds with
 | [.ptr a 0]=>runAt a st fun x y t wx wy fl Fa na ua Na la qa Fb nb ub Nb lb qb=>RCV x nb t Nb lb qb fun x' n' q'=>frS fl [] [.ptr 0 0] (stR x y t wx wy Fa na ua Na la qa Fb nb ub Nb lb qb) (.tup []) (stR x' y t wx wy Fa na ua Na la qa Fb t ub Nb n' q') ds st K
 | [.ptr a 10]=>runAt a st fun x y t wx wy fl Fa na ua Na la qa Fb nb ub Nb lb qb=>RCV y na t Na la qa fun y' n' q'=>frS fl [] [.ptr 0 10] (stR x y t wx wy Fa na ua Na la qa Fb nb ub Nb lb qb) (.tup []) (stR x y' t wx wy Fa t ua Na n' q' Fb nb ub Nb lb qb) ds st K
 | _=>False
theorem cRcvT:∀ ds st K,spRcv OpsS.real 49 ds st K→FnS Try.prog 49 ds st K:=fun ds st K h=>by
 unfold spRcv at h
 split at h
 ·obtain ⟨x,y,t,wx,wy,fl,Fa,na,ua,Na,la,qa,Fb,nb,ub,Nb,lb,qb,hu⟩:=runAt_some h
  exact frS_ok (cRe0 x y t wx wy Fa na ua Na la qa Fb nb ub Nb lb qb _ _ _ rfl rfl rfl hu.pre hu.len) (hu.h _ _ _ _ rfl rfl rfl rfl)
 ·obtain ⟨x,y,t,wx,wy,fl,Fa,na,ua,Na,la,qa,Fb,nb,ub,Nb,lb,qb,hu⟩:=runAt_some h
  exact frS_ok (cRe1 x y t wx wy Fa na ua Na la qa Fb nb ub Nb lb qb _ _ _ rfl rfl rfl hu.pre hu.len) (hu.h _ _ _ _ rfl rfl rfl rfl)
 ·exact h.elim
end Go.Ab
