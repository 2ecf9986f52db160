/- The reference channel: Send and Hear. -/
import Derived.Test.YteiolnofaebknaaLl
set_option linter.unusedSimpArgs false
set_option linter.unusedVariables false
set_option maxRecDepth 20000
set_option maxHeartbeats 8000000
namespace Go.Ab
open Go.Proofs
def rfateM (F:List Int) (m:Nat):Int:=if m<F.length then gtR tI F m else 0
def rsE (F:List Int) (now:Int) (m n:Nat) (t:Int) (c:tChoice.den):Int:=
 if atM now t≠0 then atM now t else if lcheckM c≠0 then lcheckM c else if 0≤rfateM F m∧64≤n then 17 else 0
def rsA (F:List Int) (m:Nat) (t:Int) (c:tChoice.den) (A:List PT):List PT:=A ++ [(t+rfateM F m,((m:Int),c))]
def rsW (F:List Int) (m:Nat) (W:List Bool):List Bool:=W ++ [decide (0≤rfateM F m)]
theorem rfate_eq {l:List Int} (h:l.length≤256) (m:Nat):fateM (fatesM l) (m:Int)=rfateM l m:=by
 unfold fateM rfateM fatesM gtR
 simp only[Int.toNat_natCast,List.getD_eq_getElem?_getD,List.getElem?_append,List.getElem?_replicate]
 by_cases h1:m<l.length
 ·rw[if_pos (by omega),if_pos h1,if_pos h1]
 ·simp only[h1,if_false]
  split
  ·split <;> rfl
  ·rfl
def hrW (t:Int):List PT→List Bool→List Bool
 | [],W=>W
 | p :: l,W=>hrW t l (if p.1≤t then W.set p.2.1.toNat false else W)
theorem hrW_len {t:Int}:∀ (s:List PT) (W:List Bool),(hrW t s W).length=W.length
 | [],_=>rfl
 | p :: l,W=>by rw[hrW,hrW_len l];split <;> simp
theorem hrW_get {t:Int} {k:Nat}:∀ (s:List PT) (W:List Bool),(hrW t s W).getD k false=true↔W.getD k false=true∧∀ q∈s,q.1≤t→q.2.1.toNat≠k
 | [],W=>by simp[hrW]
 | p :: l,W=>by
  rw[hrW,hrW_get l]
  have key:(if p.1≤t then W.set p.2.1.toNat false else W).getD k false=true↔W.getD k false=true∧(p.1≤t→p.2.1.toNat≠k):=by
   split
   ·rename_i h
    simp only[List.getD_eq_getElem?_getD,List.getElem?_set]
    by_cases e:p.2.1.toNat=k
    ·simp only[e,h,if_true,forall_const,ne_eq,not_true_eq_false,and_false,iff_false]
     split <;> simp
    ·simp[e]
   ·rename_i h;simp[h]
  rw[key]
  simp only[List.mem_cons,forall_eq_or_imp]
  exact and_assoc
theorem drop_lateR {t:Int} {s:List PT} (h:s.Pairwise ltP):∀ p∈s.dropWhile (dueT t),¬ p.1≤t:=fun p hp=>by
 have hso:(s.dropWhile (dueT t)).Pairwise ltP:=h.sublist (List.dropWhile_sublist _)
 cases hc:s.dropWhile (dueT t) with
 | nil=>rw[hc]at hp;simp at hp
 | cons y r=>
  have hy:dueT t y≠true:=fun hh=>by
   have:=List.head?_dropWhile_not (dueT t) s
   rw[hc]at this
   simp[hh]at this
  have hy:¬ y.1≤t:=by simpa [dueT] using hy
  rw[hc]at hp hso
  rcases List.mem_cons.1 hp with rfl | h
  ·exact hy
  ·have:=(List.pairwise_cons.1 hso).1 _ h
   unfold ltP at this
   omega
theorem takeWhile_due {t:Int}:∀ (l:List PT),∀ x∈l.takeWhile (dueT t),x.1≤t
 | [],x,hx=>by simp at hx
 | y :: l,x,hx=>by
  rw[List.takeWhile]at hx
  split at hx
  ·rename_i h
   rcases List.mem_cons.1 hx with rfl | hx
   ·simpa [dueT] using h
   ·exact takeWhile_due l x hx
  ·simp at hx
theorem RR.at {s A:List PT} {W:List Bool} (h:RR s A W) {p:PT} (hp:p∈s):p.2.1.toNat<A.length∧p=ga A p.2.1.toNat∧W.getD p.2.1.toNat false=true∧0≤p.2.1:=by
 obtain ⟨k,hk,e,hw⟩:=h.mem p hp
 have h1:=h.num k hk
 rw[←e]at h1
 have h2:p.2.1.toNat=k:=by omega
 rw[h2];exact ⟨hk,e,hw,by omega⟩
theorem RR.hear {s A:List PT} {W:List Bool} (h:RR s A W) (t:Int):RR (s.dropWhile (dueT t)) A (hrW t s W):=by
 have hsub:∀ p∈s.dropWhile (dueT t),p∈s:=fun p hp=>(List.dropWhile_sublist _).subset hp
 refine ⟨h.so.sublist (List.dropWhile_sublist _),h.num,by rw[hrW_len];exact h.wl,fun p hp=>?_,fun k hk hw=>?_⟩
 ·obtain ⟨h1,h2,h3,h4⟩:=h.at (hsub p hp)
  refine ⟨_,h1,h2,(hrW_get s W).2 ⟨h3,fun q hq hqt e=>?_⟩⟩
  obtain ⟨k1,k2,k3,k4⟩:=h.at hq
  rw[e,←h2]at k2
  exact drop_lateR h.so p hp (by rw[←k2];exact hqt)
 ·obtain ⟨h1,h2⟩:=(hrW_get s W).1 hw
  have hm:=h.all k hk h1
  rw[←List.takeWhile_append_dropWhile (p:=dueT t) (l:=s)]at hm
  rcases List.mem_append.1 hm with hm | hm
  ·have h3:=h.num k hk
   exact absurd (by omega) (h2 _ (h.all k hk h1) (takeWhile_due s _ hm))
  ·exact hm
theorem ga_app {A:List PT} {x:PT} {k:Nat}:ga (A ++ [x]) k=if k<A.length then ga A k else if k=A.length then x else tPar.dflt:=by
 unfold ga
 simp only[List.getD_eq_getElem?_getD,List.getElem?_append]
 by_cases h:k<A.length
 ·simp[h]
 ·simp only[h,if_false]
  by_cases e:k=A.length
  ·subst e;simp
  ·rw[if_neg e,List.getElem?_eq_none (by simp;omega)];rfl
theorem getD_appB {W:List Bool} {x:Bool} {k:Nat}:(W ++ [x]).getD k false=if k<W.length then W.getD k false else if k=W.length then x else false:=by
 simp only[List.getD_eq_getElem?_getD,List.getElem?_append]
 by_cases h:k<W.length
 ·simp[h]
 ·simp only[h,if_false]
  by_cases e:k=W.length
  ·subst e;simp
  ·rw[if_neg e,List.getElem?_eq_none (by simp;omega)];rfl
theorem RR.lt {s A:List PT} {W:List Bool} (h:RR s A W):∀ y∈s,y.2.1<(A.length:Int):=fun y hy=>by
 obtain ⟨h1,_,_,h4⟩:=h.at hy;omega
theorem RR.send {s A:List PT} {W:List Bool} (h:RR s A W) {l:List Int} (hl:l.length≤256) (hf : -1≤rfateM l A.length) (t:Int) (c:tChoice.den):RR (sIns (fatesM l) A.length t c s) (rsA l A.length t c A) (rsW l A.length W):=by
 have hN:=h.lt
 have hwl:=h.wl
 have num:∀ k,k<(rsA l A.length t c A).length→(ga (rsA l A.length t c A) k).2.1=(k:Int):=fun k hk=>by
  unfold rsA at hk ⊢
  rw[ga_app]
  split
  ·exact h.num k ‹_›
  ·have:k=A.length:=by simp at hk;omega
   rw[if_pos this,this]
 have gk:∀ k,k<A.length→ga (rsA l A.length t c A) k=ga A k:=fun k hk=>by unfold rsA;rw[ga_app,if_pos hk]
 have wk:∀ k,k<A.length→(rsW l A.length W).getD k false=W.getD k false:=fun k hk=>by unfold rsW;rw[getD_appB,if_pos (by omega)]
 have ge:ga (rsA l A.length t c A) A.length=(t+rfateM l A.length,((A.length:Int),c)):=by unfold rsA;rw[ga_app,if_neg (by omega),if_pos rfl]
 have we:(rsW l A.length W).getD A.length false=decide (0≤rfateM l A.length):=by unfold rsW;rw[getD_appB,if_neg (by omega),if_pos hwl.symm]
 have hlen:(rsA l A.length t c A).length=A.length+1:=by simp[rsA]
 have hlw:(rsW l A.length W).length=A.length+1:=by simp[rsW,hwl]
 unfold sIns
 rw[rfate_eq hl]
 split
 ·rename_i hf1
  refine ⟨h.so,num,by rw[hlen,hlw],fun p hp=>?_,fun k hk hw=>?_⟩
  ·obtain ⟨k,hk,e,hw⟩:=h.mem p hp
   exact ⟨k,by omega,by rw[gk k hk];exact e,by rw[wk k hk];exact hw⟩
  ·by_cases hka:k<A.length
   ·rw[gk k hka];rw[wk k hka]at hw;exact h.all k hka hw
   ·have:k=A.length:=by omega
    subst this
    rw[we,hf1]at hw
    exact absurd hw (by decide)
 ·rename_i hf1
  refine ⟨insP_so h.so hN,num,by rw[hlen,hlw],fun p hp=>?_,fun k hk hw=>?_⟩
  ·rcases List.mem_cons.1 ((insP_perm _ _).mem_iff.1 hp) with rfl | hp
   ·exact ⟨A.length,by omega,ge.symm,by rw[we];simp;omega⟩
   ·obtain ⟨k,hk,e,hw⟩:=h.mem p hp
    exact ⟨k,by omega,by rw[gk k hk];exact e,by rw[wk k hk];exact hw⟩
  ·refine (insP_perm _ _).mem_iff.2 ?_
   by_cases hka:k<A.length
   ·rw[gk k hka];rw[wk k hka]at hw;exact List.mem_cons_of_mem _ (h.all k hka hw)
   ·have:k=A.length:=by omega
    subst this
    rw[ge];exact List.mem_cons_self
theorem RR.nil:RR [] [] []:=⟨.nil,fun k hk=>by simp at hk,rfl,fun p hp=>by simp at hp,fun k hk=>by simp at hk⟩
theorem r32c (a t se m:Int):PurS Try.prog 37 [injT tChoice (a,(t,(se,m)))] (.p (iv (lcheckM (a,(t,(se,m)))))):=by
 refine PurS.of (S:=[]) (T:=[]) (U:=[]) (tbl:=[]) (n:=39) hm33 cfg .nil .nil .nil .nil 0 Try.call37 Try.func37 (ac37_ok (some (0,0))) (by rw[Try.ntmps37];exact Nat.le_refl _) rfl ⟨_,rfl⟩ ?_
 intro cmp ar cv tn ic ai mx an ad ml sb mn ln em gt up ap sc vw cp rp p1 p2 s1 s2 X Y hX hY r0 r1 r2 r3 r4 r5 r6 r7 r8 r9 r10 r11 r12 r13 r14 r15 r16 r17 r18 r19 r20 r21 r22 r23 r24
 generalize hg0:lcheckM=g0
 cbv
 repeat' (first | exact True.intro | refine And.intro ?_ ?_ | (refine BR.mk ?_ ?_ <;> intro _) | (refine CASE.mk ?_;intro _))
 all_goals subst_vars
 all_goals try simp only[Short_iff,cmpR,arR,mxR,INB_iff,SLB_iff,SLM_iff,NZ_iff,NN_iff,EQN_iff,LEN_iff,LIM_iff,MK_iff,decide_eq_true_eq,decide_eq_false_iff_not,ne_eq,Bool.and_eq_true]at *
 all_goals try dsimp only[Ty.den]at *
 all_goals try simp only[nc_eq]at *
 all_goals try (simp (disch:=omega) only[wrap64]at *)
 all_goals grind [lcheckM]
structure RPN (m:Nat) (A:List PT) (W:List Bool) (K:List PT→Prop):Prop where
 pre:∃ s,RR s A W∧A.length=m∧m≤1000∧s.length≤1000∧K s
def refAt (a:Nat) (st:StS) (K:Nat→Nat→List Int→Int→Option (Nat×Nat×Nat×List tPar.den×List Bool)→Prop):Prop:=match nthD st.box a with
 | some B=>(match B.cells with
  | [.ms f 0 1 none k,.p (.v (.int .i64 now)),x,y]=>(match nthD st.box f with
   | some B=>(match B.cells with
    | [.arr k1 t F]=>k1=k∧(match castL tI t F with
     | some F=>(match x,y with
      | .ms b 0 6 none m,.ms c 0 1 none m'=>m'=m∧(match nthD st.box b,nthD st.box c with
       | some B,some C=>(match B.cells,C.cells with
        | [.arr m1 t1 A],[.arr m2 t2 W]=>m1=m∧m2=m∧(match castL tPar t1 A,castL tB t2 W with
         | some A,some W=>K f k F now (some (b,c,m,A,W))
         | _,_=>False)
        | _,_=>False)
       | _,_=>False)
      | .tl (some true) (.pair (.int .i64) (.pair (.int .i64) (.pair (.int .i64) (.pair (.int .i64) (.pair (.int .u8) (.int .i64)))))) [],.tl (some true) .bool []=>K f k F now none
      | _,_=>False)
     | none=>False)
    | _=>False)
   | none=>False)
  | _=>False)
 | none=>False
theorem refAt_some {a:Nat} {st:StS} {K:Nat→Nat→List Int→Int→Option (Nat×Nat×Nat×List tPar.den×List Bool)→Prop} (h:refAt a st K):∃ f k F now x,K f k F now x:=by
 unfold refAt at h
 repeat' split at h
 all_goals first | exact h.elim | exact h.2.elim | exact h.2.2.elim | exact h.2.2.2.elim | exact h.2.2.2.2.elim | exact ⟨_,_,_,_,_,h.2.2.2.2⟩ | exact ⟨_,_,_,_,_,h.2.2.2⟩ | exact ⟨_,_,_,_,_,h.2.2⟩ | exact ⟨_,_,_,_,_,h.2⟩
def spRPend:OpsS→CallS:=fun o _ ds st K=>match ds with
 | [.ptr a 0]=>refAt a st fun f k F now x=>(match x with
  | some (b,c,m,A,W)=>RPN m A W fun s=>frS [a,f,b,c] [] [.ptr 0 0] (refS k F now m A W) (.og 0 tPar s) ⟨(refS k F now m A W).box,[(o.ml (o.ln tPar s) 6,97)]⟩ ds st K
  | none=>frS [a,f] [] [.ptr 0 0] (refE k F now) (.p (.sl (some true) 0 [])) (refE k F now) ds st K)
 | _=>False
theorem rPendT:∀ ds st K,spRPend OpsS.real 54 ds st K→FnS Try.prog 54 ds st K:=fun ds st K h=>by
 unfold spRPend at h
 split at h
 ·obtain ⟨f,k,F,now,x,hu⟩:=refAt_some h
  split at hu
  ·obtain ⟨s,hr,hA,hm,hs,hu⟩:=hu.pre
   exact frS_ok (rPend k F now _ _ _ hA s hr hm hs _ rfl) hu
  ·exact frS_ok (rPend0 k F now) hu
 ·exact h.elim
theorem rsE_time {F:List Int} {now:Int} {m n:Nat} {t:Int} {c:tChoice.den}:(t<0→rsE F now m n t c=1)∧(t>1099511627776→rsE F now m n t c=1)∧(¬ t<0→¬ t>1099511627776→t<now→rsE F now m n t c=12) ∧
  (¬ t<0→¬ t>1099511627776→¬ t<now→(¬ lcheckM c=0→rsE F now m n t c=lcheckM c)∧(lcheckM c=0→rsE F now m n t c=if 0≤rfateM F m∧64≤n then 17 else 0)):=by
 refine ⟨fun h=>?_,fun h=>?_,fun h1 h2 h3=>?_,fun h1 h2 h3=>?_⟩
 ·have e:atM now t=1:=by unfold atM;rw[if_pos (.inl h)]
  unfold rsE;rw[e];simp
 ·have e:atM now t=1:=by unfold atM;rw[if_pos (.inr h)]
  unfold rsE;rw[e];simp
 ·have e:atM now t=12:=by unfold atM;rw[if_neg (by omega),if_pos h3]
  unfold rsE;rw[e];simp
 ·have e:atM now t=0:=by unfold atM;rw[if_neg (by omega),if_neg h3]
  unfold rsE;rw[e]
  exact ⟨fun h4=>by simp[h4],fun h4=>by simp[h4]⟩
theorem vwR_all {t:Ty} {n:Nat} {l:List t.den} (h:l.length=n):vwR t n l 0 n=l:=by unfold vwR;rw[Ty.norm_eq t h,List.drop_zero,←h,List.take_length]
theorem rSendSe (k:Nat) (F:List Int) (now:Int) (m:Nat) (A:List tPar.den) (W:List Bool) (t:Int) (c:tChoice.den) (s:List PT) (e:Int) (hk:F.length=k) (hA:A.length=m) (hr:RR s A W) (hm:m≤300) (hs:s.length≤300) (he:e=rsE F now m s.length t c) (h0:e≠0):FnS Try.prog 42 ([.ptr 0 0,.p (iv t),injT tChoice c]) (refS k F now m A W ) fun x_ s_=>x_=(.p (iv e))∧s_=(refS k F now m A W):=by
 refine FnS.of (S:=[(37,_)]) (T:=[(54,_)]) (U:=[]) (tbl:=[(53,ac53 none,[.tmp 4],17)]) (n:=77) hm33 cfg (.cons (spT1.ok (a:=(.pair (.int .i64) (.pair (.int .i64) (.pair (.int .u8) (.int .i64))))) (pre:=fun _=>True) fun x0 _=>r32c x0.1 x0.2.1 x0.2.2.1 x0.2.2.2) .nil) (.cons rPendT .nil) .nil (.cons Try.call53 Try.func53 (ac53_ok none) (by rw[Try.ntmps53];exact Nat.le_refl _) .nil) 6 Try.call42 Try.func42 (ac42_ok (some (4,0))) (by rw[Try.ntmps42];exact Nat.le_refl _) rfl _ _ _ (by rfl) ?_
 intro cmp ar cv tn ic ai mx an ad ml sb mn ln em gt up ap sc vw cp rp p1 p2 s1 s2 X Y hX hY r0 r1 r2 r3 r4 r5 r6 r7 r8 r9 r10 r11 r12 r13 r14 r15 r16 r17 r18 r19 r20 r21 r22 r23 r24
 generalize hg0:lcheckM=g0
 cbv
 have hg:g0 (c.1,c.2.1,c.2.2.1,c.2.2.2)=lcheckM c:=by rw[←hg0]
 have hf:rfateM F m=if m<k then gt tI F m else 0:=by rw[r14];unfold rfateM;rw[hk]
 have hic:∀ n,ic n=n:=fun n=>by rw[r4]
 have hmi:((m:Nat):Int)<k↔m<k:=by omega
 obtain ⟨a1,a2,a3,a4⟩:=rsE_time (F:=F) (now:=now) (m:=m) (n:=s.length) (t:=t) (c:=c)
 rw[←he]at a1 a2 a3 a4
 obtain ⟨lc,hlc⟩:∃ z,z=lcheckM c:=⟨_,rfl⟩
 rw[←hlc]at a4
 obtain ⟨mi,hmi0⟩:∃ z:Int,z=ic m:=⟨_,rfl⟩
 obtain ⟨ki,hki0⟩:∃ z:Int,z=ic k:=⟨_,rfl⟩
 have hmi1:=hmi0.trans (hic m)
 have hki1:=hki0.trans (hic k)
 rw[←hmi1]at hf
 rw[←hmi1,←hki1]at hmi
 dsimp only
 rw[hg,←hlc,←hmi0,←hki0]
 have key:∀ (r:Int) g,e=r→RET 4 0 (.p (iv r)) ⟨(refS k F now m A W).box ++ [{ cells:=[.p (iv c.1),.p (iv c.2.1),.p (.v (.int .u8 c.2.2.1)),.p (iv c.2.2.2)],e:=25,fz:=false }],g⟩ (.p (iv e)) (refS k F now m A W):=fun r g hr=>by
  subst hr
  refine RET.mk ⟨[some 0,some 1,some 2,some 3],[],?_⟩;rw[SIM_iff];cbv;try simp[nlLe_self,lstEq]
 have w1:∀ (r:Int) {A B:Prop},e=r→A→BR (cmp .neq r 0) A B:=fun r A B hr h=>BR.neq r0 (fun _=>h) fun h2=>absurd (hr.trans (Classical.not_not.1 h2)) h0
 have w2:∀ (r:Int) {A B:Prop},e=r→B→BR (cmp .eql r 0) A B:=fun r A B hr h=>BR.eql r0 (fun h2=>absurd (hr.trans h2) h0) fun _=>h
 refine BR.lss r0 (fun h1=>w2 _ (a1 h1) (w1 _ (a1 h1) (key _ _ (a1 h1)))) fun h1=>?_
 refine BR.gtr r0 (fun h2=>w2 _ (a2 h2) (w1 _ (a2 h2) (key _ _ (a2 h2)))) fun h2=>?_
 refine BR.lss r0 (fun h3=>w2 _ (a3 h1 h2 h3) (w1 _ (a3 h1 h2 h3) (key _ _ (a3 h1 h2 h3)))) fun h3=>?_
 obtain ⟨a4,a5⟩:=a4 h1 h2 h3
 refine BR.eql r0 (fun _=>?_) fun h=>absurd rfl h
 refine BR.neq r0 (fun h4=>key _ _ (a4 h4)) fun h4=>?_
 have a5:=a5 (Classical.not_not.1 h4)
 have a6:0≤rfateM F m∧64≤s.length:=by
  by_cases hh:0≤rfateM F m∧64≤s.length
  ·exact hh
  ·rw[if_neg hh]at a5;exact absurd a5 h0
 rw[if_pos a6]at a5
 rw[hf]at a6
 clear a1 a2 a3 a4
 have fin:∀ (X:Prop) (z:Nat),z=s.length→BR (cmp .geq (ic z) 64) (RET 4 0 (.p (iv 17)) ⟨(refS k F now m A W).box ++ [{ cells:=[.p (iv c.1),.p (iv c.2.1),.p (.v (.int .u8 c.2.2.1)),.p (iv c.2.2.2)],e:=25,fz:=false }],[(ml (ln tPar s) 6,97)]⟩ (.p (iv e)) (refS k F now m A W)) X:=fun X z hz=>BR.geq r0 (fun _=>key _ _ a5) fun h=>absurd (by rw[hic,hz];have:=a6.2;omega) h
 refine BR.lss r0 (fun h5=>?_) fun h5=>?_
 ·rw[if_pos (hmi.1 h5)]at a6
  refine ⟨⟨by omega,h5⟩,⟨by omega,h5⟩,BR.geq r0 (fun h6=>RPN.mk ⟨s,hr,hA,by omega,by omega,?_⟩) fun h6=>absurd a6.1 h6⟩
  cbv
  exact fin _ _ (by rw[r12])
 ·refine BR.geq r0 (fun h6=>RPN.mk ⟨s,hr,hA,by omega,by omega,?_⟩) fun h6=>absurd (by decide) h6
  cbv
  exact fin _ _ (by rw[r12])
theorem rSendSo (k:Nat) (F:List Int) (now:Int) (m:Nat) (A:List tPar.den) (W:List Bool) (t:Int) (c:tChoice.den) (s:List PT) (e:Int) (hk:F.length=k) (hA:A.length=m) (hr:RR s A W) (hm:m≤300) (hs:s.length≤300) (he:e=rsE F now m s.length t c) (he0:e=0) (hfb : -1≤rfateM F m∧rfateM F m≤8) (m2:Nat) (A2:List tPar.den) (W2:List Bool) (hm2:m2=m+1) (hA2:A2=rsA F m t c A) (hW2:W2=rsW F m W):FnS Try.prog 42 ([.ptr 0 0,.p (iv t),injT tChoice c]) (refS k F now m A W ) fun x_ s_=>x_=(.p (iv 0))∧s_=(refN k F t m2 A2 W2):=by
 refine FnS.of (S:=[(37,_)]) (T:=[(54,_)]) (U:=[]) (tbl:=[(53,ac53 none,[.tmp 4],17)]) (n:=77) hm33 cfg (.cons (spT1.ok (a:=(.pair (.int .i64) (.pair (.int .i64) (.pair (.int .u8) (.int .i64))))) (pre:=fun _=>True) fun x0 _=>r32c x0.1 x0.2.1 x0.2.2.1 x0.2.2.2) .nil) (.cons rPendT .nil) .nil (.cons Try.call53 Try.func53 (ac53_ok none) (by rw[Try.ntmps53];exact Nat.le_refl _) .nil) 6 Try.call42 Try.func42 (ac42_ok (some (4,0))) (by rw[Try.ntmps42];exact Nat.le_refl _) rfl _ _ _ (by rfl) ?_
 intro cmp ar cv tn ic ai mx an ad ml sb mn ln em gt up ap sc vw cp rp p1 p2 s1 s2 X Y hX hY r0 r1 r2 r3 r4 r5 r6 r7 r8 r9 r10 r11 r12 r13 r14 r15 r16 r17 r18 r19 r20 r21 r22 r23 r24
 generalize hg0:lcheckM=g0
 cbv
 have hg:g0 (c.1,c.2.1,c.2.2.1,c.2.2.2)=lcheckM c:=by rw[←hg0]
 have hf:rfateM F m=if m<k then gt tI F m else 0:=by rw[r14];unfold rfateM;rw[hk]
 have hic:∀ n,ic n=n:=fun n=>by rw[r4]
 have hmi:((m:Nat):Int)<k↔m<k:=by omega
 obtain ⟨a1,a2,a3,a4⟩:=rsE_time (F:=F) (now:=now) (m:=m) (n:=s.length) (t:=t) (c:=c)
 rw[←he]at a1 a2 a3 a4
 obtain ⟨lc,hlc⟩:∃ z,z=lcheckM c:=⟨_,rfl⟩
 rw[←hlc]at a4
 obtain ⟨mi,hmi0⟩:∃ z:Int,z=ic m:=⟨_,rfl⟩
 obtain ⟨ki,hki0⟩:∃ z:Int,z=ic k:=⟨_,rfl⟩
 have hmi1:=hmi0.trans (hic m)
 have hki1:=hki0.trans (hic k)
 rw[←hmi1]at hf
 rw[←hmi1,←hki1]at hmi
 dsimp only
 rw[hg,←hlc,←hmi0,←hki0]
 have hap1:∀ x:tPar.den,ap tPar A [x]=A ++ [x]:=fun x=>by rw[r16]
 have hapB:∀ x:Bool,ap tB W [x]=W ++ [x]:=fun x=>by rw[r16]
 have hl1:∀ x:tPar.den,ad m (ln tPar [x])=m+1:=fun x=>by rw[r8,r12];rfl
 have hl2:∀ x:Bool,ad m (ln tB [x])=m+1:=fun x=>by rw[r8,r12];rfl
 have hv1:vw tPar m A 0 m=A:=by rw[r18];exact vwR_all (t:=tPar) hA
 have hv2:vw tB m W 0 m=W:=by rw[r18];exact vwR_all (t:=tB) (hr.wl.trans hA)
 have w1:∀ (r:Int) {A B:Prop},e=r→B→BR (cmp .neq r 0) A B:=fun r A B hr h=>BR.neq r0 (fun h2=>absurd (hr.symm.trans he0) h2) fun _=>h
 refine BR.lss r0 (fun h1=>absurd ((a1 h1).symm.trans he0) (by decide)) fun h1=>?_
 refine BR.gtr r0 (fun h2=>absurd ((a2 h2).symm.trans he0) (by decide)) fun h2=>?_
 refine BR.lss r0 (fun h3=>absurd ((a3 h1 h2 h3).symm.trans he0) (by decide)) fun h3=>?_
 obtain ⟨a4,a5⟩:=a4 h1 h2 h3
 refine BR.eql r0 (fun _=>?_) fun h=>absurd rfl h
 refine BR.neq r0 (fun h4=>absurd ((a4 h4).symm.trans he0) h4) fun h4=>?_
 have a5:=a5 (Classical.not_not.1 h4)
 have a6:¬ (0≤rfateM F m∧64≤s.length):=fun hh=>by rw[if_pos hh,he0]at a5;cases a5
 obtain ⟨f,hfe⟩:∃ f,f=rfateM F m:=⟨_,rfl⟩
 rw[←hfe]at a6 hf hfb
 have hadd:ar .add .i64 t f=t+f:=by rw[r1];exact wrap64 (n:=t+f) (by omega) (by omega)
 clear a1 a2 a3 a4
 unfold rsA at hA2
 unfold rsW at hW2
 rw[←hfe,←hmi1]at hA2
 rw[←hfe]at hW2
 have hA3:∀ x:tPar.den,x=(t+f,(mi,c))→ap tPar A [x]=A2:=fun x hx=>by rw[r16,hA2,hx]
 have hW3:∀ x:Bool,(x=true↔0≤f)→ap tB W [x]=W2:=fun x hx=>by rw[r16,hW2];congr 2;cases x <;> simp at hx ⊢ <;> omega
 have hL1:∀ x:tPar.den,ad m (ln tPar [x])=m2:=fun x=>(hl1 x).trans hm2.symm
 have hL2:∀ x:Bool,ad m (ln tB [x])=m2:=fun x=>(hl2 x).trans hm2.symm
 have fin:∀ g,RET 4 0 (.p (iv 0)) ⟨[{ cells:=[.ms 1 0 1 none k,.p (iv t),.ms 5 0 6 none m2,.ms 6 0 1 none m2],e:=93,fz:=false },{ cells:=[.arr k tI F],e:=3,fz:=false,ap:=true },
   { cells:=[],e:=97,fz:=true,ap:=true },{ cells:=[],e:=4,fz:=true,ap:=true },{ cells:=[.p (iv c.1),.p (iv c.2.1),.p (.v (.int .u8 c.2.2.1)),.p (iv c.2.2.2)],e:=25,fz:=false },
   { cells:=[.arr m2 tPar A2],e:=97,fz:=false,ap:=true },{ cells:=[.arr m2 tB W2],e:=4,fz:=false,ap:=true }],g⟩ (.p (iv 0)) (refN k F t m2 A2 W2):=fun g=>by
  refine RET.mk ⟨[some 0,some 1,none,none,some 5,some 6],[],?_⟩;rw[SIM_iff];cbv;try simp[nlLe_self,lstEq]
 clear hl1 hl2 hap1 hapB hA2 hW2
 have hlen:LEN m m:=⟨Nat.le_refl _⟩
 have hlim1:LIM m2 48:=⟨by omega,by simp only[maxLen];omega⟩
 have hlim2:LIM m2 1:=⟨by omega,by simp only[maxLen];omega⟩
 refine BR.lss r0 (fun h5=>?_) fun h5=>?_
 ·rw[if_pos (hmi.1 h5)]at hf
  rw[←hf]
  refine ⟨⟨by omega,h5⟩,⟨by omega,h5⟩,BR.geq r0 (fun h6=>RPN.mk ⟨s,hr,hA,by omega,by omega,?_⟩) fun h6=>?_⟩
  ·cbv
   refine BR.geq r0 (fun h7=>absurd ⟨h6,by rw[hic,r12]at h7;have h7:(64:Int)≤(s.length:Int):=h7;omega⟩ a6) fun _=>?_
   rw[hadd,hL1,hv1,hA3 _ rfl]
   refine ⟨hlen,hlim1,BR.geq r0 (fun h8=>?_) fun h8=>absurd h6 h8⟩
   rw[hL2,hv2,hW3 _ (by simp[h6])]
   exact ⟨hlen,hlim2,fin _⟩
  ·rw[hadd,hL1,hv1,hA3 _ rfl]
   refine ⟨hlen,hlim1,BR.geq r0 (fun h8=>absurd h8 h6) fun h8=>?_⟩
   rw[hL2,hv2,hW3 _ (by simp;omega)]
   exact ⟨hlen,hlim2,fin _⟩
 ·rw[if_neg (fun h=>h5 (hmi.2 h))]at hf
  subst hf
  refine BR.geq r0 (fun h6=>RPN.mk ⟨s,hr,hA,by omega,by omega,?_⟩) fun h6=>absurd (by decide) h6
  cbv
  refine BR.geq r0 (fun h7=>absurd ⟨h6,by rw[hic,r12]at h7;have h7:(64:Int)≤(s.length:Int):=h7;omega⟩ a6) fun _=>?_
  rw[hadd,hL1,hv1,hA3 _ rfl]
  refine ⟨hlen,hlim1,BR.geq r0 (fun h8=>?_) fun h8=>absurd h6 h8⟩
  rw[hL2,hv2,hW3 _ (by simp)]
  exact ⟨hlen,hlim2,fin _⟩
theorem rSendEe (k:Nat) (F:List Int) (now:Int) (t:Int) (c:tChoice.den) (e:Int) (hk:F.length=k) (he:e=rsE F now 0 0 t c) (h0:e≠0):FnS Try.prog 42 ([.ptr 0 0,.p (iv t),injT tChoice c]) (refE k F now ) fun x_ s_=>x_=(.p (iv e))∧s_=(refE k F now):=by
 refine FnS.of (S:=[(37,_)]) (T:=[(54,_)]) (U:=[]) (tbl:=[(53,ac53 none,[.tmp 4],17)]) (n:=77) hm33 cfg (.cons (spT1.ok (a:=(.pair (.int .i64) (.pair (.int .i64) (.pair (.int .u8) (.int .i64))))) (pre:=fun _=>True) fun x0 _=>r32c x0.1 x0.2.1 x0.2.2.1 x0.2.2.2) .nil) (.cons rPendT .nil) .nil (.cons Try.call53 Try.func53 (ac53_ok none) (by rw[Try.ntmps53];exact Nat.le_refl _) .nil) 6 Try.call42 Try.func42 (ac42_ok (some (2,0))) (by rw[Try.ntmps42];exact Nat.le_refl _) rfl _ _ _ (by rfl) ?_
 intro cmp ar cv tn ic ai mx an ad ml sb mn ln em gt up ap sc vw cp rp p1 p2 s1 s2 X Y hX hY r0 r1 r2 r3 r4 r5 r6 r7 r8 r9 r10 r11 r12 r13 r14 r15 r16 r17 r18 r19 r20 r21 r22 r23 r24
 generalize hg0:lcheckM=g0
 cbv
 have hg:g0 (c.1,c.2.1,c.2.2.1,c.2.2.2)=lcheckM c:=by rw[←hg0]
 have hic:∀ n,ic n=n:=fun n=>by rw[r4]
 have hl0:ln tPar []=0:=by rw[r12];rfl
 have hi0:ic 0=0:=by rw[r4];rfl
 have hf:rfateM F 0=if 0<k then gt tI F 0 else 0:=by rw[r14];unfold rfateM;rw[hk];rfl
 obtain ⟨a1,a2,a3,a4⟩:=rsE_time (F:=F) (now:=now) (m:=0) (n:=0) (t:=t) (c:=c)
 rw[←he]at a1 a2 a3 a4
 obtain ⟨lc,hlc⟩:∃ z,z=lcheckM c:=⟨_,rfl⟩
 rw[←hlc]at a4
 obtain ⟨ki,hki0⟩:∃ z:Int,z=ic k:=⟨_,rfl⟩
 have hki1:=hki0.trans (hic k)
 have hmi:(0:Int)<ki↔0<k:=by rw[hki1];omega
 dsimp only
 rw[hl0,hi0,hg,←hlc,←hki0]
 have key:∀ (r:Int) g,e=r→RET 2 0 (.p (iv r)) ⟨(refE k F now).box ++ [{ cells:=[.p (iv c.1),.p (iv c.2.1),.p (.v (.int .u8 c.2.2.1)),.p (iv c.2.2.2)],e:=25,fz:=false }],g⟩ (.p (iv e)) (refE k F now):=fun r g hr=>by
  subst hr
  refine RET.mk ⟨[some 0,some 1],[],?_⟩;rw[SIM_iff];cbv;try simp[nlLe_self,lstEq]
 have w1:∀ (r:Int) {A B:Prop},e=r→A→BR (cmp .neq r 0) A B:=fun r A B hr h=>BR.neq r0 (fun _=>h) fun h2=>absurd (hr.trans (Classical.not_not.1 h2)) h0
 have w2:∀ (r:Int) {A B:Prop},e=r→B→BR (cmp .eql r 0) A B:=fun r A B hr h=>BR.eql r0 (fun h2=>absurd (hr.trans h2) h0) fun _=>h
 refine BR.lss r0 (fun h1=>w2 _ (a1 h1) (w1 _ (a1 h1) (key _ _ (a1 h1)))) fun h1=>?_
 refine BR.gtr r0 (fun h2=>w2 _ (a2 h2) (w1 _ (a2 h2) (key _ _ (a2 h2)))) fun h2=>?_
 refine BR.lss r0 (fun h3=>w2 _ (a3 h1 h2 h3) (w1 _ (a3 h1 h2 h3) (key _ _ (a3 h1 h2 h3)))) fun h3=>?_
 obtain ⟨a4,a5⟩:=a4 h1 h2 h3
 refine BR.eql r0 (fun _=>?_) fun h=>absurd rfl h
 refine BR.neq r0 (fun h4=>key _ _ (a4 h4)) fun h4=>?_
 have a5:=a5 (Classical.not_not.1 h4)
 rw[if_neg (by omega)]at a5
 exact absurd a5 h0
theorem rSendEo (k:Nat) (F:List Int) (now:Int) (t:Int) (c:tChoice.den) (e:Int) (hk:F.length=k) (he:e=rsE F now 0 0 t c) (he0:e=0) (hfb : -1≤rfateM F 0∧rfateM F 0≤8) (x:tPar.den) (hx:x=(t+rfateM F 0,(0,c))) (b:Bool) (hb:b=decide (0≤rfateM F 0)):FnS Try.prog 42 ([.ptr 0 0,.p (iv t),injT tChoice c]) (refE k F now ) fun x_ s_=>x_=(.p (iv 0))∧s_=(refS k F t 1 [x] [b]):=by
 refine FnS.of (S:=[(37,_)]) (T:=[(54,_)]) (U:=[]) (tbl:=[(53,ac53 none,[.tmp 4],17)]) (n:=77) hm33 cfg (.cons (spT1.ok (a:=(.pair (.int .i64) (.pair (.int .i64) (.pair (.int .u8) (.int .i64))))) (pre:=fun _=>True) fun x0 _=>r32c x0.1 x0.2.1 x0.2.2.1 x0.2.2.2) .nil) (.cons rPendT .nil) .nil (.cons Try.call53 Try.func53 (ac53_ok none) (by rw[Try.ntmps53];exact Nat.le_refl _) .nil) 6 Try.call42 Try.func42 (ac42_ok (some (2,0))) (by rw[Try.ntmps42];exact Nat.le_refl _) rfl _ _ _ (by rfl) ?_
 intro cmp ar cv tn ic ai mx an ad ml sb mn ln em gt up ap sc vw cp rp p1 p2 s1 s2 X Y hX hY r0 r1 r2 r3 r4 r5 r6 r7 r8 r9 r10 r11 r12 r13 r14 r15 r16 r17 r18 r19 r20 r21 r22 r23 r24
 generalize hg0:lcheckM=g0
 cbv
 have hg:g0 (c.1,c.2.1,c.2.2.1,c.2.2.2)=lcheckM c:=by rw[←hg0]
 have hic:∀ n,ic n=n:=fun n=>by rw[r4]
 have hl0:ln tPar []=0:=by rw[r12];rfl
 have hi0:ic 0=0:=by rw[r4];rfl
 have hf:rfateM F 0=if 0<k then gt tI F 0 else 0:=by rw[r14];unfold rfateM;rw[hk];rfl
 obtain ⟨a1,a2,a3,a4⟩:=rsE_time (F:=F) (now:=now) (m:=0) (n:=0) (t:=t) (c:=c)
 rw[←he]at a1 a2 a3 a4
 obtain ⟨lc,hlc⟩:∃ z,z=lcheckM c:=⟨_,rfl⟩
 rw[←hlc]at a4
 obtain ⟨ki,hki0⟩:∃ z:Int,z=ic k:=⟨_,rfl⟩
 have hki1:=hki0.trans (hic k)
 have hmi:(0:Int)<ki↔0<k:=by rw[hki1];omega
 dsimp only
 rw[hl0,hi0,hg,←hlc,←hki0]
 have hL1:∀ x:tPar.den,ln tPar [x]=1:=fun x=>by rw[r12];rfl
 have hL2:∀ x:Bool,ln tB [x]=1:=fun x=>by rw[r12];rfl
 have hap1:∀ x:tPar.den,ap tPar [] [x]=[x]:=fun x=>by rw[r16];rfl
 have hap2:∀ x:Bool,ap tB [] [x]=[x]:=fun x=>by rw[r16];rfl
 have hml:∀ x y,ml x y=x*y:=fun x y=>by rw[r9]
 have had:∀ x y,ad x y=x+y:=fun x y=>by rw[r8]
 refine BR.lss r0 (fun h1=>absurd ((a1 h1).symm.trans he0) (by decide)) fun h1=>?_
 refine BR.gtr r0 (fun h2=>absurd ((a2 h2).symm.trans he0) (by decide)) fun h2=>?_
 refine BR.lss r0 (fun h3=>absurd ((a3 h1 h2 h3).symm.trans he0) (by decide)) fun h3=>?_
 obtain ⟨a4,a5⟩:=a4 h1 h2 h3
 refine BR.eql r0 (fun _=>?_) fun h=>absurd rfl h
 refine BR.neq r0 (fun h4=>absurd ((a4 h4).symm.trans he0) h4) fun h4=>?_
 obtain ⟨f,hfe⟩:∃ f,f=rfateM F 0:=⟨_,rfl⟩
 rw[←hfe]at hf hfb
 have hadd:ar .add .i64 t f=t+f:=by rw[r1];exact wrap64 (n:=t+f) (by omega) (by omega)
 clear a1 a2 a3 a4 a5
 rw[←hfe]at hx hb
 have hnl:((((nlLe (some true) (some true)∧True)∧(nlLe (some true) (some true)∧True)∧True)∧True)∧True):=⟨⟨⟨⟨nlLe_self.2 trivial,trivial⟩,⟨nlLe_self.2 trivial,trivial⟩,trivial⟩,trivial⟩,trivial⟩
 have hge:¬ (0:Int)≥64:=by decide
 have hlen:LEN 1 1:=⟨Nat.le_refl _⟩
 have hlim1:LIM 1 48:=⟨by omega,by simp only[maxLen];omega⟩
 have hlim2:LIM 1 1:=⟨by omega,by simp only[maxLen];omega⟩
 have fin:∀ (v:Int) (u:Bool),v=t+f→(u=true↔0≤f)→RET 2 0 (.p (iv 0)) ⟨[{ cells:=[.ms 1 0 1 none k,.p (iv t),.ms 3 0 6 none 1,.ms 4 0 1 none 1],e:=93,fz:=false },{ cells:=[.arr k tI F],e:=3,fz:=false,ap:=true },
   { cells:=[.p (iv c.1),.p (iv c.2.1),.p (.v (.int .u8 c.2.2.1)),.p (iv c.2.2.2)],e:=25,fz:=false },
   { cells:=[.arr 1 tPar [(v,0,c.1,c.2.1,c.2.2.1,c.2.2.2)]],e:=97,fz:=false,ap:=true },{ cells:=[.arr 1 tB [u]],e:=4,fz:=false,ap:=true }],[]⟩ (.p (iv 0)) (refS k F t 1 [x] [b]):=fun v u hv hu=>by
  have e1:((v,0,c.1,c.2.1,c.2.2.1,c.2.2.2):tPar.den)=x:=by rw[hx,hv]
  have e2:u=b:=by rw[hb];cases u <;> simp at hu ⊢ <;> omega
  rw[e1,e2]
  refine RET.mk ⟨[some 0,some 1,some 3,some 4],[],?_⟩;rw[SIM_iff];cbv;try simp[nlLe_self,lstEq]
 refine BR.lss r0 (fun h5=>?_) fun h5=>?_
 ·rw[if_pos (hmi.1 h5)]at hf
  rw[←hf]
  refine ⟨⟨by omega,h5⟩,⟨by omega,h5⟩,BR.geq r0 (fun h6=>⟨hnl,BR.geq r0 (fun h=>absurd h hge) fun _=>?_⟩) fun h6=>?_⟩
  ·rw[hadd]
   simp only[hL1,hL2]
   exact ⟨hlen,hlim1,BR.geq r0 (fun h8=>⟨hlen,hlim2,fin _ _ rfl (by simp[h6])⟩) fun h8=>absurd h6 h8⟩
  ·rw[hadd]
   simp only[hL1,hL2]
   exact ⟨hlen,hlim1,BR.geq r0 (fun h8=>absurd h8 h6) fun h8=>⟨hlen,hlim2,fin _ _ rfl (by simp;omega)⟩⟩
 ·rw[if_neg (fun h=>h5 (hmi.2 h))]at hf
  subst hf
  refine BR.geq r0 (fun h6=>⟨hnl,BR.geq r0 (fun h=>absurd h hge) fun _=>?_⟩) fun h6=>absurd (by decide) h6
  rw[hadd]
  simp only[hL1,hL2]
  exact ⟨hlen,hlim1,BR.geq r0 (fun h8=>⟨hlen,hlim2,fin _ _ rfl (by simp)⟩) fun h8=>absurd h6 h8⟩
end Go.Ab
