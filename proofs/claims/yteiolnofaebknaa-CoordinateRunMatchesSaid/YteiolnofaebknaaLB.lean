/- The reference channel: Hear; its functions as calls of a bigger state. -/
import Derived.Test.YteiolnofaebknaaLA
set_option linter.unusedSimpArgs false
set_option linter.unusedVariables false
set_option maxRecDepth 20000
set_option maxHeartbeats 8000000
namespace Go.Ab
open Go.Proofs
def outR (t:Int) (l:List PT):List tChoice.den:=(l.filter (dueT t)).map (fun x=>x.2.2)
theorem outR_eq {t:Int}:∀ {s:List PT},s.Pairwise ltP→outR t s=(s.takeWhile (dueT t)).map (fun x=>x.2.2)
 | [],_=>rfl
 | x :: l,h=>by
  have ih:=outR_eq (t:=t) (List.pairwise_cons.1 h).2
  unfold outR at ih ⊢
  by_cases hx:dueT t x=true
  ·rw[List.filter_cons_of_pos hx,List.takeWhile_cons_of_pos hx,List.map_cons,List.map_cons,ih]
  ·rw[List.filter_cons_of_neg hx,List.takeWhile_cons_of_neg hx,List.map_nil]
   have:l.filter (dueT t)=[]:=by
    rw[List.filter_eq_nil_iff]
    intro y hy hd
    have:=(List.pairwise_cons.1 h).1 y hy
    unfold ltP at this
    simp only[dueT,decide_eq_true_eq]at hx hd
    omega
   rw[this];rfl
theorem at_time {now t:Int}:(t<0→atM now t=1)∧(t>1099511627776→atM now t=1)∧(¬ t<0→¬ t>1099511627776→t<now→atM now t=12)∧(¬ t<0→¬ t>1099511627776→¬ t<now→atM now t=0):=by
 unfold atM
 refine ⟨fun h=>if_pos (.inl h),fun h=>if_pos (.inr h),fun h1 h2 h3=>?_,fun h1 h2 h3=>?_⟩
 ·rw[if_neg (by omega),if_pos h3]
 ·rw[if_neg (by omega),if_neg h3]
theorem rHearSe (k:Nat) (F:List Int) (now:Int) (m:Nat) (A:List tPar.den) (W:List Bool) (t e:Int) (he:e=atM now t) (h0:e≠0):FnS Try.prog 43 ([.ptr 0 0,.p (iv t)]) (refS k F now m A W ) fun x_ s_=>x_=(.tup [.p (.sl (some true) 0 []),.p (iv e)])∧s_=(refS k F now m A W):=by
 refine FnS.of (S:=[]) (T:=[(54,_)]) (U:=[]) (tbl:=[(53,ac53 none,[.tmp 4],17)]) (n:=54) hm33 cfg .nil (.cons rPendT .nil) .nil (.cons Try.call53 Try.func53 (ac53_ok none) (by rw[Try.ntmps53];exact Nat.le_refl _) .nil) 6 Try.call43 Try.func43 (ac43_ok (some (4,0))) (by rw[Try.ntmps43];exact Nat.le_refl _) rfl _ _ _ (by rfl) ?_
 intro cmp ar cv tn ic ai mx an ad ml sb mn ln em gt up ap sc vw cp rp p1 p2 s1 s2 X Y hX hY r0 r1 r2 r3 r4 r5 r6 r7 r8 r9 r10 r11 r12 r13 r14 r15 r16 r17 r18 r19 r20 r21 r22 r23 r24
 cbv
 have key:∀ r:Int,e=r→RET 4 0 (.tup [.p (.sl (some true) 0 []),.p (iv r)]) (refS k F now m A W) (.tup [.p (.sl (some true) 0 []),.p (iv e)]) (refS k F now m A W):=fun r hr=>by
  subst hr
  refine RET.mk ⟨[some 0,some 1,some 2,some 3],[],?_⟩;rw[SIM_iff];cbv;try simp[nlLe_self,lstEq]
 have w1:∀ (r:Int) {A B:Prop},e=r→A→BR (cmp .neq r 0) A B:=fun r A B hr h=>BR.neq r0 (fun _=>h) fun h2=>absurd (hr.trans (Classical.not_not.1 h2)) h0
 obtain ⟨a1,a2,a3,a4⟩:=at_time (now:=now) (t:=t)
 rw[←he]at a1 a2 a3 a4
 refine BR.lss r0 (fun h1=>w1 _ (a1 h1) (key _ (a1 h1))) fun h1=>?_
 refine BR.gtr r0 (fun h2=>w1 _ (a2 h2) (key _ (a2 h2))) fun h2=>?_
 refine BR.lss r0 (fun h3=>w1 _ (a3 h1 h2 h3) (key _ (a3 h1 h2 h3))) fun h3=>absurd (a4 h1 h2 h3) h0
theorem rHearEe (k:Nat) (F:List Int) (now:Int) (t e:Int) (he:e=atM now t) (h0:e≠0):FnS Try.prog 43 ([.ptr 0 0,.p (iv t)]) (refE k F now ) fun x_ s_=>x_=(.tup [.p (.sl (some true) 0 []),.p (iv e)])∧s_=(refE k F now):=by
 refine FnS.of (S:=[]) (T:=[(54,_)]) (U:=[]) (tbl:=[(53,ac53 none,[.tmp 4],17)]) (n:=54) hm33 cfg .nil (.cons rPendT .nil) .nil (.cons Try.call53 Try.func53 (ac53_ok none) (by rw[Try.ntmps53];exact Nat.le_refl _) .nil) 6 Try.call43 Try.func43 (ac43_ok (some (2,0))) (by rw[Try.ntmps43];exact Nat.le_refl _) rfl _ _ _ (by rfl) ?_
 intro cmp ar cv tn ic ai mx an ad ml sb mn ln em gt up ap sc vw cp rp p1 p2 s1 s2 X Y hX hY r0 r1 r2 r3 r4 r5 r6 r7 r8 r9 r10 r11 r12 r13 r14 r15 r16 r17 r18 r19 r20 r21 r22 r23 r24
 cbv
 have key:∀ r:Int,e=r→RET 2 0 (.tup [.p (.sl (some true) 0 []),.p (iv r)]) (refE k F now) (.tup [.p (.sl (some true) 0 []),.p (iv e)]) (refE k F now):=fun r hr=>by
  subst hr
  refine RET.mk ⟨[some 0,some 1],[],?_⟩;rw[SIM_iff];cbv;try simp[nlLe_self,lstEq]
 have w1:∀ (r:Int) {A B:Prop},e=r→A→BR (cmp .neq r 0) A B:=fun r A B hr h=>BR.neq r0 (fun _=>h) fun h2=>absurd (hr.trans (Classical.not_not.1 h2)) h0
 obtain ⟨a1,a2,a3,a4⟩:=at_time (now:=now) (t:=t)
 rw[←he]at a1 a2 a3 a4
 refine BR.lss r0 (fun h1=>w1 _ (a1 h1) (key _ (a1 h1))) fun h1=>?_
 refine BR.gtr r0 (fun h2=>w1 _ (a2 h2) (key _ (a2 h2))) fun h2=>?_
 refine BR.lss r0 (fun h3=>w1 _ (a3 h1 h2 h3) (key _ (a3 h1 h2 h3))) fun h3=>absurd (a4 h1 h2 h3) h0
theorem rHearEo (k:Nat) (F:List Int) (now:Int) (t:Int) (he:atM now t=0):FnS Try.prog 43 ([.ptr 0 0,.p (iv t)]) (refE k F now ) fun x_ s_=>x_=(.tup [.p (.sl (some true) 0 []),.p (iv 0)])∧s_=(refE k F t):=by
 refine FnS.of (S:=[]) (T:=[(54,_)]) (U:=[]) (tbl:=[(53,ac53 none,[.tmp 4],17)]) (n:=54) hm33 cfg .nil (.cons rPendT .nil) .nil (.cons Try.call53 Try.func53 (ac53_ok none) (by rw[Try.ntmps53];exact Nat.le_refl _) .nil) 6 Try.call43 Try.func43 (ac43_ok (some (2,0))) (by rw[Try.ntmps43];exact Nat.le_refl _) rfl _ _ _ (by rfl) ?_
 intro cmp ar cv tn ic ai mx an ad ml sb mn ln em gt up ap sc vw cp rp p1 p2 s1 s2 X Y hX hY r0 r1 r2 r3 r4 r5 r6 r7 r8 r9 r10 r11 r12 r13 r14 r15 r16 r17 r18 r19 r20 r21 r22 r23 r24
 cbv
 obtain ⟨a1,a2,a3,a4⟩:=at_time (now:=now) (t:=t)
 rw[he]at a1 a2 a3
 refine BR.lss r0 (fun h1=>absurd (a1 h1) (by decide)) fun h1=>?_
 refine BR.gtr r0 (fun h2=>absurd (a2 h2) (by decide)) fun h2=>?_
 refine BR.lss r0 (fun h3=>absurd (a3 h1 h2 h3) (by decide)) fun h3=>?_
 refine BR.neq r0 (fun h=>absurd rfl h) fun _=>?_
 have hl0:ln tPar []=0:=by rw[r12];rfl
 have hi0:ic 0=0:=by rw[r4];rfl
 refine ⟨⟨⟨⟨⟨nlLe_self.2 trivial,trivial⟩,⟨nlLe_self.2 trivial,trivial⟩,trivial⟩,trivial⟩,trivial⟩,?_⟩
 refine LOOP.ind (σ:=Unit) (fun _=>_) (fun _=>_) (fun _=>0) (fun _=>True) () trivial (.inl ⟨rfl,rfl⟩) ?_
 intro _ _ X1 hX1
 cbv
 rw[hi0]
 refine BR.lss r0 (fun h=>absurd h (by decide)) fun _=>?_
 refine RET.mk ⟨[some 0,some 1],[],?_⟩;rw[SIM_iff];cbv;try simp[nlLe_self,lstEq]
theorem rHearSo (k:Nat) (F:List Int) (now:Int) (m:Nat) (A:List tPar.den) (W:List Bool) (t:Int) (he:atM now t=0) (s:List tPar.den) (hr:RR s A W) (hA:A.length=m) (hm:m≤300) (hs:s.length≤300) (o:List tChoice.den) (ho:o=outR t s) (W2:List Bool) (hW2:W2=hrW t s W) (g:Nat) (hg:g=o.length*4):FnS Try.prog 43 ([.ptr 0 0,.p (iv t)]) (refS k F now m A W ) fun x_ s_=>x_=(.tup [.og 0 tChoice o,.p (iv 0)])∧s_=(⟨(refS k F t m A W2).box,[(g,25)]⟩):=by
 refine FnS.of (S:=[]) (T:=[(54,_)]) (U:=[]) (tbl:=[(53,ac53 none,[.tmp 4],17)]) (n:=54) hm33 cfg .nil (.cons rPendT .nil) .nil (.cons Try.call53 Try.func53 (ac53_ok none) (by rw[Try.ntmps53];exact Nat.le_refl _) .nil) 6 Try.call43 Try.func43 (ac43_ok (some (4,0))) (by rw[Try.ntmps43];exact Nat.le_refl _) rfl _ _ _ (by rfl) ?_
 intro cmp ar cv tn ic ai mx an ad ml sb mn ln em gt up ap sc vw cp rp p1 p2 s1 s2 X Y hX hY r0 r1 r2 r3 r4 r5 r6 r7 r8 r9 r10 r11 r12 r13 r14 r15 r16 r17 r18 r19 r20 r21 r22 r23 r24
 cbv
 obtain ⟨a1,a2,a3,a4⟩:=at_time (now:=now) (t:=t)
 rw[he]at a1 a2 a3
 refine BR.lss r0 (fun h1=>absurd (a1 h1) (by decide)) fun h1=>?_
 refine BR.gtr r0 (fun h2=>absurd (a2 h2) (by decide)) fun h2=>?_
 refine BR.lss r0 (fun h3=>absurd (a3 h1 h2 h3) (by decide)) fun h3=>?_
 refine BR.neq r0 (fun h=>absurd rfl h) fun _=>?_
 refine RPN.mk ⟨s,hr,hA,by omega,by omega,?_⟩
 cbv
 refine LOOP.ind (σ:=Int×List tChoice.den×List Bool) (fun (i,o,_)=>[(0,.ptr 0 0),(1,.p (iv t)),(7,.og 1 tChoice o),(8,.og 0 tPar s),(9,.p (iv i))])
  (fun (_,o,W)=>⟨(refS k F t m A W).box,[(ml (ln tPar s) 6,97),(ml (ln tChoice o) 4,25)]⟩) (fun (i,_,_)=>(s.length - i).toNat)
  (fun (i,o',W)=>0≤i∧i≤s.length∧W.length=m∧o' ++ outR t (s.drop i.toNat)=o∧hrW t (s.drop i.toNat) W=W2∧o'.length≤i) (0,[],W) ⟨by omega,by show (0:Int)≤_;omega,hr.wl.trans hA,by rw[ho];rfl,hW2.symm,by show ((0:Nat):Int)≤0;omega⟩ (.inr ⟨[some 0,some 1,some 2,some 3],[some 0,none],?_⟩) ?_
 ·rw[SIM_iff];cbv;try simp[nlLe_self,lstEq]
 intro ⟨i,o',W'⟩ hI X1 hX
 dsimp only at hI
 obtain ⟨hI1,hI2,hI3,hI4,hI5,hI6⟩:=hI
 have hls:ic (ln tPar s)=s.length:=by rw[r4,r12]
 obtain ⟨L,hL⟩:∃ L:Int,L=s.length:=⟨_,rfl⟩
 have hia:i<L→ar .add .i64 i 1=i+1:=fun h=>by rw[r1];exact wrap64 (n:=i+1) (by omega) (by omega)
 obtain ⟨p,hp⟩:∃ p,p=gt tPar s i:=⟨_,rfl⟩
 have hp1:p=gtR tPar s i:=by rw[hp,r14]
 have hd:i<L→s.drop i.toNat=p :: s.drop (i+1).toNat:=fun h=>by rw[hp1];exact gtR_drop (t:=tPar) hI1 (by omega)
 have hpm:i<L→p.2.1.toNat<m∧0≤p.2.1:=fun h=>by
  have hm:p∈s:=by
   have:p∈s.drop i.toNat:=by rw[hd h];exact List.mem_cons_self
   exact List.mem_of_mem_drop this
  obtain ⟨k1,_,_,k4⟩:=hr.at hm
  exact ⟨hA ▸ k1,k4⟩
 obtain ⟨mi,hmi⟩:∃ z:Int,z=ic m:=⟨_,rfl⟩
 have hmi2:mi=m:=by rw[hmi,r4]
 have hup:∀ j:Int,up tB m W' j false=W'.set j.toNat false:=fun j=>by rw[r15];exact upR_len (t:=tB) hI3 j false
 have hap:∀ x:tChoice.den,ap tChoice o' [x]=o' ++ [x]:=fun x=>by rw[r16]
 have hl1:∀ x:tChoice.den,ln tChoice [x]=1:=fun x=>by rw[r12];rfl
 have hlo:ln tChoice o'=o'.length:=by rw[r12]
 have had:∀ x y,ad x y=x+y:=fun x y=>by rw[r8]
 obtain ⟨p1',p2',c1,c2,c3,c4⟩:=p
 cbv
 try simp only[nc_eq]at *
 rw[hls,←hp,←hL]
 try dsimp only
 refine BR.lss r0 (fun hi=>?_) fun hi=>?_
 ·have hd:=hd hi
  obtain ⟨hpm1,hpm2⟩:=hpm hi
  have hinb:INB i L:=⟨hI1,hi⟩
  have hmu:(s.length - (i+1):Int).toNat<(s.length - i:Int).toNat:=by omega
  have hol:o'.length≤300:=by omega
  rw[hia hi]
  clear hia
  rw[hd]at hI4 hI5
  simp only[r21,r22]
  have hinm:INB p2' mi:=⟨hpm2,by rw[hmi2];have:(p2').toNat<m:=hpm1;omega⟩
  refine ⟨hinb,hinb,BR.leq r0 (fun hle=>?_) fun hle=>?_⟩
  ·have hdue:dueT t (p1',p2',c1,c2,c3,c4)=true:=by simp[dueT];exact hle
   have e1:o' ++ [(c1,c2,c3,c4)] ++ outR t (s.drop (i+1).toNat)=o:=by
    rw[←hI4];unfold outR;rw[List.filter_cons_of_pos hdue];simp
   have e2:hrW t (s.drop (i+1).toNat) (W'.set p2'.toNat false)=W2:=by rw[←hI5,hrW,if_pos hle]
   rw[hup,hap,hl1,hlo,had,←hmi]
   refine ⟨hinb,hinb,⟨rfl⟩,⟨by omega,by simp only[maxLen];omega⟩,hinb,hinb,hinm,hinm,?_⟩
   refine NEXT.mk (hX (i+1,o' ++ [(c1,c2,c3,c4)],W'.set p2'.toNat false) _ _ ⟨by omega,by omega,by rw[List.length_set];exact hI3,e1,e2,by rw[List.length_append];show ((o'.length+1:Nat):Int)≤i+1;omega⟩ hmu (.inr ⟨[some 0,some 1,some 2,some 3],[some 0,some 1],?_⟩))
   rw[SIM_iff];cbv;try simp[nlLe_self,lstEq]
  ·have hdue:¬ dueT t (p1',p2',c1,c2,c3,c4)=true:=by simp[dueT];exact Int.not_le.1 hle
   have e1:o' ++ outR t (s.drop (i+1).toNat)=o:=by
    rw[←hI4];unfold outR;rw[List.filter_cons_of_neg hdue]
   have e2:hrW t (s.drop (i+1).toNat) W'=W2:=by rw[←hI5,hrW,if_neg hle]
   exact NEXT.mk (hX (i+1,o',W') _ _ ⟨by omega,by omega,hI3,e1,e2,by show (o'.length:Int)≤i+1;omega⟩ hmu (.inl ⟨rfl,rfl⟩))
 ·have hi:s.drop i.toNat=[]:=List.drop_of_length_le (by omega)
  rw[hi]at hI4 hI5
  have hI4:o'=o:=by rw[←hI4];simp[outR]
  have hI5:W'=W2:=hI5
  subst hI4 hI5
  have hgg:ml (ln tChoice o') 4=g:=by rw[r9,hlo,hg]
  rw[hgg]
  clear hX
  refine RET.mk ⟨[some 0,some 1,some 2,some 3],[some 1],?_⟩;rw[SIM_iff];cbv
  try simp[nlLe_self,lstEq]
structure RHE (now t:Int) (m:Nat) (A:List PT) (W:List Bool) (K:List PT→List tChoice.den→List Bool→Prop) (B:Int→Prop):Prop where
 h:(atM now t=0∧∃ s,RR s A W∧A.length=m∧m≤300∧s.length≤300∧∀ o W2,o=(s.takeWhile (dueT t)).map (fun x=>x.2.2)→RR (s.dropWhile (dueT t)) A W2→K s o W2)∨∃ e,e=atM now t∧e≠0∧B e
theorem RHE.ok {now t:Int} {m:Nat} {A:List PT} {W:List Bool} {K:List PT→List tChoice.den→List Bool→Prop} {B:Int→Prop} (ht:atM now t=0) {s:List PT} (hr:RR s A W) (hA:A.length=m) (hm:m≤300) (hs:s.length≤300)
  (h:∀ o W2,o=(s.takeWhile (dueT t)).map (fun x=>x.2.2)→RR (s.dropWhile (dueT t)) A W2→K s o W2):RHE now t m A W K B:=⟨.inl ⟨ht,s,hr,hA,hm,hs,h⟩⟩
structure RHN (now t:Int) (K:Prop) (B:Int→Prop):Prop where
 h:(atM now t=0∧K)∨∃ e,e=atM now t∧e≠0∧B e
theorem RHN.ok {now t:Int} {K:Prop} {B:Int→Prop} (ht:atM now t=0) (h:K):RHN now t K B:=⟨.inl ⟨ht,h⟩⟩
def spRHear:OpsS→CallS:=fun q _ ds st K=>match ds with
 | [.ptr a 0,.p (.v (.int .i64 t))]=>refAt a st fun f k F now x=>(match x with
  | some (b,c,m,A,W)=>RHE now t m A W (fun s o W2=>frS [a,f,b,c] [] [.ptr 0 0,.p (iv t)] (refS k F now m A W) (.tup [.og 0 tChoice o,.p (iv 0)]) ⟨(refS k F t m A W2).box,[(q.ml (q.ln tChoice o) 4,25)]⟩ ds st K)
    fun e=>frS [a,f,b,c] [] [.ptr 0 0,.p (iv t)] (refS k F now m A W) (.tup [.p (.sl (some true) 0 []),.p (iv e)]) (refS k F now m A W) ds st K
  | none=>RHN now t (frS [a,f] [] [.ptr 0 0,.p (iv t)] (refE k F now) (.tup [.p (.sl (some true) 0 []),.p (iv 0)]) (refE k F t) ds st K)
    fun e=>frS [a,f] [] [.ptr 0 0,.p (iv t)] (refE k F now) (.tup [.p (.sl (some true) 0 []),.p (iv e)]) (refE k F now) ds st K)
 | _=>False
theorem rHearT:∀ ds st K,spRHear OpsS.real 43 ds st K→FnS Try.prog 43 ds st K:=fun ds st K h=>by
 unfold spRHear at h
 split at h
 ·obtain ⟨f,k,F,now,x,hu⟩:=refAt_some h
  split at hu
  ·obtain ⟨⟨ht,s,hr,hA,hm,hs,hu⟩ | ⟨e,he,h0,hu⟩⟩:=hu
   ·exact frS_ok (rHearSo k F now _ _ _ _ ht s hr hA hm hs _ rfl _ rfl _ rfl) (hu _ _ (outR_eq hr.so) (hr.hear _))
   ·exact frS_ok (rHearSe k F now _ _ _ _ e he h0) hu
  ·obtain ⟨⟨ht,hu⟩ | ⟨e,he,h0,hu⟩⟩:=hu
   ·exact frS_ok (rHearEo k F now _ ht) hu
   ·exact frS_ok (rHearEe k F now _ e he h0) hu
 ·exact h.elim
structure RSE (k:Nat) (F:List Int) (now t:Int) (m:Nat) (A:List PT) (W:List Bool) (c:tChoice.den) (K:Nat→List PT→List Bool→Prop) (B:Int→Prop):Prop where
 h:F.length=k∧∃ s,RR s A W∧A.length=m∧m≤300∧s.length≤300∧((rsE F now m s.length t c=0∧(-1≤rfateM F m∧rfateM F m≤8)∧∀ m2 A2 W2,m2=m+1→A2=rsA F m t c A→W2=rsW F m W→K m2 A2 W2)∨∃ e,e=rsE F now m s.length t c∧e≠0∧B e)
structure RSN (k:Nat) (F:List Int) (now t:Int) (c:tChoice.den) (K:tPar.den→Bool→Prop) (B:Int→Prop):Prop where
 h:F.length=k∧((rsE F now 0 0 t c=0∧(-1≤rfateM F 0∧rfateM F 0≤8)∧∀ x b,x=(t+rfateM F 0,((0:Int),c))→b=decide (0≤rfateM F 0)→K x b)∨∃ e,e=rsE F now 0 0 t c∧e≠0∧B e)
def spRSend:OpsS→CallS:=fun q _ ds st K=>match ds with
 | [.ptr a 0,.p (.v (.int .i64 t)),c]=>(match getT tChoice c with
  | some c=>refAt a st fun f k F now x=>(match x with
   | some (b,d,m,A,W)=>RSE k F now t m A W c (fun m2 A2 W2=>frS [a,f,b,d] [] [.ptr 0 0,.p (iv t),injT tChoice c] (refS k F now m A W) (.p (iv 0)) (refN k F t m2 A2 W2) ds st K)
     fun e=>frS [a,f,b,d] [] [.ptr 0 0,.p (iv t),injT tChoice c] (refS k F now m A W) (.p (iv e)) (refS k F now m A W) ds st K
   | none=>RSN k F now t c (fun x b=>frS [a,f] [] [.ptr 0 0,.p (iv t),injT tChoice c] (refE k F now) (.p (iv 0)) (refS k F t 1 [x] [b]) ds st K)
     fun e=>frS [a,f] [] [.ptr 0 0,.p (iv t),injT tChoice c] (refE k F now) (.p (iv e)) (refE k F now) ds st K)
  | none=>False)
 | _=>False
theorem rSendT:∀ ds st K,spRSend OpsS.real 42 ds st K→FnS Try.prog 42 ds st K:=fun ds st K h=>by
 unfold spRSend at h
 split at h
 ·split at h
  ·obtain ⟨f,k,F,now,x,hu⟩:=refAt_some h
   split at hu
   ·obtain ⟨hk,s,hr,hA,hm,hs,⟨he,hf,hu⟩ | ⟨e,he,h0,hu⟩⟩:=hu.h
    ·exact frS_ok (rSendSo k F now _ _ _ _ _ s 0 hk hA hr hm hs he.symm rfl hf _ _ _ rfl rfl rfl) (hu _ _ _ rfl rfl rfl)
    ·exact frS_ok (rSendSe k F now _ _ _ _ _ s e hk hA hr hm hs he h0) hu
   ·obtain ⟨hk,⟨he,hf,hu⟩ | ⟨e,he,h0,hu⟩⟩:=hu.h
    ·exact frS_ok (rSendEo k F now _ _ 0 hk he.symm rfl hf _ rfl _ rfl) (hu _ _ rfl rfl)
    ·exact frS_ok (rSendEe k F now _ _ e hk he h0) hu
  ·exact h.elim
 ·exact h.elim
structure RNB (l:List Int) (A:Nat→Prop) (B:Int→Prop):Prop where
 h:(wrongM l=0∧∀ k,l.length=k→A k)∨∃ r,r=wrongM l∧r≠0∧B r
def spRNew:OpsS→CallS:=fun _ _ ds st K=>match ds with
 | [x]=>(match asL tI x with
  | some l=>RNB l (fun k=>frS [] [] [.tl none tI l] ⟨[],[]⟩ (.tup [.ptr 0 0,.p (iv 0)]) (refE k l 0) ds st K)
    fun r=>frS [] [] [.tl none tI l] ⟨[],[]⟩ (.tup [.p (.v (.pointer none)),.p (iv r)]) ⟨[],[]⟩ ds st K
  | none=>False)
 | _=>False
theorem rNewT:∀ ds st K,spRNew OpsS.real 41 ds st K→FnS Try.prog 41 ds st K:=fun ds st K h=>by
 unfold spRNew at h
 split at h
 ·split at h
  ·obtain ⟨⟨hw,hu⟩ | ⟨r,hr,h0,hu⟩⟩:=h
   ·exact frS_ok (rNew none _ hw _ rfl) (hu _ rfl)
   ·exact frS_ok (rNewE none _ r hr h0) hu
  ·exact h.elim
 ·exact h.elim
end Go.Ab
