/- The reference's run. -/
import Derived.Test.YteiolnofaebknaaMn
set_option linter.unusedSimpArgs false
set_option linter.unusedVariables false
set_option maxRecDepth 100000
set_option maxHeartbeats 8000000
namespace Go.Ab
open Go.Proofs
def runE (a b:Int) (w:List tW.den) (F G:List Int):Int:=if (newM a b).2≠0 then (newM a b).2 else if w.length>64 then 4 else if w.any badW=true then 6 else if wrongM F≠0 then wrongM F else wrongM G
def runR (a b:Int) (w:List tW.den) (F G:List Int):List (SD×SD):=if runE a b w F G=0 then runP (fatesM F) (fatesM G) 0 w ((newM a b).1,(newM b a).1,(0,[]),(0,[])) else []
def sdC (x:SD):List DC:=[.p (iv x.1),.p (iv x.2.1),.p (.v (.int .u8 x.2.2.1)),.p (iv x.2.2.2.1),.p (.v (.int .u8 x.2.2.2.2.1)),.p (iv x.2.2.2.2.2)]
theorem new_both {a b:Int} (h:(newM a b).2=0):newM a b=((a,b,0,0,0,0),0)∧newM b a=((b,a,0,0,0,0),0):=by
 have h1:checkM (a,b,0,0,0,0)=0:=by
  unfold newM at h
  split at h
  ·exact absurd h ‹_›
  ·exact Classical.not_not.1 ‹_›
 have h2:checkM (b,a,0,0,0,0)=0:=by
  simp only[checkM]at h1 ⊢
  repeat' split at h1
  all_goals first | (exfalso;omega) | skip
  rw[if_neg (by omega),if_neg (by omega),if_neg (by omega),if_neg (by omega)]
 unfold newM
 rw[h1,h2];exact ⟨rfl,rfl⟩
theorem rfate_b {l:List Int} (h:wrongM l=0) (m:Nat) : -1≤rfateM l m∧rfateM l m≤8:=by
 unfold rfateM
 split
 ·refine wrong_ok h _ ?_
  unfold gtR
  rw[List.getD_eq_getElem?_getD,List.getElem?_eq_getElem (by omega)];exact List.getElem_mem _
 ·exact ⟨by decide,by decide⟩
abbrev tB2:Ty:=.bool
abbrev OCH:=Option (Nat×List tPar.den×List Bool)
def pB:OCH→Nat
 | none=>4
 | some _=>6
def rlE (f k:Nat) (F:List Int) (now:Int):List BoxS:=
 [{ cells:=[.ms f 0 1 none k,.p (iv now),.tl (some true) tPar [],.tl (some true) tB2 []],e:=93,fz:=false },{ cells:=[.arr k tI F],e:=3,fz:=false,ap:=true }]
def rlS (f f2 f3 k:Nat) (F:List Int) (now:Int) (m:Nat) (A:List tPar.den) (W:List Bool):List BoxS:=
 [{ cells:=[.ms f 0 1 none k,.p (iv now),.ms f2 0 6 none m,.ms f3 0 1 none m],e:=93,fz:=false },{ cells:=[.arr k tI F],e:=3,fz:=false,ap:=true },
  { cells:=[.arr m tPar A],e:=97,fz:=false,ap:=true },{ cells:=[.arr m tB2 W],e:=4,fz:=false,ap:=true }]
def hdB (ka:Nat) (F:List Int) (kb:Nat) (G:List Int) (x y:SD) (na:Int) (oa:OCH) (nb:Int) (ob:OCH):List BoxS:=
 [{ cells:=sdC x,e:=23,fz:=false },{ cells:=sdC y,e:=23,fz:=false }] ++ (match oa,ob with
  | none,none=>rlE 3 ka F na ++ rlE 5 kb G nb
  | none,some (m',A',W')=>rlE 3 ka F na ++ rlS 5 6 7 kb G nb m' A' W'
  | some (m,A,W),none=>rlS 3 4 5 ka F na m A W ++ rlE 7 kb G nb
  | some (m,A,W),some (m',A',W')=>rlS 3 4 5 ka F na m A W ++ rlS 7 8 9 kb G nb m' A' W')
def SHP (sent:Int) (s:List PT):OCH→Prop
 | none=>s=[]∧sent=0
 | some (m,A,W)=>RR s A W∧A.length=m∧(m:Int)=sent
structure CHR (T M now sent:Int) (o:OCH) (s:List PT):Prop where
 sh:SHP sent s o
 few:(s.length:Int)≤sent
 lo:0≤sent
 hi:sent≤T
 n0:0≤now
 nM:now≤M
theorem CHR.zero:CHR 0 0 0 0 none []:=⟨⟨rfl,rfl⟩,by simp,by omega,by omega,by omega,by omega⟩
theorem say_eq {x:SD} {c:CD} {F:List Int} {t:Int} {A:Int×List PT} (hx:sayM x=(c,0)):sayP x F t A=(A.1+1,sIns F A.1 t c A.2):=by unfold sayP;rw[hx,if_pos rfl]
theorem say_no {x:SD} {c:CD} {e:Int} {F:List Int} {t:Int} {A:Int×List PT} (hx:sayM x=(c,e)) (he:¬ e=0):sayP x F t A=A:=by unfold sayP;rw[hx,if_neg he]
theorem at_ok {now t:Int} (h0:0≤t) (h1:t<64) (hn:now≤t):atM now t=0:=by unfold atM;rw[if_neg (by omega),if_neg (by omega)]
theorem rsE_ok {F:List Int} {now:Int} {m n:Nat} {t:Int} {c:tChoice.den} (h0:0≤t) (h1:t<64) (hn:now≤t) (hc:lcheckM c=0) (hl:n<64):rsE F now m n t c=0:=by
 unfold rsE
 rw[if_neg (fun h=>h (at_ok h0 h1 hn)),if_neg (fun h=>h hc),if_neg (by omega)]
theorem CHR.sent {F:List Int} {t now sent:Int} {m:Nat} {A:List PT} {W:List Bool} {s:List PT} {x:SD} {c:CD} (hF:wrongM F=0) (hr:RR s A W) (hA:A.length=m) (hm:(m:Int)=sent) (few:(s.length:Int)≤sent) (hi:sent≤t) (h0:0≤t) (hx:sayM x=(c,0)) :
  CHR (t+1) t t (sayP x (fatesM F) t (sent,s)).1 (some (m+1,rsA F m t c A,rsW F m W)) (sayP x (fatesM F) t (sent,s)).2:=by
 rw[say_eq hx]
 have hs:=hr.send (wrong_len hF) (rfate_b hF A.length).1 t c
 rw[hA,hm]at hs
 refine ⟨⟨hs,by simp[rsA,hA],by show ((m+1:Nat):Int)=sent+1;omega⟩,?_,by show 0≤sent+1;omega,by show sent+1≤t+1;omega,h0,Int.le_refl _⟩
 show ((sIns (fatesM F) sent t c s).length:Int)≤sent+1
 unfold sIns
 split
 ·omega
 ·rw[(insP_perm _ _).length_eq,List.length_cons];omega
theorem CHR.sendS {F:List Int} {t now sent:Int} {m k:Nat} {A:List PT} {W:List Bool} {s:List PT} {x:SD} {c:CD} (h:CHR t t now sent (some (m,A,W)) s) (hF:wrongM F=0) (h0:0≤t) (h1:t<64) (hk:F.length=k) (hx:sayM x=(c,0))
  {K:Nat→List PT→List Bool→Prop} {B:Int→Prop} (hK:∀ m2 A2 W2,CHR (t+1) t t (sayP x (fatesM F) t (sent,s)).1 (some (m2,A2,W2)) (sayP x (fatesM F) t (sent,s)).2→K m2 A2 W2):RSE k F now t m A W c K B:=by
 obtain ⟨hr,hA,hm⟩:=h.sh
 have:=h.few;have:=h.hi;have:=h.lo
 have hc:lcheckM c=0:=by have:=say_lcheck (x:=x) (by rw[hx]);rwa [hx]at this
 refine ⟨hk,s,hr,hA,by omega,by omega,.inl ⟨rsE_ok h0 h1 h.nM hc (by omega),rfate_b hF m,fun m2 A2 W2 e1 e2 e3=>hK _ _ _ ?_⟩⟩
 subst e1 e2 e3
 exact CHR.sent hF hr hA hm (by omega) (by omega) h0 hx (now:=now)
theorem CHR.sendN {F:List Int} {t now sent:Int} {k:Nat} {s:List PT} {x:SD} {c:CD} (h:CHR t t now sent none s) (hF:wrongM F=0) (h0:0≤t) (h1:t<64) (hk:F.length=k) (hx:sayM x=(c,0))
  {K:tPar.den→Bool→Prop} {B:Int→Prop} (hK:∀ p b,CHR (t+1) t t (sayP x (fatesM F) t (sent,s)).1 (some (1,[p],[b])) (sayP x (fatesM F) t (sent,s)).2→K p b):RSN k F now t c K B:=by
 obtain ⟨rfl,rfl⟩:=h.sh
 have hc:lcheckM c=0:=by have:=say_lcheck (x:=x) (by rw[hx]);rwa [hx]at this
 refine ⟨hk,.inl ⟨rsE_ok h0 h1 h.nM hc (by decide),rfate_b hF 0,fun p b e1 e2=>hK _ _ ?_⟩⟩
 subst e1 e2
 exact CHR.sent (m:=0) (A:=[]) (W:=[]) hF .nil rfl rfl (by simp) h.hi h0 hx (now:=now)
theorem CHR.noSay {F:List Int} {t now sent:Int} {o:OCH} {s:List PT} {x:SD} {c:CD} {e:Int} (h:CHR t t now sent o s) (hx:sayM x=(c,e)) (he:¬ e=0):CHR (t+1) t now (sayP x (fatesM F) t (sent,s)).1 o (sayP x (fatesM F) t (sent,s)).2:=by
 rw[say_no hx he]
 exact ⟨h.sh,h.few,h.lo,by have:=h.hi;omega,h.n0,h.nM⟩
theorem CHR.heard {t now sent:Int} {o o':OCH} {s:List PT} (h:CHR (t+1) t now sent o s) (h0:0≤t) (hs:SHP sent (s.dropWhile (dueT t)) o'):CHR (t+1) (t+1) t sent o' (s.dropWhile (dueT t)):=by
 have hsub2:(s.dropWhile (dueT t)).length≤s.length:=(List.dropWhile_sublist _).length_le
 have:=h.few;have:=h.hi
 exact ⟨hs,by omega,h.lo,by omega,h0,by omega⟩
theorem CHR.out {t now sent:Int} {o:OCH} {s:List PT} (h:CHR (t+1) t now sent o s) (h1:t<64):(outP t s).length≤64:=by
 have hsub:(s.takeWhile (dueT t)).length≤s.length:=(List.takeWhile_sublist _).length_le
 have:=h.few;have:=h.hi
 unfold outP;rw[List.length_map];omega
theorem CHR.hearS {t now sent:Int} {m:Nat} {A:List PT} {W:List Bool} {s:List PT} (h:CHR (t+1) t now sent (some (m,A,W)) s) (h0:0≤t) (h1:t<64) {K:List PT→List tChoice.den→List Bool→Prop} {B:Int→Prop}
  (hK:∀ z o W2,o=outP t s→o.length≤64→CHR (t+1) (t+1) t sent (some (m,A,W2)) (s.dropWhile (dueT t))→K z o W2):RHE now t m A W K B:=by
 obtain ⟨hr,hA,hm⟩:=h.sh
 have:=h.few;have:=h.hi
 exact .ok (at_ok h0 h1 h.nM) hr hA (by omega) (by omega) fun o W2 e1 e2=>hK _ _ _ e1 (by rw[e1];exact h.out h1) (h.heard h0 ⟨e2,hA,hm⟩)
theorem CHR.hearN {t now sent:Int} {s:List PT} (h:CHR (t+1) t now sent none s) (h0:0≤t) (h1:t<64) {K:Prop} {B:Int→Prop}
  (hK:[]=outP t s→CHR (t+1) (t+1) t sent none (s.dropWhile (dueT t))→K):RHN now t K B:=by
 obtain ⟨e1,e2⟩:=h.sh
 exact .ok (at_ok h0 h1 h.nM) (hK (by rw[e1];rfl) (h.heard h0 ⟨by rw[e1];rfl,e2⟩))
theorem rRun (a b:Int) (nw:Option Bool) (w:List tW.den) (nf:Option Bool) (F:List Int) (ng:Option Bool) (G:List Int) (L:List tMeet.den) (E:Int) (hL:L=runR a b w F G) (hE:E=runE a b w F G) (hwl:w.length≤2000):PurS Try.prog 22 [injT tI a,injT tI b,injT (.sl tW) (nw,w),injT (.sl tI) (nf,F),injT (.sl tI) (ng,G)] (.tup [.tl none tMeet L,.p (iv E)]):=by
 refine PurS.of (S:=[(18,_),(12,_),(16,_),(14,_)]) (T:=[(41,_),(42,_),(43,_)]) (U:=[]) (tbl:=[]) (n:=182) hm33 cfg (.cons (spT2.ok (a:=(.int .i64)) (b:=(.int .i64)) (pre:=fun _ _=>True) fun x0 x1 _=>rNewS x0 x1) (.cons (spT2.ok (a:=(.pair (.int .i64) (.pair (.int .i64) (.pair (.int .u8) (.pair (.int .i64) (.pair (.int .u8) (.int .i64))))))) (b:=(.int .u8)) (pre:=fun _ _=>True) fun x0 x1 _=>rCho x0.1 x0.2.1 x0.2.2.1 x0.2.2.2.1 x0.2.2.2.2.1 x0.2.2.2.2.2 x1) (.cons (spT1.ok (a:=(.pair (.int .i64) (.pair (.int .i64) (.pair (.int .u8) (.pair (.int .i64) (.pair (.int .u8) (.int .i64))))))) (pre:=fun _=>True) fun x0 _=>rSay x0.1 x0.2.1 x0.2.2.1 x0.2.2.2.1 x0.2.2.2.2.1 x0.2.2.2.2.2) (.cons (spT2.ok (a:=(.pair (.int .i64) (.pair (.int .i64) (.pair (.int .u8) (.pair (.int .i64) (.pair (.int .u8) (.int .i64))))))) (b:=(.pair (.int .i64) (.pair (.int .i64) (.pair (.int .u8) (.int .i64))))) (pre:=fun _ _=>True) fun x0 x1 _=>rHrS x0.1 x0.2.1 x0.2.2.1 x0.2.2.2.1 x0.2.2.2.2.1 x0.2.2.2.2.2 x1.1 x1.2.1 x1.2.2.1 x1.2.2.2) .nil)))) (.cons rNewT (.cons rSendT (.cons rHearT .nil))) .nil .nil 0 Try.call22 Try.func22 (ac22_ok (some (0,0))) (by rw[Try.ntmps22];exact Nat.le_refl _) rfl ⟨_,rfl⟩ ?_
 intro cmp ar cv tn ic ai mx an ad ml sb mn ln em gt up ap sc vw cp rp p1 p2 s1 s2 X Y hX hY r0 r1 r2 r3 r4 r5 r6 r7 r8 r9 r10 r11 r12 r13 r14 r15 r16 r17 r18 r19 r20 r21 r22 r23 r24
 generalize hg0:newM=g0
 generalize hg1:chooseM=g1
 generalize hg2:sayM=g2
 generalize hg3:shearM=g3
 cbv
 have hEe:E=if (g0 a b).2≠0 then (g0 a b).2 else if w.length>64 then 4 else if w.any badW=true then 6 else if wrongM F≠0 then wrongM F else wrongM G:=by rw[hE,←hg0];rfl
 have hLe:L=if E=0 then runP (fatesM F) (fatesM G) 0 w ((newM a b).1,(newM b a).1,(0,[]),(0,[])) else []:=by rw[hL,hE];rfl
 have hn1:(g0 a b).2=0→g0 a b=((a,b,0,0,0,0),0)∧g0 b a=((b,a,0,0,0,0),0):=fun h=>by
  rw[←hg0]at h ⊢;exact new_both h
 have hlw:ic (ln tW w)=w.length:=by rw[r4,r12]
 clear hE hL
 refine BR.neq r0 (fun h1=>?_) fun h1=>?_
 ·rw[if_pos h1]at hEe
  rw[hEe,if_neg h1]at hLe
  exact ⟨⟨nlLe_none.2 trivial,hLe⟩,hEe.symm,trivial⟩
 rw[if_neg h1]at hEe
 obtain ⟨hn,hm⟩:=hn1 (Classical.not_not.1 h1)
 rw[hg0,hn,hm]at hLe
 clear hn1 h1
 obtain ⟨N,hN⟩:∃ N:Int,N=w.length:=⟨_,rfl⟩
 rw[hlw,hn]
 rw[←hN]at hlw ⊢
 dsimp only
 refine BR.gtr r0 (fun h2=>?_) fun h2=>?_
 ·rw[if_pos (by omega)]at hEe
  rw[hEe,if_neg (by decide)]at hLe
  exact ⟨⟨nlLe_none.2 trivial,hLe⟩,hEe.symm,trivial⟩
 rw[if_neg (by omega)]at hEe
 obtain ⟨wb,hwb⟩:∃ wb,wb=w.any badW:=⟨_,rfl⟩
 rw[←hwb]at hEe
 refine LOOP.ind (σ:=Int) (fun i=>[(0,.p (iv a)),(1,.p (iv b)),(2,.tl nw tW w),(3,.tl nf tI F),(4,.tl ng tI G),(12,.ptr 0 0),(14,.p (iv i))]) (fun _=>⟨[{ cells:=sdC (a,b,0,0,0,0),e:=23,fz:=false }],[]⟩) (fun i=>(N - i).toNat) (fun i=>0≤i∧i≤N∧(w.drop i.toNat).any badW=wb) 0 ⟨by omega,by omega,by rw[hwb];rfl⟩ (.inl ⟨rfl,rfl⟩) ?_
 intro i hI X1 hX
 obtain ⟨hI1,hI2,hI3⟩:=hI
 obtain ⟨w1,hw1⟩:∃ v,v=p1 (.int .u8) (.int .u8) (gt tW w i):=⟨_,rfl⟩
 obtain ⟨w2,hw2⟩:∃ v,v=p2 (.int .u8) (.int .u8) (gt tW w i):=⟨_,rfl⟩
 have hst:i<N→wb=(decide (w1>2∨w2>2) || (w.drop (i+1).toNat).any badW):=fun h=>by
  rw[←hI3,gtR_drop (t:=tW) hI1 (by omega),List.any_cons,hw1,hw2,r21,r22,r14];rfl
 have hend:¬ i<N→wb=false:=fun h=>by rw[←hI3,gtR_end (by omega)];rfl
 have hadd:i<N→ar .add .i64 i 1=i+1:=fun h=>by rw[r1];exact wrap64 (n:=i+1) (by omega) (by omega)
 have hbad:wb=true→(nlLe (some true) none∧L=[])∧6=E∧True:=fun h=>by
  rw[if_pos h]at hEe
  rw[hEe,if_neg (by decide)]at hLe
  exact ⟨⟨nlLe_none.2 trivial,hLe⟩,hEe.symm,trivial⟩
 clear hI3
 cbv
 try simp only[nc_eq]at *
 rw[hlw,←hw1,←hw2,hm]
 dsimp only
 refine BR.lss r0 (fun hc=>?_) fun hc=>?_
 ·have hi:INB i N:=⟨hI1,hc⟩
  have j0:INB 0 (ic 2):=INB.lit r4 (by decide)
  have j1:INB 1 (ic 2):=INB.lit r4 (by decide)
  have hs:=hst hc
  rw[hadd hc]
  refine ⟨hi,j0,hi,BR.gtr r0 (fun h=>hbad (by rw[hs,decide_eq_true (.inl h)];rfl)) fun h=>⟨hi,j1,hi,BR.gtr r0 (fun h'=>hbad (by rw[hs,decide_eq_true (.inr h')];rfl)) fun h'=>?_⟩⟩
  refine NEXT.mk (hX (i+1) _ _ ⟨by omega,by omega,?_⟩ (by show (N - (i+1)).toNat<(N - i).toNat;omega) (.inl ⟨rfl,rfl⟩))
  rw[hs,decide_eq_false (by omega)];rfl
 have hwf:=hend hc
 rw[hwf,if_neg (by decide)]at hEe
 clear hbad hX X1 hst hadd hend
 by_cases hF:¬ wrongM F=0
 ·obtain ⟨r,hr⟩:∃ r,r=wrongM F:=⟨_,rfl⟩
  rw[←hr]at hF hEe
  rw[if_pos hF]at hEe
  rw[hEe,if_neg hF]at hLe
  refine ⟨.inr ⟨r,hr,hF,?_⟩⟩
  clear hr
  cbv
  exact ⟨⟨⟨nlLe_none.2 trivial,trivial⟩,trivial⟩,BR.neq r0 (fun _=>⟨⟨nlLe_none.2 trivial,hLe⟩,hEe.symm,trivial⟩) fun h=>absurd hF h⟩
 have hF:=Classical.not_not.1 hF
 rw[if_neg (fun h=>h hF)]at hEe
 refine ⟨.inl ⟨hF,fun ka hka=>?_⟩⟩
 by_cases hG:¬ wrongM G=0
 ·obtain ⟨r,hr⟩:∃ r,r=wrongM G:=⟨_,rfl⟩
  rw[←hr]at hG hEe
  rw[hEe,if_neg hG]at hLe
  clear hF
  cbv
  refine ⟨⟨⟨nlLe_none.2 trivial,trivial⟩,trivial⟩,BR.nn r0 ⟨.inr ⟨r,hr,hG,?_⟩⟩⟩
  clear hr
  cbv
  exact ⟨⟨⟨nlLe_none.2 trivial,trivial⟩,trivial⟩,BR.neq r0 (fun _=>⟨⟨nlLe_none.2 trivial,hLe⟩,hEe.symm,trivial⟩) fun h=>absurd hG h⟩
 have hG:=Classical.not_not.1 hG
 rw[hG]at hEe
 rw[hEe,if_pos rfl]at hLe
 have hFr:∀ m,-1≤rfateM F m∧rfateM F m≤8:=fun m=>rfate_b hF m
 have hGr:∀ m,-1≤rfateM G m∧rfateM G m≤8:=fun m=>rfate_b hG m
 have hFl:=wrong_len hF
 have hGl:=wrong_len hG
 have hFq:=hF
 have hGq:=hG
 clear hF hG
 cbv
 refine ⟨⟨⟨nlLe_none.2 trivial,trivial⟩,trivial⟩,BR.nn r0 ⟨.inl ⟨hGq,fun kb hkb=>?_⟩⟩⟩
 cbv
 try simp only[nc_eq]at *
 refine ⟨⟨⟨nlLe_none.2 trivial,trivial⟩,trivial⟩,BR.nn r0 ?_⟩
 refine LOOP.ind (σ:=Int×(SD×SD)×(Int×Int×OCH×List PT)×(Int×Int×OCH×List PT)×List tMeet.den)
  (fun (t,_,(_,_,oa,_),_,out)=>[(2,.tl nw tW w),(12,.ptr 0 0),(15,.ptr 1 0),(17,.ptr 2 0),(18,.ptr (pB oa) 0),(19,.og 0 tMeet out),(20,.p (iv t))])
  (fun (_,(x,y),(na,_,oa,_),(nb,_,ob,_),out)=>⟨hdB ka F kb G x y na oa nb ob,[(ml (ln tMeet out) 12,45)]⟩)
  (fun (t,_)=>(N - t).toNat)
  (fun (t,(x,y),(na,ua,oa,za),(nb,ub,ob,zb),out)=>0≤t∧t≤N∧CHR t t na ua oa za∧CHR t t nb ub ob zb∧out.length=t.toNat∧out ++ runP (fatesM F) (fatesM G) t (w.drop t.toNat) (x,y,(ua,za),(ub,zb))=L)
  (0,((a,b,0,0,0,0),(b,a,0,0,0,0)),(0,0,none,[]),(0,0,none,[]),[]) ⟨by omega,by show (0:Int)≤N;omega,.zero,.zero,rfl,by rw[hLe];rfl⟩ (.inr ⟨[some 0,some 1,some 2,some 3,some 4,some 5],[none],?_⟩) ?_
 ·rw[SIM_iff];cbv;simp[nlLe_self]
 clear hLe
 intro ⟨t,⟨⟨x1,x2,x3,x4,x5,x6⟩,⟨y1,y2,y3,y4,y5,y6⟩⟩,⟨na,ua,oa,za⟩,⟨nb,ub,ob,zb⟩,out⟩ hI X1 hX
 obtain ⟨hI1,hI2,hA,hB,hI5,hI6⟩:=hI
 obtain ⟨w1,hw1⟩:∃ v,v=p1 (.int .u8) (.int .u8) (gt tW w t):=⟨_,rfl⟩
 obtain ⟨w2,hw2⟩:∃ v,v=p2 (.int .u8) (.int .u8) (gt tW w t):=⟨_,rfl⟩
 have hadd:t<N→ar .add .i64 t 1=t+1:=fun h=>by rw[r1];exact wrap64 (n:=t+1) (by omega) (by omega)
 have h64:N≤64:=by omega
 obtain ⟨⟨⟨u1,u2,u3,u4,u5,u6⟩,ue⟩,hu⟩:∃ z,g1 (x1,x2,x3,x4,x5,x6) w1=z:=⟨_,rfl⟩
 obtain ⟨⟨⟨v1,v2,v3,v4,v5,v6⟩,ve⟩,hv⟩:∃ z,g1 (y1,y2,y3,y4,y5,y6) w2=z:=⟨_,rfl⟩
 obtain ⟨⟨⟨c1,c2,c3,c4⟩,ce⟩,hc'⟩:∃ z,g2 (u1,u2,u3,u4,u5,u6)=z:=⟨_,rfl⟩
 obtain ⟨⟨⟨d1,d2,d3,d4⟩,de⟩,hd'⟩:∃ z,g2 (v1,v2,v3,v4,v5,v6)=z:=⟨_,rfl⟩
 have hc2:sayM (u1,u2,u3,u4,u5,u6)=((c1,c2,c3,c4),ce):=by rw[hg2];exact hc'
 have hd2:sayM (v1,v2,v3,v4,v5,v6)=((d1,d2,d3,d4),de):=by rw[hg2];exact hd'
 have j0:INB 0 (ic 2):=INB.lit r4 (by decide)
 have j1:INB 1 (ic 2):=INB.lit r4 (by decide)
 have hcyc:t<N→∀ zx zy:SD,zx=recvM (u1,u2,u3,u4,u5,u6) (outP t (sayP (v1,v2,v3,v4,v5,v6) (fatesM G) t (ub,zb)).2)→zy=recvM (v1,v2,v3,v4,v5,v6) (outP t (sayP (u1,u2,u3,u4,u5,u6) (fatesM F) t (ua,za)).2) →
   (out ++ [(zx,zy)]) ++ runP (fatesM F) (fatesM G) (t+1) (w.drop (t+1).toNat) (zx,zy,((sayP (u1,u2,u3,u4,u5,u6) (fatesM F) t (ua,za)).1,(sayP (u1,u2,u3,u4,u5,u6) (fatesM F) t (ua,za)).2.dropWhile (dueT t)),((sayP (v1,v2,v3,v4,v5,v6) (fatesM G) t (ub,zb)).1,(sayP (v1,v2,v3,v4,v5,v6) (fatesM G) t (ub,zb)).2.dropWhile (dueT t)))=L:=fun ht zx zy e1 e2=>by
  have hww:gtR tW w t=(w1,w2):=by rw[hw1,hw2,r14,r21,r22]
  have hu':(chooseM (x1,x2,x3,x4,x5,x6) w1).1=(u1,u2,u3,u4,u5,u6):=by rw[hg1,hu]
  have hv':(chooseM (y1,y2,y3,y4,y5,y6) w2).1=(v1,v2,v3,v4,v5,v6):=by rw[hg1,hv]
  rw[←hI6,gtR_drop (t:=tW) hI1 (by omega),hww,runP]
  unfold cycP
  dsimp only
  rw[hu',hv',←e1,←e2,List.append_assoc];rfl
 have hend:¬ t<N→out=L:=fun h=>by rw[←hI6,gtR_end (by omega),runP,List.append_nil]
 have hrs:∀ (z:SD) (o:List tChoice.den) (i:Int),0≤i→i<o.length→recvM z (o.drop i.toNat)=recvM (g3 z (gtR tChoice o i)).1 (o.drop (i+1).toNat):=fun z o i h0 h1=>by rw[←hg3];exact recv_step h0 h1
 have hre:∀ (z:SD) (o:List tChoice.den) (i:Int),¬ i<o.length→recvM z (o.drop i.toNat)=z:=fun z o i h=>by rw[gtR_end h];rfl
 have hlim:t<N→LIM (ad (ln tMeet out) 1) 96:=fun h=>by
  rw[r8,r12];exact LIM_iff.2 ⟨by show (out.length+1)*96≤_;omega,by show out.length+1≤_;omega⟩
 have hln1:∀ z:tMeet.den,ln tMeet [z]=1:=fun z=>by rw[r12];rfl
 clear hI6
 rcases oa with _ | ⟨ma,Aa,Wa⟩ <;> rcases ob with _ | ⟨mb,Ab,Wb⟩
 ·cbv
  try simp only[nc_eq]at *
  rw[hlw,←hw1,←hw2,hu,hv]
  dsimp only
  rw[hc',hd']
  dsimp only
  refine BR.lss r0 (fun ht=>?_) fun ht=>⟨⟨nlLe_none.2 trivial,hend ht⟩,hEe.symm,trivial⟩
  have hi:INB t N:=⟨hI1,ht⟩
  refine ⟨hi,j0,hi,hi,j1,hi,BR.eql r0 (fun hce=>?_) fun hce=>?_⟩
  ·subst hce
   refine hA.sendN hFq hI1 (by omega) hka hc2 fun p b hA2=>?_
   cbv
   try simp only[nc_eq]at *
   try dsimp only
   rw[hd']
   dsimp only
   first | refine And.intro (by simp[nlLe_self,nlLe_none]) ?_ | skip
   refine BR.eql r0 (fun hde=>?_) fun hde=>?_
   ·subst hde
    refine hB.sendN hGq hI1 (by omega) hkb hd2 fun p' b' hB2=>?_
    cbv
    try simp only[nc_eq]at *
    first | refine And.intro (by simp[nlLe_self,nlLe_none]) ?_ | skip
    refine hB2.hearS hI1 (by omega) fun zz o1 W1 ho1 hl1 hB3=>?_
    cbv
    try simp only[nc_eq]at *
    first | refine And.intro (by simp[nlLe_self,nlLe_none]) ?_ | skip
    refine LOOP.ind (σ:=SD×Int) (fun (_,i)=>[(2,.tl nw tW w),(12,.ptr 0 0),(15,.ptr 1 0),(17,.ptr 2 0),(18,.ptr 6 0),(19,.og 0 tMeet out),(20,.p (iv t)),(25,.tl none tChoice o1),(27,.p (iv i))])
     (fun (z,_)=>⟨hdB ka F kb G z (v1,v2,v3,v4,v5,v6) t (some (1,[p],[b])) t (some (1,[p'],W1)),[(ml (ln tMeet out) 12,45)]⟩) (fun (_,i)=>((o1).length - i:Int).toNat) (fun (z,i)=>0≤i∧i≤(o1).length∧recvM z ((o1).drop i.toNat)=recvM (u1,u2,u3,u4,u5,u6) (o1)) ((u1,u2,u3,u4,u5,u6),0) ⟨by show (0:Int)≤0;omega,by show (0:Int)≤_;omega,rfl⟩ (.inr ⟨[some 0,some 1,some 2,some 3,some 7,some 8,some 4,some 5,some 10,some 11],[some 0],?_⟩) ?_
    ·rw[SIM_iff];cbv;simp[nlLe_self,nlLe_none,lstEq]
    intro ⟨⟨z1,z2,z3,z4,z5,z6⟩,i2⟩ hJ X2 hY
    obtain ⟨hJ1,hJ2,hJ3⟩:=hJ
    obtain ⟨⟨e1,e2,e3,e4⟩,he⟩:∃ y:tChoice.den,gt tChoice (o1) i2=y:=⟨_,rfl⟩
    obtain ⟨⟨⟨q1,q2,q3,q4,q5,q6⟩,qe⟩,hq⟩:∃ y,g3 (z1,z2,z3,z4,z5,z6) (e1,e2,e3,e4)=y:=⟨_,rfl⟩
    have hlo:ic (ln tChoice (o1))=(o1).length:=by rw[r4,r12]
    obtain ⟨No,hNo⟩:∃ No:Int,No=(o1).length:=⟨_,rfl⟩
    have hNo64:No≤64:=by rw[hNo];omega
    rw[←hNo]at hlo hJ2
    have hst:i2<No→recvM (q1,q2,q3,q4,q5,q6) ((o1).drop (i2+1).toNat)=recvM (u1,u2,u3,u4,u5,u6) (o1):=fun h=>by
     have hh:=hrs (z1,z2,z3,z4,z5,z6) (o1) i2 hJ1 (by omega)
     have he2:gtR tChoice (o1) i2=(e1,e2,e3,e4):=by rw[←he,r14]
     rw[he2,hq]at hh
     rw[←hJ3];exact hh.symm
    have hfin:¬ i2<No→(z1,z2,z3,z4,z5,z6)=recvM (u1,u2,u3,u4,u5,u6) (o1):=fun h=>by rw[←hJ3];exact (hre _ _ _ (by omega)).symm
    have hadd2:i2<No→ar .add .i64 i2 1=i2+1:=fun h=>by rw[r1];exact wrap64 (n:=i2+1) (by omega) (by omega)
    cbv
    try simp only[nc_eq]at *
    rw[hlo,he]
    simp only[r21,r22]
    rw[hq]
    dsimp only
    refine BR.lss r0 (fun hk=>?_) fun hk=>?_
    ·have hi2:INB i2 No:=⟨hJ1,hk⟩
     rw[hadd2 hk]
     exact ⟨hi2,hi2,NEXT.mk (hY ((q1,q2,q3,q4,q5,q6),i2+1) _ _ ⟨by show 0≤i2+1;omega,by show i2+1≤_;omega,hst hk⟩ (by show (_ - (i2+1):Int).toNat<(_ - i2:Int).toNat;omega) (.inl ⟨rfl,rfl⟩))⟩
    have hX2:=hfin hk
    clear hst hfin hJ1 hJ2 hJ3 hadd2 hY he hq hlo
    refine hA2.hearS hI1 (by omega) fun zz2 o2 W2 ho2 hl2 hA3=>?_
    cbv
    try simp only[nc_eq]at *
    first | refine And.intro (by simp[nlLe_self,nlLe_none]) ?_ | skip
    obtain ⟨z7,hz7⟩:∃ z:SD,z=(z1,z2,z3,z4,z5,z6):=⟨_,rfl⟩
    obtain ⟨k1,k2,k3,k4,k5,k6⟩:=z7
    obtain ⟨rfl,rfl,rfl,rfl,rfl,rfl⟩:k1=z1∧k2=z2∧k3=z3∧k4=z4∧k5=z5∧k6=z6:=by simpa using hz7
    clear hz7
    refine LOOP.ind (σ:=SD×Int) (fun (_,i)=>[(2,.tl nw tW w),(12,.ptr 0 0),(15,.ptr 1 0),(17,.ptr 2 0),(18,.ptr 6 0),(19,.og 0 tMeet out),(20,.p (iv t)),(28,.tl none tChoice o2),(30,.p (iv i))])
     (fun (z,_)=>⟨hdB ka F kb G (k1,k2,k3,k4,k5,k6) z t (some (1,[p],W2)) t (some (1,[p'],W1)),[(ml (ln tMeet out) 12,45)]⟩) (fun (_,i)=>((o2).length - i:Int).toNat) (fun (z,i)=>0≤i∧i≤(o2).length∧recvM z ((o2).drop i.toNat)=recvM (v1,v2,v3,v4,v5,v6) (o2)) ((v1,v2,v3,v4,v5,v6),0) ⟨by show (0:Int)≤0;omega,by show (0:Int)≤_;omega,rfl⟩ (.inr ⟨[some 0,some 1,some 2,some 3,some 4,some 5,some 6,some 7,some 8,some 9],[some 0],?_⟩) ?_
    ·rw[SIM_iff];cbv;simp[nlLe_self,nlLe_none,lstEq]
    intro ⟨⟨z1,z2,z3,z4,z5,z6⟩,i3⟩ hJ X3 hY
    obtain ⟨hJ1,hJ2,hJ3⟩:=hJ
    obtain ⟨⟨e1,e2,e3,e4⟩,he⟩:∃ y:tChoice.den,gt tChoice (o2) i3=y:=⟨_,rfl⟩
    obtain ⟨⟨⟨q1,q2,q3,q4,q5,q6⟩,qe⟩,hq⟩:∃ y,g3 (z1,z2,z3,z4,z5,z6) (e1,e2,e3,e4)=y:=⟨_,rfl⟩
    have hlo:ic (ln tChoice (o2))=(o2).length:=by rw[r4,r12]
    obtain ⟨No,hNo⟩:∃ No:Int,No=(o2).length:=⟨_,rfl⟩
    have hNo64:No≤64:=by rw[hNo];omega
    rw[←hNo]at hlo hJ2
    have hst:i3<No→recvM (q1,q2,q3,q4,q5,q6) ((o2).drop (i3+1).toNat)=recvM (v1,v2,v3,v4,v5,v6) (o2):=fun h=>by
     have hh:=hrs (z1,z2,z3,z4,z5,z6) (o2) i3 hJ1 (by omega)
     have he2:gtR tChoice (o2) i3=(e1,e2,e3,e4):=by rw[←he,r14]
     rw[he2,hq]at hh
     rw[←hJ3];exact hh.symm
    have hfin:¬ i3<No→(z1,z2,z3,z4,z5,z6)=recvM (v1,v2,v3,v4,v5,v6) (o2):=fun h=>by rw[←hJ3];exact (hre _ _ _ (by omega)).symm
    have hadd3:i3<No→ar .add .i64 i3 1=i3+1:=fun h=>by rw[r1];exact wrap64 (n:=i3+1) (by omega) (by omega)
    cbv
    try simp only[nc_eq]at *
    rw[hlo,he]
    simp only[r21,r22]
    rw[hq]
    dsimp only
    refine BR.lss r0 (fun hk=>?_) fun hk=>?_
    ·have hi3:INB i3 No:=⟨hJ1,hk⟩
     rw[hadd3 hk]
     exact ⟨hi3,hi3,NEXT.mk (hY ((q1,q2,q3,q4,q5,q6),i3+1) _ _ ⟨by show 0≤i3+1;omega,by show i3+1≤_;omega,hst hk⟩ (by show (_ - (i3+1):Int).toNat<(_ - i3:Int).toNat;omega) (.inl ⟨rfl,rfl⟩))⟩
    have hX3:=hfin hk
    rw[hln1,hadd ht]
    have hap:∀ z:tMeet.den,ap tMeet out [z]=out ++ [z]:=fun z=>by rw[r16]
    rw[hap]
    refine ⟨⟨rfl⟩,hlim ht,NEXT.mk (hX (t+1,((k1,k2,k3,k4,k5,k6),(z1,z2,z3,z4,z5,z6)),(t,(sayP (u1,u2,u3,u4,u5,u6) (fatesM F) t (ua,za)).1,some (1,[p],W2),(sayP (u1,u2,u3,u4,u5,u6) (fatesM F) t (ua,za)).2.dropWhile (dueT t)),(t,(sayP (v1,v2,v3,v4,v5,v6) (fatesM G) t (ub,zb)).1,some (1,[p'],W1),(sayP (v1,v2,v3,v4,v5,v6) (fatesM G) t (ub,zb)).2.dropWhile (dueT t)),out ++ [((k1,k2,k3,k4,k5,k6),(z1,z2,z3,z4,z5,z6))]) _ _ ⟨by show 0≤t+1;omega,by show t+1≤N;omega,hA3,hB3,by rw[List.length_append,List.length_singleton];omega,hcyc ht _ _ (by rw[←ho1];exact hX2) (by rw[←ho2];exact hX3)⟩ (by show (N - (t+1)).toNat<(N - t).toNat;omega) (.inl ⟨rfl,rfl⟩))⟩
   ·have hB2:=hB.noSay (F:=G) hd2 hde
    refine hB2.hearN hI1 (by omega) fun ho1 hB3=>?_
    have hl1:([]:List tChoice.den).length≤64:=by simp
    first | refine And.intro (by simp[nlLe_self,nlLe_none]) ?_ | skip
    refine LOOP.ind (σ:=SD×Int) (fun (_,i)=>[(2,.tl nw tW w),(12,.ptr 0 0),(15,.ptr 1 0),(17,.ptr 2 0),(18,.ptr 6 0),(19,.og 0 tMeet out),(20,.p (iv t)),(25,.tl none tChoice ([]:List tChoice.den)),(27,.p (iv i))])
     (fun (z,_)=>⟨hdB ka F kb G z (v1,v2,v3,v4,v5,v6) t (some (1,[p],[b])) t (none),[(ml (ln tMeet out) 12,45)]⟩) (fun (_,i)=>((([]:List tChoice.den)).length - i:Int).toNat) (fun (z,i)=>0≤i∧i≤(([]:List tChoice.den)).length∧recvM z ((([]:List tChoice.den)).drop i.toNat)=recvM (u1,u2,u3,u4,u5,u6) (([]:List tChoice.den))) ((u1,u2,u3,u4,u5,u6),0) ⟨by show (0:Int)≤0;omega,by show (0:Int)≤_;omega,rfl⟩ (.inr ⟨[some 0,some 1,some 2,some 3,some 7,some 8,some 4,some 5],[some 0],?_⟩) ?_
    ·rw[SIM_iff];cbv;simp[nlLe_self,nlLe_none,lstEq]
    intro ⟨⟨z1,z2,z3,z4,z5,z6⟩,i2⟩ hJ X2 hY
    obtain ⟨hJ1,hJ2,hJ3⟩:=hJ
    obtain ⟨⟨e1,e2,e3,e4⟩,he⟩:∃ y:tChoice.den,gt tChoice (([]:List tChoice.den)) i2=y:=⟨_,rfl⟩
    obtain ⟨⟨⟨q1,q2,q3,q4,q5,q6⟩,qe⟩,hq⟩:∃ y,g3 (z1,z2,z3,z4,z5,z6) (e1,e2,e3,e4)=y:=⟨_,rfl⟩
    have hlo:ic (ln tChoice (([]:List tChoice.den)))=(([]:List tChoice.den)).length:=by rw[r4,r12]
    obtain ⟨No,hNo⟩:∃ No:Int,No=(([]:List tChoice.den)).length:=⟨_,rfl⟩
    have hNo64:No≤64:=by rw[hNo];omega
    rw[←hNo]at hlo hJ2
    have hNz:No=0:=by rw[hNo];rfl
    have hst:i2<No→recvM (q1,q2,q3,q4,q5,q6) ((([]:List tChoice.den)).drop (i2+1).toNat)=recvM (u1,u2,u3,u4,u5,u6) (([]:List tChoice.den)):=fun h=>absurd h (by omega)
    have hfin:¬ i2<No→(z1,z2,z3,z4,z5,z6)=recvM (u1,u2,u3,u4,u5,u6) (([]:List tChoice.den)):=fun h=>by rw[←hJ3];exact (hre _ _ _ (by show ¬ i2<(0:Int);omega)).symm
    have hadd2:i2<No→ar .add .i64 i2 1=i2+1:=fun h=>by rw[r1];exact wrap64 (n:=i2+1) (by omega) (by omega)
    cbv
    try simp only[nc_eq]at *
    rw[hlo,he]
    simp only[r21,r22]
    rw[hq]
    dsimp only
    refine BR.lss r0 (fun hk=>?_) fun hk=>?_
    ·have hi2:INB i2 No:=⟨hJ1,hk⟩
     rw[hadd2 hk]
     exact ⟨hi2,hi2,NEXT.mk (hY ((q1,q2,q3,q4,q5,q6),i2+1) _ _ ⟨by show 0≤i2+1;omega,by show i2+1≤_;omega,hst hk⟩ (by show (_ - (i2+1):Int).toNat<(_ - i2:Int).toNat;omega) (.inl ⟨rfl,rfl⟩))⟩
    have hX2:=hfin hk
    clear hst hfin hJ1 hJ2 hJ3 hadd2 hY he hq hlo
    refine hA2.hearS hI1 (by omega) fun zz2 o2 W2 ho2 hl2 hA3=>?_
    cbv
    try simp only[nc_eq]at *
    first | refine And.intro (by simp[nlLe_self,nlLe_none]) ?_ | skip
    obtain ⟨z7,hz7⟩:∃ z:SD,z=(z1,z2,z3,z4,z5,z6):=⟨_,rfl⟩
    obtain ⟨k1,k2,k3,k4,k5,k6⟩:=z7
    obtain ⟨rfl,rfl,rfl,rfl,rfl,rfl⟩:k1=z1∧k2=z2∧k3=z3∧k4=z4∧k5=z5∧k6=z6:=by simpa using hz7
    clear hz7
    refine LOOP.ind (σ:=SD×Int) (fun (_,i)=>[(2,.tl nw tW w),(12,.ptr 0 0),(15,.ptr 1 0),(17,.ptr 2 0),(18,.ptr 6 0),(19,.og 0 tMeet out),(20,.p (iv t)),(28,.tl none tChoice o2),(30,.p (iv i))])
     (fun (z,_)=>⟨hdB ka F kb G (k1,k2,k3,k4,k5,k6) z t (some (1,[p],W2)) t (none),[(ml (ln tMeet out) 12,45)]⟩) (fun (_,i)=>((o2).length - i:Int).toNat) (fun (z,i)=>0≤i∧i≤(o2).length∧recvM z ((o2).drop i.toNat)=recvM (v1,v2,v3,v4,v5,v6) (o2)) ((v1,v2,v3,v4,v5,v6),0) ⟨by show (0:Int)≤0;omega,by show (0:Int)≤_;omega,rfl⟩ (.inr ⟨[some 0,some 1,some 2,some 3,some 4,some 5,some 6,some 7],[some 0],?_⟩) ?_
    ·rw[SIM_iff];cbv;simp[nlLe_self,nlLe_none,lstEq]
    intro ⟨⟨z1,z2,z3,z4,z5,z6⟩,i3⟩ hJ X3 hY
    obtain ⟨hJ1,hJ2,hJ3⟩:=hJ
    obtain ⟨⟨e1,e2,e3,e4⟩,he⟩:∃ y:tChoice.den,gt tChoice (o2) i3=y:=⟨_,rfl⟩
    obtain ⟨⟨⟨q1,q2,q3,q4,q5,q6⟩,qe⟩,hq⟩:∃ y,g3 (z1,z2,z3,z4,z5,z6) (e1,e2,e3,e4)=y:=⟨_,rfl⟩
    have hlo:ic (ln tChoice (o2))=(o2).length:=by rw[r4,r12]
    obtain ⟨No,hNo⟩:∃ No:Int,No=(o2).length:=⟨_,rfl⟩
    have hNo64:No≤64:=by rw[hNo];omega
    rw[←hNo]at hlo hJ2
    have hst:i3<No→recvM (q1,q2,q3,q4,q5,q6) ((o2).drop (i3+1).toNat)=recvM (v1,v2,v3,v4,v5,v6) (o2):=fun h=>by
     have hh:=hrs (z1,z2,z3,z4,z5,z6) (o2) i3 hJ1 (by omega)
     have he2:gtR tChoice (o2) i3=(e1,e2,e3,e4):=by rw[←he,r14]
     rw[he2,hq]at hh
     rw[←hJ3];exact hh.symm
    have hfin:¬ i3<No→(z1,z2,z3,z4,z5,z6)=recvM (v1,v2,v3,v4,v5,v6) (o2):=fun h=>by rw[←hJ3];exact (hre _ _ _ (by omega)).symm
    have hadd3:i3<No→ar .add .i64 i3 1=i3+1:=fun h=>by rw[r1];exact wrap64 (n:=i3+1) (by omega) (by omega)
    cbv
    try simp only[nc_eq]at *
    rw[hlo,he]
    simp only[r21,r22]
    rw[hq]
    dsimp only
    refine BR.lss r0 (fun hk=>?_) fun hk=>?_
    ·have hi3:INB i3 No:=⟨hJ1,hk⟩
     rw[hadd3 hk]
     exact ⟨hi3,hi3,NEXT.mk (hY ((q1,q2,q3,q4,q5,q6),i3+1) _ _ ⟨by show 0≤i3+1;omega,by show i3+1≤_;omega,hst hk⟩ (by show (_ - (i3+1):Int).toNat<(_ - i3:Int).toNat;omega) (.inl ⟨rfl,rfl⟩))⟩
    have hX3:=hfin hk
    rw[hln1,hadd ht]
    have hap:∀ z:tMeet.den,ap tMeet out [z]=out ++ [z]:=fun z=>by rw[r16]
    rw[hap]
    refine ⟨⟨rfl⟩,hlim ht,NEXT.mk (hX (t+1,((k1,k2,k3,k4,k5,k6),(z1,z2,z3,z4,z5,z6)),(t,(sayP (u1,u2,u3,u4,u5,u6) (fatesM F) t (ua,za)).1,some (1,[p],W2),(sayP (u1,u2,u3,u4,u5,u6) (fatesM F) t (ua,za)).2.dropWhile (dueT t)),(t,(sayP (v1,v2,v3,v4,v5,v6) (fatesM G) t (ub,zb)).1,none,(sayP (v1,v2,v3,v4,v5,v6) (fatesM G) t (ub,zb)).2.dropWhile (dueT t)),out ++ [((k1,k2,k3,k4,k5,k6),(z1,z2,z3,z4,z5,z6))]) _ _ ⟨by show 0≤t+1;omega,by show t+1≤N;omega,hA3,hB3,by rw[List.length_append,List.length_singleton];omega,hcyc ht _ _ (by rw[←ho1];exact hX2) (by rw[←ho2];exact hX3)⟩ (by show (N - (t+1)).toNat<(N - t).toNat;omega) (.inl ⟨rfl,rfl⟩))⟩
  ·have hA2:=hA.noSay (F:=F) hc2 hce
   refine BR.eql r0 (fun hde=>?_) fun hde=>?_
   ·subst hde
    refine hB.sendN hGq hI1 (by omega) hkb hd2 fun p' b' hB2=>?_
    cbv
    try simp only[nc_eq]at *
    first | refine And.intro (by simp[nlLe_self,nlLe_none]) ?_ | skip
    refine hB2.hearS hI1 (by omega) fun zz o1 W1 ho1 hl1 hB3=>?_
    cbv
    try simp only[nc_eq]at *
    first | refine And.intro (by simp[nlLe_self,nlLe_none]) ?_ | skip
    refine LOOP.ind (σ:=SD×Int) (fun (_,i)=>[(2,.tl nw tW w),(12,.ptr 0 0),(15,.ptr 1 0),(17,.ptr 2 0),(18,.ptr 4 0),(19,.og 0 tMeet out),(20,.p (iv t)),(25,.tl none tChoice o1),(27,.p (iv i))])
     (fun (z,_)=>⟨hdB ka F kb G z (v1,v2,v3,v4,v5,v6) na (none) t (some (1,[p'],W1)),[(ml (ln tMeet out) 12,45)]⟩) (fun (_,i)=>((o1).length - i:Int).toNat) (fun (z,i)=>0≤i∧i≤(o1).length∧recvM z ((o1).drop i.toNat)=recvM (u1,u2,u3,u4,u5,u6) (o1)) ((u1,u2,u3,u4,u5,u6),0) ⟨by show (0:Int)≤0;omega,by show (0:Int)≤_;omega,rfl⟩ (.inr ⟨[some 0,some 1,some 2,some 3,some 4,some 5,some 8,some 9],[some 0],?_⟩) ?_
    ·rw[SIM_iff];cbv;simp[nlLe_self,nlLe_none,lstEq]
    intro ⟨⟨z1,z2,z3,z4,z5,z6⟩,i2⟩ hJ X2 hY
    obtain ⟨hJ1,hJ2,hJ3⟩:=hJ
    obtain ⟨⟨e1,e2,e3,e4⟩,he⟩:∃ y:tChoice.den,gt tChoice (o1) i2=y:=⟨_,rfl⟩
    obtain ⟨⟨⟨q1,q2,q3,q4,q5,q6⟩,qe⟩,hq⟩:∃ y,g3 (z1,z2,z3,z4,z5,z6) (e1,e2,e3,e4)=y:=⟨_,rfl⟩
    have hlo:ic (ln tChoice (o1))=(o1).length:=by rw[r4,r12]
    obtain ⟨No,hNo⟩:∃ No:Int,No=(o1).length:=⟨_,rfl⟩
    have hNo64:No≤64:=by rw[hNo];omega
    rw[←hNo]at hlo hJ2
    have hst:i2<No→recvM (q1,q2,q3,q4,q5,q6) ((o1).drop (i2+1).toNat)=recvM (u1,u2,u3,u4,u5,u6) (o1):=fun h=>by
     have hh:=hrs (z1,z2,z3,z4,z5,z6) (o1) i2 hJ1 (by omega)
     have he2:gtR tChoice (o1) i2=(e1,e2,e3,e4):=by rw[←he,r14]
     rw[he2,hq]at hh
     rw[←hJ3];exact hh.symm
    have hfin:¬ i2<No→(z1,z2,z3,z4,z5,z6)=recvM (u1,u2,u3,u4,u5,u6) (o1):=fun h=>by rw[←hJ3];exact (hre _ _ _ (by omega)).symm
    have hadd2:i2<No→ar .add .i64 i2 1=i2+1:=fun h=>by rw[r1];exact wrap64 (n:=i2+1) (by omega) (by omega)
    cbv
    try simp only[nc_eq]at *
    rw[hlo,he]
    simp only[r21,r22]
    rw[hq]
    dsimp only
    refine BR.lss r0 (fun hk=>?_) fun hk=>?_
    ·have hi2:INB i2 No:=⟨hJ1,hk⟩
     rw[hadd2 hk]
     exact ⟨hi2,hi2,NEXT.mk (hY ((q1,q2,q3,q4,q5,q6),i2+1) _ _ ⟨by show 0≤i2+1;omega,by show i2+1≤_;omega,hst hk⟩ (by show (_ - (i2+1):Int).toNat<(_ - i2:Int).toNat;omega) (.inl ⟨rfl,rfl⟩))⟩
    have hX2:=hfin hk
    clear hst hfin hJ1 hJ2 hJ3 hadd2 hY he hq hlo
    refine hA2.hearN hI1 (by omega) fun ho2 hA3=>?_
    have hl2:([]:List tChoice.den).length≤64:=by simp
    first | refine And.intro (by simp[nlLe_self,nlLe_none]) ?_ | skip
    obtain ⟨z7,hz7⟩:∃ z:SD,z=(z1,z2,z3,z4,z5,z6):=⟨_,rfl⟩
    obtain ⟨k1,k2,k3,k4,k5,k6⟩:=z7
    obtain ⟨rfl,rfl,rfl,rfl,rfl,rfl⟩:k1=z1∧k2=z2∧k3=z3∧k4=z4∧k5=z5∧k6=z6:=by simpa using hz7
    clear hz7
    refine LOOP.ind (σ:=SD×Int) (fun (_,i)=>[(2,.tl nw tW w),(12,.ptr 0 0),(15,.ptr 1 0),(17,.ptr 2 0),(18,.ptr 4 0),(19,.og 0 tMeet out),(20,.p (iv t)),(28,.tl none tChoice ([]:List tChoice.den)),(30,.p (iv i))])
     (fun (z,_)=>⟨hdB ka F kb G (k1,k2,k3,k4,k5,k6) z t (none) t (some (1,[p'],W1)),[(ml (ln tMeet out) 12,45)]⟩) (fun (_,i)=>((([]:List tChoice.den)).length - i:Int).toNat) (fun (z,i)=>0≤i∧i≤(([]:List tChoice.den)).length∧recvM z ((([]:List tChoice.den)).drop i.toNat)=recvM (v1,v2,v3,v4,v5,v6) (([]:List tChoice.den))) ((v1,v2,v3,v4,v5,v6),0) ⟨by show (0:Int)≤0;omega,by show (0:Int)≤_;omega,rfl⟩ (.inr ⟨[some 0,some 1,some 2,some 3,some 4,some 5,some 6,some 7],[some 0],?_⟩) ?_
    ·rw[SIM_iff];cbv;simp[nlLe_self,nlLe_none,lstEq]
    intro ⟨⟨z1,z2,z3,z4,z5,z6⟩,i3⟩ hJ X3 hY
    obtain ⟨hJ1,hJ2,hJ3⟩:=hJ
    obtain ⟨⟨e1,e2,e3,e4⟩,he⟩:∃ y:tChoice.den,gt tChoice (([]:List tChoice.den)) i3=y:=⟨_,rfl⟩
    obtain ⟨⟨⟨q1,q2,q3,q4,q5,q6⟩,qe⟩,hq⟩:∃ y,g3 (z1,z2,z3,z4,z5,z6) (e1,e2,e3,e4)=y:=⟨_,rfl⟩
    have hlo:ic (ln tChoice (([]:List tChoice.den)))=(([]:List tChoice.den)).length:=by rw[r4,r12]
    obtain ⟨No,hNo⟩:∃ No:Int,No=(([]:List tChoice.den)).length:=⟨_,rfl⟩
    have hNo64:No≤64:=by rw[hNo];omega
    rw[←hNo]at hlo hJ2
    have hNz:No=0:=by rw[hNo];rfl
    have hst:i3<No→recvM (q1,q2,q3,q4,q5,q6) ((([]:List tChoice.den)).drop (i3+1).toNat)=recvM (v1,v2,v3,v4,v5,v6) (([]:List tChoice.den)):=fun h=>absurd h (by omega)
    have hfin:¬ i3<No→(z1,z2,z3,z4,z5,z6)=recvM (v1,v2,v3,v4,v5,v6) (([]:List tChoice.den)):=fun h=>by rw[←hJ3];exact (hre _ _ _ (by show ¬ i3<(0:Int);omega)).symm
    have hadd3:i3<No→ar .add .i64 i3 1=i3+1:=fun h=>by rw[r1];exact wrap64 (n:=i3+1) (by omega) (by omega)
    cbv
    try simp only[nc_eq]at *
    rw[hlo,he]
    simp only[r21,r22]
    rw[hq]
    dsimp only
    refine BR.lss r0 (fun hk=>?_) fun hk=>?_
    ·have hi3:INB i3 No:=⟨hJ1,hk⟩
     rw[hadd3 hk]
     exact ⟨hi3,hi3,NEXT.mk (hY ((q1,q2,q3,q4,q5,q6),i3+1) _ _ ⟨by show 0≤i3+1;omega,by show i3+1≤_;omega,hst hk⟩ (by show (_ - (i3+1):Int).toNat<(_ - i3:Int).toNat;omega) (.inl ⟨rfl,rfl⟩))⟩
    have hX3:=hfin hk
    rw[hln1,hadd ht]
    have hap:∀ z:tMeet.den,ap tMeet out [z]=out ++ [z]:=fun z=>by rw[r16]
    rw[hap]
    refine ⟨⟨rfl⟩,hlim ht,NEXT.mk (hX (t+1,((k1,k2,k3,k4,k5,k6),(z1,z2,z3,z4,z5,z6)),(t,(sayP (u1,u2,u3,u4,u5,u6) (fatesM F) t (ua,za)).1,none,(sayP (u1,u2,u3,u4,u5,u6) (fatesM F) t (ua,za)).2.dropWhile (dueT t)),(t,(sayP (v1,v2,v3,v4,v5,v6) (fatesM G) t (ub,zb)).1,some (1,[p'],W1),(sayP (v1,v2,v3,v4,v5,v6) (fatesM G) t (ub,zb)).2.dropWhile (dueT t)),out ++ [((k1,k2,k3,k4,k5,k6),(z1,z2,z3,z4,z5,z6))]) _ _ ⟨by show 0≤t+1;omega,by show t+1≤N;omega,hA3,hB3,by rw[List.length_append,List.length_singleton];omega,hcyc ht _ _ (by rw[←ho1];exact hX2) (by rw[←ho2];exact hX3)⟩ (by show (N - (t+1)).toNat<(N - t).toNat;omega) (.inl ⟨rfl,rfl⟩))⟩
   ·have hB2:=hB.noSay (F:=G) hd2 hde
    refine hB2.hearN hI1 (by omega) fun ho1 hB3=>?_
    have hl1:([]:List tChoice.den).length≤64:=by simp
    first | refine And.intro (by simp[nlLe_self,nlLe_none]) ?_ | skip
    refine LOOP.ind (σ:=SD×Int) (fun (_,i)=>[(2,.tl nw tW w),(12,.ptr 0 0),(15,.ptr 1 0),(17,.ptr 2 0),(18,.ptr 4 0),(19,.og 0 tMeet out),(20,.p (iv t)),(25,.tl none tChoice ([]:List tChoice.den)),(27,.p (iv i))])
     (fun (z,_)=>⟨hdB ka F kb G z (v1,v2,v3,v4,v5,v6) na (none) t (none),[(ml (ln tMeet out) 12,45)]⟩) (fun (_,i)=>((([]:List tChoice.den)).length - i:Int).toNat) (fun (z,i)=>0≤i∧i≤(([]:List tChoice.den)).length∧recvM z ((([]:List tChoice.den)).drop i.toNat)=recvM (u1,u2,u3,u4,u5,u6) (([]:List tChoice.den))) ((u1,u2,u3,u4,u5,u6),0) ⟨by show (0:Int)≤0;omega,by show (0:Int)≤_;omega,rfl⟩ (.inr ⟨[some 0,some 1,some 2,some 3,some 4,some 5],[some 0],?_⟩) ?_
    ·rw[SIM_iff];cbv;simp[nlLe_self,nlLe_none,lstEq]
    intro ⟨⟨z1,z2,z3,z4,z5,z6⟩,i2⟩ hJ X2 hY
    obtain ⟨hJ1,hJ2,hJ3⟩:=hJ
    obtain ⟨⟨e1,e2,e3,e4⟩,he⟩:∃ y:tChoice.den,gt tChoice (([]:List tChoice.den)) i2=y:=⟨_,rfl⟩
    obtain ⟨⟨⟨q1,q2,q3,q4,q5,q6⟩,qe⟩,hq⟩:∃ y,g3 (z1,z2,z3,z4,z5,z6) (e1,e2,e3,e4)=y:=⟨_,rfl⟩
    have hlo:ic (ln tChoice (([]:List tChoice.den)))=(([]:List tChoice.den)).length:=by rw[r4,r12]
    obtain ⟨No,hNo⟩:∃ No:Int,No=(([]:List tChoice.den)).length:=⟨_,rfl⟩
    have hNo64:No≤64:=by rw[hNo];omega
    rw[←hNo]at hlo hJ2
    have hNz:No=0:=by rw[hNo];rfl
    have hst:i2<No→recvM (q1,q2,q3,q4,q5,q6) ((([]:List tChoice.den)).drop (i2+1).toNat)=recvM (u1,u2,u3,u4,u5,u6) (([]:List tChoice.den)):=fun h=>absurd h (by omega)
    have hfin:¬ i2<No→(z1,z2,z3,z4,z5,z6)=recvM (u1,u2,u3,u4,u5,u6) (([]:List tChoice.den)):=fun h=>by rw[←hJ3];exact (hre _ _ _ (by show ¬ i2<(0:Int);omega)).symm
    have hadd2:i2<No→ar .add .i64 i2 1=i2+1:=fun h=>by rw[r1];exact wrap64 (n:=i2+1) (by omega) (by omega)
    cbv
    try simp only[nc_eq]at *
    rw[hlo,he]
    simp only[r21,r22]
    rw[hq]
    dsimp only
    refine BR.lss r0 (fun hk=>?_) fun hk=>?_
    ·have hi2:INB i2 No:=⟨hJ1,hk⟩
     rw[hadd2 hk]
     exact ⟨hi2,hi2,NEXT.mk (hY ((q1,q2,q3,q4,q5,q6),i2+1) _ _ ⟨by show 0≤i2+1;omega,by show i2+1≤_;omega,hst hk⟩ (by show (_ - (i2+1):Int).toNat<(_ - i2:Int).toNat;omega) (.inl ⟨rfl,rfl⟩))⟩
    have hX2:=hfin hk
    clear hst hfin hJ1 hJ2 hJ3 hadd2 hY he hq hlo
    refine hA2.hearN hI1 (by omega) fun ho2 hA3=>?_
    have hl2:([]:List tChoice.den).length≤64:=by simp
    first | refine And.intro (by simp[nlLe_self,nlLe_none]) ?_ | skip
    obtain ⟨z7,hz7⟩:∃ z:SD,z=(z1,z2,z3,z4,z5,z6):=⟨_,rfl⟩
    obtain ⟨k1,k2,k3,k4,k5,k6⟩:=z7
    obtain ⟨rfl,rfl,rfl,rfl,rfl,rfl⟩:k1=z1∧k2=z2∧k3=z3∧k4=z4∧k5=z5∧k6=z6:=by simpa using hz7
    clear hz7
    refine LOOP.ind (σ:=SD×Int) (fun (_,i)=>[(2,.tl nw tW w),(12,.ptr 0 0),(15,.ptr 1 0),(17,.ptr 2 0),(18,.ptr 4 0),(19,.og 0 tMeet out),(20,.p (iv t)),(28,.tl none tChoice ([]:List tChoice.den)),(30,.p (iv i))])
     (fun (z,_)=>⟨hdB ka F kb G (k1,k2,k3,k4,k5,k6) z t (none) t (none),[(ml (ln tMeet out) 12,45)]⟩) (fun (_,i)=>((([]:List tChoice.den)).length - i:Int).toNat) (fun (z,i)=>0≤i∧i≤(([]:List tChoice.den)).length∧recvM z ((([]:List tChoice.den)).drop i.toNat)=recvM (v1,v2,v3,v4,v5,v6) (([]:List tChoice.den))) ((v1,v2,v3,v4,v5,v6),0) ⟨by show (0:Int)≤0;omega,by show (0:Int)≤_;omega,rfl⟩ (.inr ⟨[some 0,some 1,some 2,some 3,some 4,some 5],[some 0],?_⟩) ?_
    ·rw[SIM_iff];cbv;simp[nlLe_self,nlLe_none,lstEq]
    intro ⟨⟨z1,z2,z3,z4,z5,z6⟩,i3⟩ hJ X3 hY
    obtain ⟨hJ1,hJ2,hJ3⟩:=hJ
    obtain ⟨⟨e1,e2,e3,e4⟩,he⟩:∃ y:tChoice.den,gt tChoice (([]:List tChoice.den)) i3=y:=⟨_,rfl⟩
    obtain ⟨⟨⟨q1,q2,q3,q4,q5,q6⟩,qe⟩,hq⟩:∃ y,g3 (z1,z2,z3,z4,z5,z6) (e1,e2,e3,e4)=y:=⟨_,rfl⟩
    have hlo:ic (ln tChoice (([]:List tChoice.den)))=(([]:List tChoice.den)).length:=by rw[r4,r12]
    obtain ⟨No,hNo⟩:∃ No:Int,No=(([]:List tChoice.den)).length:=⟨_,rfl⟩
    have hNo64:No≤64:=by rw[hNo];omega
    rw[←hNo]at hlo hJ2
    have hNz:No=0:=by rw[hNo];rfl
    have hst:i3<No→recvM (q1,q2,q3,q4,q5,q6) ((([]:List tChoice.den)).drop (i3+1).toNat)=recvM (v1,v2,v3,v4,v5,v6) (([]:List tChoice.den)):=fun h=>absurd h (by omega)
    have hfin:¬ i3<No→(z1,z2,z3,z4,z5,z6)=recvM (v1,v2,v3,v4,v5,v6) (([]:List tChoice.den)):=fun h=>by rw[←hJ3];exact (hre _ _ _ (by show ¬ i3<(0:Int);omega)).symm
    have hadd3:i3<No→ar .add .i64 i3 1=i3+1:=fun h=>by rw[r1];exact wrap64 (n:=i3+1) (by omega) (by omega)
    cbv
    try simp only[nc_eq]at *
    rw[hlo,he]
    simp only[r21,r22]
    rw[hq]
    dsimp only
    refine BR.lss r0 (fun hk=>?_) fun hk=>?_
    ·have hi3:INB i3 No:=⟨hJ1,hk⟩
     rw[hadd3 hk]
     exact ⟨hi3,hi3,NEXT.mk (hY ((q1,q2,q3,q4,q5,q6),i3+1) _ _ ⟨by show 0≤i3+1;omega,by show i3+1≤_;omega,hst hk⟩ (by show (_ - (i3+1):Int).toNat<(_ - i3:Int).toNat;omega) (.inl ⟨rfl,rfl⟩))⟩
    have hX3:=hfin hk
    rw[hln1,hadd ht]
    have hap:∀ z:tMeet.den,ap tMeet out [z]=out ++ [z]:=fun z=>by rw[r16]
    rw[hap]
    refine ⟨⟨rfl⟩,hlim ht,NEXT.mk (hX (t+1,((k1,k2,k3,k4,k5,k6),(z1,z2,z3,z4,z5,z6)),(t,(sayP (u1,u2,u3,u4,u5,u6) (fatesM F) t (ua,za)).1,none,(sayP (u1,u2,u3,u4,u5,u6) (fatesM F) t (ua,za)).2.dropWhile (dueT t)),(t,(sayP (v1,v2,v3,v4,v5,v6) (fatesM G) t (ub,zb)).1,none,(sayP (v1,v2,v3,v4,v5,v6) (fatesM G) t (ub,zb)).2.dropWhile (dueT t)),out ++ [((k1,k2,k3,k4,k5,k6),(z1,z2,z3,z4,z5,z6))]) _ _ ⟨by show 0≤t+1;omega,by show t+1≤N;omega,hA3,hB3,by rw[List.length_append,List.length_singleton];omega,hcyc ht _ _ (by rw[←ho1];exact hX2) (by rw[←ho2];exact hX3)⟩ (by show (N - (t+1)).toNat<(N - t).toNat;omega) (.inl ⟨rfl,rfl⟩))⟩
 ·cbv
  try simp only[nc_eq]at *
  rw[hlw,←hw1,←hw2,hu,hv]
  dsimp only
  rw[hc',hd']
  dsimp only
  refine BR.lss r0 (fun ht=>?_) fun ht=>⟨⟨nlLe_none.2 trivial,hend ht⟩,hEe.symm,trivial⟩
  have hi:INB t N:=⟨hI1,ht⟩
  refine ⟨hi,j0,hi,hi,j1,hi,BR.eql r0 (fun hce=>?_) fun hce=>?_⟩
  ·subst hce
   refine hA.sendN hFq hI1 (by omega) hka hc2 fun p b hA2=>?_
   cbv
   try simp only[nc_eq]at *
   try dsimp only
   rw[hd']
   dsimp only
   first | refine And.intro (by simp[nlLe_self,nlLe_none]) ?_ | skip
   refine BR.eql r0 (fun hde=>?_) fun hde=>?_
   ·subst hde
    refine hB.sendS hGq hI1 (by omega) hkb hd2 fun m3 A3 Wy hB2=>?_
    cbv
    try simp only[nc_eq]at *
    first | refine And.intro (by simp[nlLe_self,nlLe_none]) ?_ | skip
    refine hB2.hearS hI1 (by omega) fun zz o1 W1 ho1 hl1 hB3=>?_
    cbv
    try simp only[nc_eq]at *
    first | refine And.intro (by simp[nlLe_self,nlLe_none]) ?_ | skip
    refine LOOP.ind (σ:=SD×Int) (fun (_,i)=>[(2,.tl nw tW w),(12,.ptr 0 0),(15,.ptr 1 0),(17,.ptr 2 0),(18,.ptr 6 0),(19,.og 0 tMeet out),(20,.p (iv t)),(25,.tl none tChoice o1),(27,.p (iv i))])
     (fun (z,_)=>⟨hdB ka F kb G z (v1,v2,v3,v4,v5,v6) t (some (1,[p],[b])) t (some (m3,A3,W1)),[(ml (ln tMeet out) 12,45)]⟩) (fun (_,i)=>((o1).length - i:Int).toNat) (fun (z,i)=>0≤i∧i≤(o1).length∧recvM z ((o1).drop i.toNat)=recvM (u1,u2,u3,u4,u5,u6) (o1)) ((u1,u2,u3,u4,u5,u6),0) ⟨by show (0:Int)≤0;omega,by show (0:Int)≤_;omega,rfl⟩ (.inr ⟨[some 0,some 1,some 2,some 3,some 9,some 10,some 4,some 5,some 12,some 13],[some 0],?_⟩) ?_
    ·rw[SIM_iff];cbv;simp[nlLe_self,nlLe_none,lstEq]
    intro ⟨⟨z1,z2,z3,z4,z5,z6⟩,i2⟩ hJ X2 hY
    obtain ⟨hJ1,hJ2,hJ3⟩:=hJ
    obtain ⟨⟨e1,e2,e3,e4⟩,he⟩:∃ y:tChoice.den,gt tChoice (o1) i2=y:=⟨_,rfl⟩
    obtain ⟨⟨⟨q1,q2,q3,q4,q5,q6⟩,qe⟩,hq⟩:∃ y,g3 (z1,z2,z3,z4,z5,z6) (e1,e2,e3,e4)=y:=⟨_,rfl⟩
    have hlo:ic (ln tChoice (o1))=(o1).length:=by rw[r4,r12]
    obtain ⟨No,hNo⟩:∃ No:Int,No=(o1).length:=⟨_,rfl⟩
    have hNo64:No≤64:=by rw[hNo];omega
    rw[←hNo]at hlo hJ2
    have hst:i2<No→recvM (q1,q2,q3,q4,q5,q6) ((o1).drop (i2+1).toNat)=recvM (u1,u2,u3,u4,u5,u6) (o1):=fun h=>by
     have hh:=hrs (z1,z2,z3,z4,z5,z6) (o1) i2 hJ1 (by omega)
     have he2:gtR tChoice (o1) i2=(e1,e2,e3,e4):=by rw[←he,r14]
     rw[he2,hq]at hh
     rw[←hJ3];exact hh.symm
    have hfin:¬ i2<No→(z1,z2,z3,z4,z5,z6)=recvM (u1,u2,u3,u4,u5,u6) (o1):=fun h=>by rw[←hJ3];exact (hre _ _ _ (by omega)).symm
    have hadd2:i2<No→ar .add .i64 i2 1=i2+1:=fun h=>by rw[r1];exact wrap64 (n:=i2+1) (by omega) (by omega)
    cbv
    try simp only[nc_eq]at *
    rw[hlo,he]
    simp only[r21,r22]
    rw[hq]
    dsimp only
    refine BR.lss r0 (fun hk=>?_) fun hk=>?_
    ·have hi2:INB i2 No:=⟨hJ1,hk⟩
     rw[hadd2 hk]
     exact ⟨hi2,hi2,NEXT.mk (hY ((q1,q2,q3,q4,q5,q6),i2+1) _ _ ⟨by show 0≤i2+1;omega,by show i2+1≤_;omega,hst hk⟩ (by show (_ - (i2+1):Int).toNat<(_ - i2:Int).toNat;omega) (.inl ⟨rfl,rfl⟩))⟩
    have hX2:=hfin hk
    clear hst hfin hJ1 hJ2 hJ3 hadd2 hY he hq hlo
    refine hA2.hearS hI1 (by omega) fun zz2 o2 W2 ho2 hl2 hA3=>?_
    cbv
    try simp only[nc_eq]at *
    first | refine And.intro (by simp[nlLe_self,nlLe_none]) ?_ | skip
    obtain ⟨z7,hz7⟩:∃ z:SD,z=(z1,z2,z3,z4,z5,z6):=⟨_,rfl⟩
    obtain ⟨k1,k2,k3,k4,k5,k6⟩:=z7
    obtain ⟨rfl,rfl,rfl,rfl,rfl,rfl⟩:k1=z1∧k2=z2∧k3=z3∧k4=z4∧k5=z5∧k6=z6:=by simpa using hz7
    clear hz7
    refine LOOP.ind (σ:=SD×Int) (fun (_,i)=>[(2,.tl nw tW w),(12,.ptr 0 0),(15,.ptr 1 0),(17,.ptr 2 0),(18,.ptr 6 0),(19,.og 0 tMeet out),(20,.p (iv t)),(28,.tl none tChoice o2),(30,.p (iv i))])
     (fun (z,_)=>⟨hdB ka F kb G (k1,k2,k3,k4,k5,k6) z t (some (1,[p],W2)) t (some (m3,A3,W1)),[(ml (ln tMeet out) 12,45)]⟩) (fun (_,i)=>((o2).length - i:Int).toNat) (fun (z,i)=>0≤i∧i≤(o2).length∧recvM z ((o2).drop i.toNat)=recvM (v1,v2,v3,v4,v5,v6) (o2)) ((v1,v2,v3,v4,v5,v6),0) ⟨by show (0:Int)≤0;omega,by show (0:Int)≤_;omega,rfl⟩ (.inr ⟨[some 0,some 1,some 2,some 3,some 4,some 5,some 6,some 7,some 8,some 9],[some 0],?_⟩) ?_
    ·rw[SIM_iff];cbv;simp[nlLe_self,nlLe_none,lstEq]
    intro ⟨⟨z1,z2,z3,z4,z5,z6⟩,i3⟩ hJ X3 hY
    obtain ⟨hJ1,hJ2,hJ3⟩:=hJ
    obtain ⟨⟨e1,e2,e3,e4⟩,he⟩:∃ y:tChoice.den,gt tChoice (o2) i3=y:=⟨_,rfl⟩
    obtain ⟨⟨⟨q1,q2,q3,q4,q5,q6⟩,qe⟩,hq⟩:∃ y,g3 (z1,z2,z3,z4,z5,z6) (e1,e2,e3,e4)=y:=⟨_,rfl⟩
    have hlo:ic (ln tChoice (o2))=(o2).length:=by rw[r4,r12]
    obtain ⟨No,hNo⟩:∃ No:Int,No=(o2).length:=⟨_,rfl⟩
    have hNo64:No≤64:=by rw[hNo];omega
    rw[←hNo]at hlo hJ2
    have hst:i3<No→recvM (q1,q2,q3,q4,q5,q6) ((o2).drop (i3+1).toNat)=recvM (v1,v2,v3,v4,v5,v6) (o2):=fun h=>by
     have hh:=hrs (z1,z2,z3,z4,z5,z6) (o2) i3 hJ1 (by omega)
     have he2:gtR tChoice (o2) i3=(e1,e2,e3,e4):=by rw[←he,r14]
     rw[he2,hq]at hh
     rw[←hJ3];exact hh.symm
    have hfin:¬ i3<No→(z1,z2,z3,z4,z5,z6)=recvM (v1,v2,v3,v4,v5,v6) (o2):=fun h=>by rw[←hJ3];exact (hre _ _ _ (by omega)).symm
    have hadd3:i3<No→ar .add .i64 i3 1=i3+1:=fun h=>by rw[r1];exact wrap64 (n:=i3+1) (by omega) (by omega)
    cbv
    try simp only[nc_eq]at *
    rw[hlo,he]
    simp only[r21,r22]
    rw[hq]
    dsimp only
    refine BR.lss r0 (fun hk=>?_) fun hk=>?_
    ·have hi3:INB i3 No:=⟨hJ1,hk⟩
     rw[hadd3 hk]
     exact ⟨hi3,hi3,NEXT.mk (hY ((q1,q2,q3,q4,q5,q6),i3+1) _ _ ⟨by show 0≤i3+1;omega,by show i3+1≤_;omega,hst hk⟩ (by show (_ - (i3+1):Int).toNat<(_ - i3:Int).toNat;omega) (.inl ⟨rfl,rfl⟩))⟩
    have hX3:=hfin hk
    rw[hln1,hadd ht]
    have hap:∀ z:tMeet.den,ap tMeet out [z]=out ++ [z]:=fun z=>by rw[r16]
    rw[hap]
    refine ⟨⟨rfl⟩,hlim ht,NEXT.mk (hX (t+1,((k1,k2,k3,k4,k5,k6),(z1,z2,z3,z4,z5,z6)),(t,(sayP (u1,u2,u3,u4,u5,u6) (fatesM F) t (ua,za)).1,some (1,[p],W2),(sayP (u1,u2,u3,u4,u5,u6) (fatesM F) t (ua,za)).2.dropWhile (dueT t)),(t,(sayP (v1,v2,v3,v4,v5,v6) (fatesM G) t (ub,zb)).1,some (m3,A3,W1),(sayP (v1,v2,v3,v4,v5,v6) (fatesM G) t (ub,zb)).2.dropWhile (dueT t)),out ++ [((k1,k2,k3,k4,k5,k6),(z1,z2,z3,z4,z5,z6))]) _ _ ⟨by show 0≤t+1;omega,by show t+1≤N;omega,hA3,hB3,by rw[List.length_append,List.length_singleton];omega,hcyc ht _ _ (by rw[←ho1];exact hX2) (by rw[←ho2];exact hX3)⟩ (by show (N - (t+1)).toNat<(N - t).toNat;omega) (.inl ⟨rfl,rfl⟩))⟩
   ·have hB2:=hB.noSay (F:=G) hd2 hde
    refine hB2.hearS hI1 (by omega) fun zz o1 W1 ho1 hl1 hB3=>?_
    cbv
    try simp only[nc_eq]at *
    first | refine And.intro (by simp[nlLe_self,nlLe_none]) ?_ | skip
    refine LOOP.ind (σ:=SD×Int) (fun (_,i)=>[(2,.tl nw tW w),(12,.ptr 0 0),(15,.ptr 1 0),(17,.ptr 2 0),(18,.ptr 6 0),(19,.og 0 tMeet out),(20,.p (iv t)),(25,.tl none tChoice o1),(27,.p (iv i))])
     (fun (z,_)=>⟨hdB ka F kb G z (v1,v2,v3,v4,v5,v6) t (some (1,[p],[b])) t (some (mb,Ab,W1)),[(ml (ln tMeet out) 12,45)]⟩) (fun (_,i)=>((o1).length - i:Int).toNat) (fun (z,i)=>0≤i∧i≤(o1).length∧recvM z ((o1).drop i.toNat)=recvM (u1,u2,u3,u4,u5,u6) (o1)) ((u1,u2,u3,u4,u5,u6),0) ⟨by show (0:Int)≤0;omega,by show (0:Int)≤_;omega,rfl⟩ (.inr ⟨[some 0,some 1,some 2,some 3,some 9,some 10,some 4,some 5,some 6,some 7],[some 0],?_⟩) ?_
    ·rw[SIM_iff];cbv;simp[nlLe_self,nlLe_none,lstEq]
    intro ⟨⟨z1,z2,z3,z4,z5,z6⟩,i2⟩ hJ X2 hY
    obtain ⟨hJ1,hJ2,hJ3⟩:=hJ
    obtain ⟨⟨e1,e2,e3,e4⟩,he⟩:∃ y:tChoice.den,gt tChoice (o1) i2=y:=⟨_,rfl⟩
    obtain ⟨⟨⟨q1,q2,q3,q4,q5,q6⟩,qe⟩,hq⟩:∃ y,g3 (z1,z2,z3,z4,z5,z6) (e1,e2,e3,e4)=y:=⟨_,rfl⟩
    have hlo:ic (ln tChoice (o1))=(o1).length:=by rw[r4,r12]
    obtain ⟨No,hNo⟩:∃ No:Int,No=(o1).length:=⟨_,rfl⟩
    have hNo64:No≤64:=by rw[hNo];omega
    rw[←hNo]at hlo hJ2
    have hst:i2<No→recvM (q1,q2,q3,q4,q5,q6) ((o1).drop (i2+1).toNat)=recvM (u1,u2,u3,u4,u5,u6) (o1):=fun h=>by
     have hh:=hrs (z1,z2,z3,z4,z5,z6) (o1) i2 hJ1 (by omega)
     have he2:gtR tChoice (o1) i2=(e1,e2,e3,e4):=by rw[←he,r14]
     rw[he2,hq]at hh
     rw[←hJ3];exact hh.symm
    have hfin:¬ i2<No→(z1,z2,z3,z4,z5,z6)=recvM (u1,u2,u3,u4,u5,u6) (o1):=fun h=>by rw[←hJ3];exact (hre _ _ _ (by omega)).symm
    have hadd2:i2<No→ar .add .i64 i2 1=i2+1:=fun h=>by rw[r1];exact wrap64 (n:=i2+1) (by omega) (by omega)
    cbv
    try simp only[nc_eq]at *
    rw[hlo,he]
    simp only[r21,r22]
    rw[hq]
    dsimp only
    refine BR.lss r0 (fun hk=>?_) fun hk=>?_
    ·have hi2:INB i2 No:=⟨hJ1,hk⟩
     rw[hadd2 hk]
     exact ⟨hi2,hi2,NEXT.mk (hY ((q1,q2,q3,q4,q5,q6),i2+1) _ _ ⟨by show 0≤i2+1;omega,by show i2+1≤_;omega,hst hk⟩ (by show (_ - (i2+1):Int).toNat<(_ - i2:Int).toNat;omega) (.inl ⟨rfl,rfl⟩))⟩
    have hX2:=hfin hk
    clear hst hfin hJ1 hJ2 hJ3 hadd2 hY he hq hlo
    refine hA2.hearS hI1 (by omega) fun zz2 o2 W2 ho2 hl2 hA3=>?_
    cbv
    try simp only[nc_eq]at *
    first | refine And.intro (by simp[nlLe_self,nlLe_none]) ?_ | skip
    obtain ⟨z7,hz7⟩:∃ z:SD,z=(z1,z2,z3,z4,z5,z6):=⟨_,rfl⟩
    obtain ⟨k1,k2,k3,k4,k5,k6⟩:=z7
    obtain ⟨rfl,rfl,rfl,rfl,rfl,rfl⟩:k1=z1∧k2=z2∧k3=z3∧k4=z4∧k5=z5∧k6=z6:=by simpa using hz7
    clear hz7
    refine LOOP.ind (σ:=SD×Int) (fun (_,i)=>[(2,.tl nw tW w),(12,.ptr 0 0),(15,.ptr 1 0),(17,.ptr 2 0),(18,.ptr 6 0),(19,.og 0 tMeet out),(20,.p (iv t)),(28,.tl none tChoice o2),(30,.p (iv i))])
     (fun (z,_)=>⟨hdB ka F kb G (k1,k2,k3,k4,k5,k6) z t (some (1,[p],W2)) t (some (mb,Ab,W1)),[(ml (ln tMeet out) 12,45)]⟩) (fun (_,i)=>((o2).length - i:Int).toNat) (fun (z,i)=>0≤i∧i≤(o2).length∧recvM z ((o2).drop i.toNat)=recvM (v1,v2,v3,v4,v5,v6) (o2)) ((v1,v2,v3,v4,v5,v6),0) ⟨by show (0:Int)≤0;omega,by show (0:Int)≤_;omega,rfl⟩ (.inr ⟨[some 0,some 1,some 2,some 3,some 4,some 5,some 6,some 7,some 8,some 9],[some 0],?_⟩) ?_
    ·rw[SIM_iff];cbv;simp[nlLe_self,nlLe_none,lstEq]
    intro ⟨⟨z1,z2,z3,z4,z5,z6⟩,i3⟩ hJ X3 hY
    obtain ⟨hJ1,hJ2,hJ3⟩:=hJ
    obtain ⟨⟨e1,e2,e3,e4⟩,he⟩:∃ y:tChoice.den,gt tChoice (o2) i3=y:=⟨_,rfl⟩
    obtain ⟨⟨⟨q1,q2,q3,q4,q5,q6⟩,qe⟩,hq⟩:∃ y,g3 (z1,z2,z3,z4,z5,z6) (e1,e2,e3,e4)=y:=⟨_,rfl⟩
    have hlo:ic (ln tChoice (o2))=(o2).length:=by rw[r4,r12]
    obtain ⟨No,hNo⟩:∃ No:Int,No=(o2).length:=⟨_,rfl⟩
    have hNo64:No≤64:=by rw[hNo];omega
    rw[←hNo]at hlo hJ2
    have hst:i3<No→recvM (q1,q2,q3,q4,q5,q6) ((o2).drop (i3+1).toNat)=recvM (v1,v2,v3,v4,v5,v6) (o2):=fun h=>by
     have hh:=hrs (z1,z2,z3,z4,z5,z6) (o2) i3 hJ1 (by omega)
     have he2:gtR tChoice (o2) i3=(e1,e2,e3,e4):=by rw[←he,r14]
     rw[he2,hq]at hh
     rw[←hJ3];exact hh.symm
    have hfin:¬ i3<No→(z1,z2,z3,z4,z5,z6)=recvM (v1,v2,v3,v4,v5,v6) (o2):=fun h=>by rw[←hJ3];exact (hre _ _ _ (by omega)).symm
    have hadd3:i3<No→ar .add .i64 i3 1=i3+1:=fun h=>by rw[r1];exact wrap64 (n:=i3+1) (by omega) (by omega)
    cbv
    try simp only[nc_eq]at *
    rw[hlo,he]
    simp only[r21,r22]
    rw[hq]
    dsimp only
    refine BR.lss r0 (fun hk=>?_) fun hk=>?_
    ·have hi3:INB i3 No:=⟨hJ1,hk⟩
     rw[hadd3 hk]
     exact ⟨hi3,hi3,NEXT.mk (hY ((q1,q2,q3,q4,q5,q6),i3+1) _ _ ⟨by show 0≤i3+1;omega,by show i3+1≤_;omega,hst hk⟩ (by show (_ - (i3+1):Int).toNat<(_ - i3:Int).toNat;omega) (.inl ⟨rfl,rfl⟩))⟩
    have hX3:=hfin hk
    rw[hln1,hadd ht]
    have hap:∀ z:tMeet.den,ap tMeet out [z]=out ++ [z]:=fun z=>by rw[r16]
    rw[hap]
    refine ⟨⟨rfl⟩,hlim ht,NEXT.mk (hX (t+1,((k1,k2,k3,k4,k5,k6),(z1,z2,z3,z4,z5,z6)),(t,(sayP (u1,u2,u3,u4,u5,u6) (fatesM F) t (ua,za)).1,some (1,[p],W2),(sayP (u1,u2,u3,u4,u5,u6) (fatesM F) t (ua,za)).2.dropWhile (dueT t)),(t,(sayP (v1,v2,v3,v4,v5,v6) (fatesM G) t (ub,zb)).1,some (mb,Ab,W1),(sayP (v1,v2,v3,v4,v5,v6) (fatesM G) t (ub,zb)).2.dropWhile (dueT t)),out ++ [((k1,k2,k3,k4,k5,k6),(z1,z2,z3,z4,z5,z6))]) _ _ ⟨by show 0≤t+1;omega,by show t+1≤N;omega,hA3,hB3,by rw[List.length_append,List.length_singleton];omega,hcyc ht _ _ (by rw[←ho1];exact hX2) (by rw[←ho2];exact hX3)⟩ (by show (N - (t+1)).toNat<(N - t).toNat;omega) (.inl ⟨rfl,rfl⟩))⟩
  ·have hA2:=hA.noSay (F:=F) hc2 hce
   refine BR.eql r0 (fun hde=>?_) fun hde=>?_
   ·subst hde
    refine hB.sendS hGq hI1 (by omega) hkb hd2 fun m3 A3 Wy hB2=>?_
    cbv
    try simp only[nc_eq]at *
    first | refine And.intro (by simp[nlLe_self,nlLe_none]) ?_ | skip
    refine hB2.hearS hI1 (by omega) fun zz o1 W1 ho1 hl1 hB3=>?_
    cbv
    try simp only[nc_eq]at *
    first | refine And.intro (by simp[nlLe_self,nlLe_none]) ?_ | skip
    refine LOOP.ind (σ:=SD×Int) (fun (_,i)=>[(2,.tl nw tW w),(12,.ptr 0 0),(15,.ptr 1 0),(17,.ptr 2 0),(18,.ptr 4 0),(19,.og 0 tMeet out),(20,.p (iv t)),(25,.tl none tChoice o1),(27,.p (iv i))])
     (fun (z,_)=>⟨hdB ka F kb G z (v1,v2,v3,v4,v5,v6) na (none) t (some (m3,A3,W1)),[(ml (ln tMeet out) 12,45)]⟩) (fun (_,i)=>((o1).length - i:Int).toNat) (fun (z,i)=>0≤i∧i≤(o1).length∧recvM z ((o1).drop i.toNat)=recvM (u1,u2,u3,u4,u5,u6) (o1)) ((u1,u2,u3,u4,u5,u6),0) ⟨by show (0:Int)≤0;omega,by show (0:Int)≤_;omega,rfl⟩ (.inr ⟨[some 0,some 1,some 2,some 3,some 4,some 5,some 10,some 11],[some 0],?_⟩) ?_
    ·rw[SIM_iff];cbv;simp[nlLe_self,nlLe_none,lstEq]
    intro ⟨⟨z1,z2,z3,z4,z5,z6⟩,i2⟩ hJ X2 hY
    obtain ⟨hJ1,hJ2,hJ3⟩:=hJ
    obtain ⟨⟨e1,e2,e3,e4⟩,he⟩:∃ y:tChoice.den,gt tChoice (o1) i2=y:=⟨_,rfl⟩
    obtain ⟨⟨⟨q1,q2,q3,q4,q5,q6⟩,qe⟩,hq⟩:∃ y,g3 (z1,z2,z3,z4,z5,z6) (e1,e2,e3,e4)=y:=⟨_,rfl⟩
    have hlo:ic (ln tChoice (o1))=(o1).length:=by rw[r4,r12]
    obtain ⟨No,hNo⟩:∃ No:Int,No=(o1).length:=⟨_,rfl⟩
    have hNo64:No≤64:=by rw[hNo];omega
    rw[←hNo]at hlo hJ2
    have hst:i2<No→recvM (q1,q2,q3,q4,q5,q6) ((o1).drop (i2+1).toNat)=recvM (u1,u2,u3,u4,u5,u6) (o1):=fun h=>by
     have hh:=hrs (z1,z2,z3,z4,z5,z6) (o1) i2 hJ1 (by omega)
     have he2:gtR tChoice (o1) i2=(e1,e2,e3,e4):=by rw[←he,r14]
     rw[he2,hq]at hh
     rw[←hJ3];exact hh.symm
    have hfin:¬ i2<No→(z1,z2,z3,z4,z5,z6)=recvM (u1,u2,u3,u4,u5,u6) (o1):=fun h=>by rw[←hJ3];exact (hre _ _ _ (by omega)).symm
    have hadd2:i2<No→ar .add .i64 i2 1=i2+1:=fun h=>by rw[r1];exact wrap64 (n:=i2+1) (by omega) (by omega)
    cbv
    try simp only[nc_eq]at *
    rw[hlo,he]
    simp only[r21,r22]
    rw[hq]
    dsimp only
    refine BR.lss r0 (fun hk=>?_) fun hk=>?_
    ·have hi2:INB i2 No:=⟨hJ1,hk⟩
     rw[hadd2 hk]
     exact ⟨hi2,hi2,NEXT.mk (hY ((q1,q2,q3,q4,q5,q6),i2+1) _ _ ⟨by show 0≤i2+1;omega,by show i2+1≤_;omega,hst hk⟩ (by show (_ - (i2+1):Int).toNat<(_ - i2:Int).toNat;omega) (.inl ⟨rfl,rfl⟩))⟩
    have hX2:=hfin hk
    clear hst hfin hJ1 hJ2 hJ3 hadd2 hY he hq hlo
    refine hA2.hearN hI1 (by omega) fun ho2 hA3=>?_
    have hl2:([]:List tChoice.den).length≤64:=by simp
    first | refine And.intro (by simp[nlLe_self,nlLe_none]) ?_ | skip
    obtain ⟨z7,hz7⟩:∃ z:SD,z=(z1,z2,z3,z4,z5,z6):=⟨_,rfl⟩
    obtain ⟨k1,k2,k3,k4,k5,k6⟩:=z7
    obtain ⟨rfl,rfl,rfl,rfl,rfl,rfl⟩:k1=z1∧k2=z2∧k3=z3∧k4=z4∧k5=z5∧k6=z6:=by simpa using hz7
    clear hz7
    refine LOOP.ind (σ:=SD×Int) (fun (_,i)=>[(2,.tl nw tW w),(12,.ptr 0 0),(15,.ptr 1 0),(17,.ptr 2 0),(18,.ptr 4 0),(19,.og 0 tMeet out),(20,.p (iv t)),(28,.tl none tChoice ([]:List tChoice.den)),(30,.p (iv i))])
     (fun (z,_)=>⟨hdB ka F kb G (k1,k2,k3,k4,k5,k6) z t (none) t (some (m3,A3,W1)),[(ml (ln tMeet out) 12,45)]⟩) (fun (_,i)=>((([]:List tChoice.den)).length - i:Int).toNat) (fun (z,i)=>0≤i∧i≤(([]:List tChoice.den)).length∧recvM z ((([]:List tChoice.den)).drop i.toNat)=recvM (v1,v2,v3,v4,v5,v6) (([]:List tChoice.den))) ((v1,v2,v3,v4,v5,v6),0) ⟨by show (0:Int)≤0;omega,by show (0:Int)≤_;omega,rfl⟩ (.inr ⟨[some 0,some 1,some 2,some 3,some 4,some 5,some 6,some 7],[some 0],?_⟩) ?_
    ·rw[SIM_iff];cbv;simp[nlLe_self,nlLe_none,lstEq]
    intro ⟨⟨z1,z2,z3,z4,z5,z6⟩,i3⟩ hJ X3 hY
    obtain ⟨hJ1,hJ2,hJ3⟩:=hJ
    obtain ⟨⟨e1,e2,e3,e4⟩,he⟩:∃ y:tChoice.den,gt tChoice (([]:List tChoice.den)) i3=y:=⟨_,rfl⟩
    obtain ⟨⟨⟨q1,q2,q3,q4,q5,q6⟩,qe⟩,hq⟩:∃ y,g3 (z1,z2,z3,z4,z5,z6) (e1,e2,e3,e4)=y:=⟨_,rfl⟩
    have hlo:ic (ln tChoice (([]:List tChoice.den)))=(([]:List tChoice.den)).length:=by rw[r4,r12]
    obtain ⟨No,hNo⟩:∃ No:Int,No=(([]:List tChoice.den)).length:=⟨_,rfl⟩
    have hNo64:No≤64:=by rw[hNo];omega
    rw[←hNo]at hlo hJ2
    have hNz:No=0:=by rw[hNo];rfl
    have hst:i3<No→recvM (q1,q2,q3,q4,q5,q6) ((([]:List tChoice.den)).drop (i3+1).toNat)=recvM (v1,v2,v3,v4,v5,v6) (([]:List tChoice.den)):=fun h=>absurd h (by omega)
    have hfin:¬ i3<No→(z1,z2,z3,z4,z5,z6)=recvM (v1,v2,v3,v4,v5,v6) (([]:List tChoice.den)):=fun h=>by rw[←hJ3];exact (hre _ _ _ (by show ¬ i3<(0:Int);omega)).symm
    have hadd3:i3<No→ar .add .i64 i3 1=i3+1:=fun h=>by rw[r1];exact wrap64 (n:=i3+1) (by omega) (by omega)
    cbv
    try simp only[nc_eq]at *
    rw[hlo,he]
    simp only[r21,r22]
    rw[hq]
    dsimp only
    refine BR.lss r0 (fun hk=>?_) fun hk=>?_
    ·have hi3:INB i3 No:=⟨hJ1,hk⟩
     rw[hadd3 hk]
     exact ⟨hi3,hi3,NEXT.mk (hY ((q1,q2,q3,q4,q5,q6),i3+1) _ _ ⟨by show 0≤i3+1;omega,by show i3+1≤_;omega,hst hk⟩ (by show (_ - (i3+1):Int).toNat<(_ - i3:Int).toNat;omega) (.inl ⟨rfl,rfl⟩))⟩
    have hX3:=hfin hk
    rw[hln1,hadd ht]
    have hap:∀ z:tMeet.den,ap tMeet out [z]=out ++ [z]:=fun z=>by rw[r16]
    rw[hap]
    refine ⟨⟨rfl⟩,hlim ht,NEXT.mk (hX (t+1,((k1,k2,k3,k4,k5,k6),(z1,z2,z3,z4,z5,z6)),(t,(sayP (u1,u2,u3,u4,u5,u6) (fatesM F) t (ua,za)).1,none,(sayP (u1,u2,u3,u4,u5,u6) (fatesM F) t (ua,za)).2.dropWhile (dueT t)),(t,(sayP (v1,v2,v3,v4,v5,v6) (fatesM G) t (ub,zb)).1,some (m3,A3,W1),(sayP (v1,v2,v3,v4,v5,v6) (fatesM G) t (ub,zb)).2.dropWhile (dueT t)),out ++ [((k1,k2,k3,k4,k5,k6),(z1,z2,z3,z4,z5,z6))]) _ _ ⟨by show 0≤t+1;omega,by show t+1≤N;omega,hA3,hB3,by rw[List.length_append,List.length_singleton];omega,hcyc ht _ _ (by rw[←ho1];exact hX2) (by rw[←ho2];exact hX3)⟩ (by show (N - (t+1)).toNat<(N - t).toNat;omega) (.inl ⟨rfl,rfl⟩))⟩
   ·have hB2:=hB.noSay (F:=G) hd2 hde
    refine hB2.hearS hI1 (by omega) fun zz o1 W1 ho1 hl1 hB3=>?_
    cbv
    try simp only[nc_eq]at *
    first | refine And.intro (by simp[nlLe_self,nlLe_none]) ?_ | skip
    refine LOOP.ind (σ:=SD×Int) (fun (_,i)=>[(2,.tl nw tW w),(12,.ptr 0 0),(15,.ptr 1 0),(17,.ptr 2 0),(18,.ptr 4 0),(19,.og 0 tMeet out),(20,.p (iv t)),(25,.tl none tChoice o1),(27,.p (iv i))])
     (fun (z,_)=>⟨hdB ka F kb G z (v1,v2,v3,v4,v5,v6) na (none) t (some (mb,Ab,W1)),[(ml (ln tMeet out) 12,45)]⟩) (fun (_,i)=>((o1).length - i:Int).toNat) (fun (z,i)=>0≤i∧i≤(o1).length∧recvM z ((o1).drop i.toNat)=recvM (u1,u2,u3,u4,u5,u6) (o1)) ((u1,u2,u3,u4,u5,u6),0) ⟨by show (0:Int)≤0;omega,by show (0:Int)≤_;omega,rfl⟩ (.inr ⟨[some 0,some 1,some 2,some 3,some 4,some 5,some 6,some 7],[some 0],?_⟩) ?_
    ·rw[SIM_iff];cbv;simp[nlLe_self,nlLe_none,lstEq]
    intro ⟨⟨z1,z2,z3,z4,z5,z6⟩,i2⟩ hJ X2 hY
    obtain ⟨hJ1,hJ2,hJ3⟩:=hJ
    obtain ⟨⟨e1,e2,e3,e4⟩,he⟩:∃ y:tChoice.den,gt tChoice (o1) i2=y:=⟨_,rfl⟩
    obtain ⟨⟨⟨q1,q2,q3,q4,q5,q6⟩,qe⟩,hq⟩:∃ y,g3 (z1,z2,z3,z4,z5,z6) (e1,e2,e3,e4)=y:=⟨_,rfl⟩
    have hlo:ic (ln tChoice (o1))=(o1).length:=by rw[r4,r12]
    obtain ⟨No,hNo⟩:∃ No:Int,No=(o1).length:=⟨_,rfl⟩
    have hNo64:No≤64:=by rw[hNo];omega
    rw[←hNo]at hlo hJ2
    have hst:i2<No→recvM (q1,q2,q3,q4,q5,q6) ((o1).drop (i2+1).toNat)=recvM (u1,u2,u3,u4,u5,u6) (o1):=fun h=>by
     have hh:=hrs (z1,z2,z3,z4,z5,z6) (o1) i2 hJ1 (by omega)
     have he2:gtR tChoice (o1) i2=(e1,e2,e3,e4):=by rw[←he,r14]
     rw[he2,hq]at hh
     rw[←hJ3];exact hh.symm
    have hfin:¬ i2<No→(z1,z2,z3,z4,z5,z6)=recvM (u1,u2,u3,u4,u5,u6) (o1):=fun h=>by rw[←hJ3];exact (hre _ _ _ (by omega)).symm
    have hadd2:i2<No→ar .add .i64 i2 1=i2+1:=fun h=>by rw[r1];exact wrap64 (n:=i2+1) (by omega) (by omega)
    cbv
    try simp only[nc_eq]at *
    rw[hlo,he]
    simp only[r21,r22]
    rw[hq]
    dsimp only
    refine BR.lss r0 (fun hk=>?_) fun hk=>?_
    ·have hi2:INB i2 No:=⟨hJ1,hk⟩
     rw[hadd2 hk]
     exact ⟨hi2,hi2,NEXT.mk (hY ((q1,q2,q3,q4,q5,q6),i2+1) _ _ ⟨by show 0≤i2+1;omega,by show i2+1≤_;omega,hst hk⟩ (by show (_ - (i2+1):Int).toNat<(_ - i2:Int).toNat;omega) (.inl ⟨rfl,rfl⟩))⟩
    have hX2:=hfin hk
    clear hst hfin hJ1 hJ2 hJ3 hadd2 hY he hq hlo
    refine hA2.hearN hI1 (by omega) fun ho2 hA3=>?_
    have hl2:([]:List tChoice.den).length≤64:=by simp
    first | refine And.intro (by simp[nlLe_self,nlLe_none]) ?_ | skip
    obtain ⟨z7,hz7⟩:∃ z:SD,z=(z1,z2,z3,z4,z5,z6):=⟨_,rfl⟩
    obtain ⟨k1,k2,k3,k4,k5,k6⟩:=z7
    obtain ⟨rfl,rfl,rfl,rfl,rfl,rfl⟩:k1=z1∧k2=z2∧k3=z3∧k4=z4∧k5=z5∧k6=z6:=by simpa using hz7
    clear hz7
    refine LOOP.ind (σ:=SD×Int) (fun (_,i)=>[(2,.tl nw tW w),(12,.ptr 0 0),(15,.ptr 1 0),(17,.ptr 2 0),(18,.ptr 4 0),(19,.og 0 tMeet out),(20,.p (iv t)),(28,.tl none tChoice ([]:List tChoice.den)),(30,.p (iv i))])
     (fun (z,_)=>⟨hdB ka F kb G (k1,k2,k3,k4,k5,k6) z t (none) t (some (mb,Ab,W1)),[(ml (ln tMeet out) 12,45)]⟩) (fun (_,i)=>((([]:List tChoice.den)).length - i:Int).toNat) (fun (z,i)=>0≤i∧i≤(([]:List tChoice.den)).length∧recvM z ((([]:List tChoice.den)).drop i.toNat)=recvM (v1,v2,v3,v4,v5,v6) (([]:List tChoice.den))) ((v1,v2,v3,v4,v5,v6),0) ⟨by show (0:Int)≤0;omega,by show (0:Int)≤_;omega,rfl⟩ (.inr ⟨[some 0,some 1,some 2,some 3,some 4,some 5,some 6,some 7],[some 0],?_⟩) ?_
    ·rw[SIM_iff];cbv;simp[nlLe_self,nlLe_none,lstEq]
    intro ⟨⟨z1,z2,z3,z4,z5,z6⟩,i3⟩ hJ X3 hY
    obtain ⟨hJ1,hJ2,hJ3⟩:=hJ
    obtain ⟨⟨e1,e2,e3,e4⟩,he⟩:∃ y:tChoice.den,gt tChoice (([]:List tChoice.den)) i3=y:=⟨_,rfl⟩
    obtain ⟨⟨⟨q1,q2,q3,q4,q5,q6⟩,qe⟩,hq⟩:∃ y,g3 (z1,z2,z3,z4,z5,z6) (e1,e2,e3,e4)=y:=⟨_,rfl⟩
    have hlo:ic (ln tChoice (([]:List tChoice.den)))=(([]:List tChoice.den)).length:=by rw[r4,r12]
    obtain ⟨No,hNo⟩:∃ No:Int,No=(([]:List tChoice.den)).length:=⟨_,rfl⟩
    have hNo64:No≤64:=by rw[hNo];omega
    rw[←hNo]at hlo hJ2
    have hNz:No=0:=by rw[hNo];rfl
    have hst:i3<No→recvM (q1,q2,q3,q4,q5,q6) ((([]:List tChoice.den)).drop (i3+1).toNat)=recvM (v1,v2,v3,v4,v5,v6) (([]:List tChoice.den)):=fun h=>absurd h (by omega)
    have hfin:¬ i3<No→(z1,z2,z3,z4,z5,z6)=recvM (v1,v2,v3,v4,v5,v6) (([]:List tChoice.den)):=fun h=>by rw[←hJ3];exact (hre _ _ _ (by show ¬ i3<(0:Int);omega)).symm
    have hadd3:i3<No→ar .add .i64 i3 1=i3+1:=fun h=>by rw[r1];exact wrap64 (n:=i3+1) (by omega) (by omega)
    cbv
    try simp only[nc_eq]at *
    rw[hlo,he]
    simp only[r21,r22]
    rw[hq]
    dsimp only
    refine BR.lss r0 (fun hk=>?_) fun hk=>?_
    ·have hi3:INB i3 No:=⟨hJ1,hk⟩
     rw[hadd3 hk]
     exact ⟨hi3,hi3,NEXT.mk (hY ((q1,q2,q3,q4,q5,q6),i3+1) _ _ ⟨by show 0≤i3+1;omega,by show i3+1≤_;omega,hst hk⟩ (by show (_ - (i3+1):Int).toNat<(_ - i3:Int).toNat;omega) (.inl ⟨rfl,rfl⟩))⟩
    have hX3:=hfin hk
    rw[hln1,hadd ht]
    have hap:∀ z:tMeet.den,ap tMeet out [z]=out ++ [z]:=fun z=>by rw[r16]
    rw[hap]
    refine ⟨⟨rfl⟩,hlim ht,NEXT.mk (hX (t+1,((k1,k2,k3,k4,k5,k6),(z1,z2,z3,z4,z5,z6)),(t,(sayP (u1,u2,u3,u4,u5,u6) (fatesM F) t (ua,za)).1,none,(sayP (u1,u2,u3,u4,u5,u6) (fatesM F) t (ua,za)).2.dropWhile (dueT t)),(t,(sayP (v1,v2,v3,v4,v5,v6) (fatesM G) t (ub,zb)).1,some (mb,Ab,W1),(sayP (v1,v2,v3,v4,v5,v6) (fatesM G) t (ub,zb)).2.dropWhile (dueT t)),out ++ [((k1,k2,k3,k4,k5,k6),(z1,z2,z3,z4,z5,z6))]) _ _ ⟨by show 0≤t+1;omega,by show t+1≤N;omega,hA3,hB3,by rw[List.length_append,List.length_singleton];omega,hcyc ht _ _ (by rw[←ho1];exact hX2) (by rw[←ho2];exact hX3)⟩ (by show (N - (t+1)).toNat<(N - t).toNat;omega) (.inl ⟨rfl,rfl⟩))⟩
 ·cbv
  try simp only[nc_eq]at *
  rw[hlw,←hw1,←hw2,hu,hv]
  dsimp only
  rw[hc',hd']
  dsimp only
  refine BR.lss r0 (fun ht=>?_) fun ht=>⟨⟨nlLe_none.2 trivial,hend ht⟩,hEe.symm,trivial⟩
  have hi:INB t N:=⟨hI1,ht⟩
  refine ⟨hi,j0,hi,hi,j1,hi,BR.eql r0 (fun hce=>?_) fun hce=>?_⟩
  ·subst hce
   refine hA.sendS hFq hI1 (by omega) hka hc2 fun m2 A2 Wx hA2=>?_
   cbv
   try simp only[nc_eq]at *
   try dsimp only
   rw[hd']
   dsimp only
   first | refine And.intro (by simp[nlLe_self,nlLe_none]) ?_ | skip
   refine BR.eql r0 (fun hde=>?_) fun hde=>?_
   ·subst hde
    refine hB.sendN hGq hI1 (by omega) hkb hd2 fun p' b' hB2=>?_
    cbv
    try simp only[nc_eq]at *
    first | refine And.intro (by simp[nlLe_self,nlLe_none]) ?_ | skip
    refine hB2.hearS hI1 (by omega) fun zz o1 W1 ho1 hl1 hB3=>?_
    cbv
    try simp only[nc_eq]at *
    first | refine And.intro (by simp[nlLe_self,nlLe_none]) ?_ | skip
    refine LOOP.ind (σ:=SD×Int) (fun (_,i)=>[(2,.tl nw tW w),(12,.ptr 0 0),(15,.ptr 1 0),(17,.ptr 2 0),(18,.ptr 6 0),(19,.og 0 tMeet out),(20,.p (iv t)),(25,.tl none tChoice o1),(27,.p (iv i))])
     (fun (z,_)=>⟨hdB ka F kb G z (v1,v2,v3,v4,v5,v6) t (some (m2,A2,Wx)) t (some (1,[p'],W1)),[(ml (ln tMeet out) 12,45)]⟩) (fun (_,i)=>((o1).length - i:Int).toNat) (fun (z,i)=>0≤i∧i≤(o1).length∧recvM z ((o1).drop i.toNat)=recvM (u1,u2,u3,u4,u5,u6) (o1)) ((u1,u2,u3,u4,u5,u6),0) ⟨by show (0:Int)≤0;omega,by show (0:Int)≤_;omega,rfl⟩ (.inr ⟨[some 0,some 1,some 2,some 3,some 9,some 10,some 6,some 7,some 12,some 13],[some 0],?_⟩) ?_
    ·rw[SIM_iff];cbv;simp[nlLe_self,nlLe_none,lstEq]
    intro ⟨⟨z1,z2,z3,z4,z5,z6⟩,i2⟩ hJ X2 hY
    obtain ⟨hJ1,hJ2,hJ3⟩:=hJ
    obtain ⟨⟨e1,e2,e3,e4⟩,he⟩:∃ y:tChoice.den,gt tChoice (o1) i2=y:=⟨_,rfl⟩
    obtain ⟨⟨⟨q1,q2,q3,q4,q5,q6⟩,qe⟩,hq⟩:∃ y,g3 (z1,z2,z3,z4,z5,z6) (e1,e2,e3,e4)=y:=⟨_,rfl⟩
    have hlo:ic (ln tChoice (o1))=(o1).length:=by rw[r4,r12]
    obtain ⟨No,hNo⟩:∃ No:Int,No=(o1).length:=⟨_,rfl⟩
    have hNo64:No≤64:=by rw[hNo];omega
    rw[←hNo]at hlo hJ2
    have hst:i2<No→recvM (q1,q2,q3,q4,q5,q6) ((o1).drop (i2+1).toNat)=recvM (u1,u2,u3,u4,u5,u6) (o1):=fun h=>by
     have hh:=hrs (z1,z2,z3,z4,z5,z6) (o1) i2 hJ1 (by omega)
     have he2:gtR tChoice (o1) i2=(e1,e2,e3,e4):=by rw[←he,r14]
     rw[he2,hq]at hh
     rw[←hJ3];exact hh.symm
    have hfin:¬ i2<No→(z1,z2,z3,z4,z5,z6)=recvM (u1,u2,u3,u4,u5,u6) (o1):=fun h=>by rw[←hJ3];exact (hre _ _ _ (by omega)).symm
    have hadd2:i2<No→ar .add .i64 i2 1=i2+1:=fun h=>by rw[r1];exact wrap64 (n:=i2+1) (by omega) (by omega)
    cbv
    try simp only[nc_eq]at *
    rw[hlo,he]
    simp only[r21,r22]
    rw[hq]
    dsimp only
    refine BR.lss r0 (fun hk=>?_) fun hk=>?_
    ·have hi2:INB i2 No:=⟨hJ1,hk⟩
     rw[hadd2 hk]
     exact ⟨hi2,hi2,NEXT.mk (hY ((q1,q2,q3,q4,q5,q6),i2+1) _ _ ⟨by show 0≤i2+1;omega,by show i2+1≤_;omega,hst hk⟩ (by show (_ - (i2+1):Int).toNat<(_ - i2:Int).toNat;omega) (.inl ⟨rfl,rfl⟩))⟩
    have hX2:=hfin hk
    clear hst hfin hJ1 hJ2 hJ3 hadd2 hY he hq hlo
    refine hA2.hearS hI1 (by omega) fun zz2 o2 W2 ho2 hl2 hA3=>?_
    cbv
    try simp only[nc_eq]at *
    first | refine And.intro (by simp[nlLe_self,nlLe_none]) ?_ | skip
    obtain ⟨z7,hz7⟩:∃ z:SD,z=(z1,z2,z3,z4,z5,z6):=⟨_,rfl⟩
    obtain ⟨k1,k2,k3,k4,k5,k6⟩:=z7
    obtain ⟨rfl,rfl,rfl,rfl,rfl,rfl⟩:k1=z1∧k2=z2∧k3=z3∧k4=z4∧k5=z5∧k6=z6:=by simpa using hz7
    clear hz7
    refine LOOP.ind (σ:=SD×Int) (fun (_,i)=>[(2,.tl nw tW w),(12,.ptr 0 0),(15,.ptr 1 0),(17,.ptr 2 0),(18,.ptr 6 0),(19,.og 0 tMeet out),(20,.p (iv t)),(28,.tl none tChoice o2),(30,.p (iv i))])
     (fun (z,_)=>⟨hdB ka F kb G (k1,k2,k3,k4,k5,k6) z t (some (m2,A2,W2)) t (some (1,[p'],W1)),[(ml (ln tMeet out) 12,45)]⟩) (fun (_,i)=>((o2).length - i:Int).toNat) (fun (z,i)=>0≤i∧i≤(o2).length∧recvM z ((o2).drop i.toNat)=recvM (v1,v2,v3,v4,v5,v6) (o2)) ((v1,v2,v3,v4,v5,v6),0) ⟨by show (0:Int)≤0;omega,by show (0:Int)≤_;omega,rfl⟩ (.inr ⟨[some 0,some 1,some 2,some 3,some 4,some 5,some 6,some 7,some 8,some 9],[some 0],?_⟩) ?_
    ·rw[SIM_iff];cbv;simp[nlLe_self,nlLe_none,lstEq]
    intro ⟨⟨z1,z2,z3,z4,z5,z6⟩,i3⟩ hJ X3 hY
    obtain ⟨hJ1,hJ2,hJ3⟩:=hJ
    obtain ⟨⟨e1,e2,e3,e4⟩,he⟩:∃ y:tChoice.den,gt tChoice (o2) i3=y:=⟨_,rfl⟩
    obtain ⟨⟨⟨q1,q2,q3,q4,q5,q6⟩,qe⟩,hq⟩:∃ y,g3 (z1,z2,z3,z4,z5,z6) (e1,e2,e3,e4)=y:=⟨_,rfl⟩
    have hlo:ic (ln tChoice (o2))=(o2).length:=by rw[r4,r12]
    obtain ⟨No,hNo⟩:∃ No:Int,No=(o2).length:=⟨_,rfl⟩
    have hNo64:No≤64:=by rw[hNo];omega
    rw[←hNo]at hlo hJ2
    have hst:i3<No→recvM (q1,q2,q3,q4,q5,q6) ((o2).drop (i3+1).toNat)=recvM (v1,v2,v3,v4,v5,v6) (o2):=fun h=>by
     have hh:=hrs (z1,z2,z3,z4,z5,z6) (o2) i3 hJ1 (by omega)
     have he2:gtR tChoice (o2) i3=(e1,e2,e3,e4):=by rw[←he,r14]
     rw[he2,hq]at hh
     rw[←hJ3];exact hh.symm
    have hfin:¬ i3<No→(z1,z2,z3,z4,z5,z6)=recvM (v1,v2,v3,v4,v5,v6) (o2):=fun h=>by rw[←hJ3];exact (hre _ _ _ (by omega)).symm
    have hadd3:i3<No→ar .add .i64 i3 1=i3+1:=fun h=>by rw[r1];exact wrap64 (n:=i3+1) (by omega) (by omega)
    cbv
    try simp only[nc_eq]at *
    rw[hlo,he]
    simp only[r21,r22]
    rw[hq]
    dsimp only
    refine BR.lss r0 (fun hk=>?_) fun hk=>?_
    ·have hi3:INB i3 No:=⟨hJ1,hk⟩
     rw[hadd3 hk]
     exact ⟨hi3,hi3,NEXT.mk (hY ((q1,q2,q3,q4,q5,q6),i3+1) _ _ ⟨by show 0≤i3+1;omega,by show i3+1≤_;omega,hst hk⟩ (by show (_ - (i3+1):Int).toNat<(_ - i3:Int).toNat;omega) (.inl ⟨rfl,rfl⟩))⟩
    have hX3:=hfin hk
    rw[hln1,hadd ht]
    have hap:∀ z:tMeet.den,ap tMeet out [z]=out ++ [z]:=fun z=>by rw[r16]
    rw[hap]
    refine ⟨⟨rfl⟩,hlim ht,NEXT.mk (hX (t+1,((k1,k2,k3,k4,k5,k6),(z1,z2,z3,z4,z5,z6)),(t,(sayP (u1,u2,u3,u4,u5,u6) (fatesM F) t (ua,za)).1,some (m2,A2,W2),(sayP (u1,u2,u3,u4,u5,u6) (fatesM F) t (ua,za)).2.dropWhile (dueT t)),(t,(sayP (v1,v2,v3,v4,v5,v6) (fatesM G) t (ub,zb)).1,some (1,[p'],W1),(sayP (v1,v2,v3,v4,v5,v6) (fatesM G) t (ub,zb)).2.dropWhile (dueT t)),out ++ [((k1,k2,k3,k4,k5,k6),(z1,z2,z3,z4,z5,z6))]) _ _ ⟨by show 0≤t+1;omega,by show t+1≤N;omega,hA3,hB3,by rw[List.length_append,List.length_singleton];omega,hcyc ht _ _ (by rw[←ho1];exact hX2) (by rw[←ho2];exact hX3)⟩ (by show (N - (t+1)).toNat<(N - t).toNat;omega) (.inl ⟨rfl,rfl⟩))⟩
   ·have hB2:=hB.noSay (F:=G) hd2 hde
    refine hB2.hearN hI1 (by omega) fun ho1 hB3=>?_
    have hl1:([]:List tChoice.den).length≤64:=by simp
    first | refine And.intro (by simp[nlLe_self,nlLe_none]) ?_ | skip
    refine LOOP.ind (σ:=SD×Int) (fun (_,i)=>[(2,.tl nw tW w),(12,.ptr 0 0),(15,.ptr 1 0),(17,.ptr 2 0),(18,.ptr 6 0),(19,.og 0 tMeet out),(20,.p (iv t)),(25,.tl none tChoice ([]:List tChoice.den)),(27,.p (iv i))])
     (fun (z,_)=>⟨hdB ka F kb G z (v1,v2,v3,v4,v5,v6) t (some (m2,A2,Wx)) t (none),[(ml (ln tMeet out) 12,45)]⟩) (fun (_,i)=>((([]:List tChoice.den)).length - i:Int).toNat) (fun (z,i)=>0≤i∧i≤(([]:List tChoice.den)).length∧recvM z ((([]:List tChoice.den)).drop i.toNat)=recvM (u1,u2,u3,u4,u5,u6) (([]:List tChoice.den))) ((u1,u2,u3,u4,u5,u6),0) ⟨by show (0:Int)≤0;omega,by show (0:Int)≤_;omega,rfl⟩ (.inr ⟨[some 0,some 1,some 2,some 3,some 9,some 10,some 6,some 7],[some 0],?_⟩) ?_
    ·rw[SIM_iff];cbv;simp[nlLe_self,nlLe_none,lstEq]
    intro ⟨⟨z1,z2,z3,z4,z5,z6⟩,i2⟩ hJ X2 hY
    obtain ⟨hJ1,hJ2,hJ3⟩:=hJ
    obtain ⟨⟨e1,e2,e3,e4⟩,he⟩:∃ y:tChoice.den,gt tChoice (([]:List tChoice.den)) i2=y:=⟨_,rfl⟩
    obtain ⟨⟨⟨q1,q2,q3,q4,q5,q6⟩,qe⟩,hq⟩:∃ y,g3 (z1,z2,z3,z4,z5,z6) (e1,e2,e3,e4)=y:=⟨_,rfl⟩
    have hlo:ic (ln tChoice (([]:List tChoice.den)))=(([]:List tChoice.den)).length:=by rw[r4,r12]
    obtain ⟨No,hNo⟩:∃ No:Int,No=(([]:List tChoice.den)).length:=⟨_,rfl⟩
    have hNo64:No≤64:=by rw[hNo];omega
    rw[←hNo]at hlo hJ2
    have hNz:No=0:=by rw[hNo];rfl
    have hst:i2<No→recvM (q1,q2,q3,q4,q5,q6) ((([]:List tChoice.den)).drop (i2+1).toNat)=recvM (u1,u2,u3,u4,u5,u6) (([]:List tChoice.den)):=fun h=>absurd h (by omega)
    have hfin:¬ i2<No→(z1,z2,z3,z4,z5,z6)=recvM (u1,u2,u3,u4,u5,u6) (([]:List tChoice.den)):=fun h=>by rw[←hJ3];exact (hre _ _ _ (by show ¬ i2<(0:Int);omega)).symm
    have hadd2:i2<No→ar .add .i64 i2 1=i2+1:=fun h=>by rw[r1];exact wrap64 (n:=i2+1) (by omega) (by omega)
    cbv
    try simp only[nc_eq]at *
    rw[hlo,he]
    simp only[r21,r22]
    rw[hq]
    dsimp only
    refine BR.lss r0 (fun hk=>?_) fun hk=>?_
    ·have hi2:INB i2 No:=⟨hJ1,hk⟩
     rw[hadd2 hk]
     exact ⟨hi2,hi2,NEXT.mk (hY ((q1,q2,q3,q4,q5,q6),i2+1) _ _ ⟨by show 0≤i2+1;omega,by show i2+1≤_;omega,hst hk⟩ (by show (_ - (i2+1):Int).toNat<(_ - i2:Int).toNat;omega) (.inl ⟨rfl,rfl⟩))⟩
    have hX2:=hfin hk
    clear hst hfin hJ1 hJ2 hJ3 hadd2 hY he hq hlo
    refine hA2.hearS hI1 (by omega) fun zz2 o2 W2 ho2 hl2 hA3=>?_
    cbv
    try simp only[nc_eq]at *
    first | refine And.intro (by simp[nlLe_self,nlLe_none]) ?_ | skip
    obtain ⟨z7,hz7⟩:∃ z:SD,z=(z1,z2,z3,z4,z5,z6):=⟨_,rfl⟩
    obtain ⟨k1,k2,k3,k4,k5,k6⟩:=z7
    obtain ⟨rfl,rfl,rfl,rfl,rfl,rfl⟩:k1=z1∧k2=z2∧k3=z3∧k4=z4∧k5=z5∧k6=z6:=by simpa using hz7
    clear hz7
    refine LOOP.ind (σ:=SD×Int) (fun (_,i)=>[(2,.tl nw tW w),(12,.ptr 0 0),(15,.ptr 1 0),(17,.ptr 2 0),(18,.ptr 6 0),(19,.og 0 tMeet out),(20,.p (iv t)),(28,.tl none tChoice o2),(30,.p (iv i))])
     (fun (z,_)=>⟨hdB ka F kb G (k1,k2,k3,k4,k5,k6) z t (some (m2,A2,W2)) t (none),[(ml (ln tMeet out) 12,45)]⟩) (fun (_,i)=>((o2).length - i:Int).toNat) (fun (z,i)=>0≤i∧i≤(o2).length∧recvM z ((o2).drop i.toNat)=recvM (v1,v2,v3,v4,v5,v6) (o2)) ((v1,v2,v3,v4,v5,v6),0) ⟨by show (0:Int)≤0;omega,by show (0:Int)≤_;omega,rfl⟩ (.inr ⟨[some 0,some 1,some 2,some 3,some 4,some 5,some 6,some 7],[some 0],?_⟩) ?_
    ·rw[SIM_iff];cbv;simp[nlLe_self,nlLe_none,lstEq]
    intro ⟨⟨z1,z2,z3,z4,z5,z6⟩,i3⟩ hJ X3 hY
    obtain ⟨hJ1,hJ2,hJ3⟩:=hJ
    obtain ⟨⟨e1,e2,e3,e4⟩,he⟩:∃ y:tChoice.den,gt tChoice (o2) i3=y:=⟨_,rfl⟩
    obtain ⟨⟨⟨q1,q2,q3,q4,q5,q6⟩,qe⟩,hq⟩:∃ y,g3 (z1,z2,z3,z4,z5,z6) (e1,e2,e3,e4)=y:=⟨_,rfl⟩
    have hlo:ic (ln tChoice (o2))=(o2).length:=by rw[r4,r12]
    obtain ⟨No,hNo⟩:∃ No:Int,No=(o2).length:=⟨_,rfl⟩
    have hNo64:No≤64:=by rw[hNo];omega
    rw[←hNo]at hlo hJ2
    have hst:i3<No→recvM (q1,q2,q3,q4,q5,q6) ((o2).drop (i3+1).toNat)=recvM (v1,v2,v3,v4,v5,v6) (o2):=fun h=>by
     have hh:=hrs (z1,z2,z3,z4,z5,z6) (o2) i3 hJ1 (by omega)
     have he2:gtR tChoice (o2) i3=(e1,e2,e3,e4):=by rw[←he,r14]
     rw[he2,hq]at hh
     rw[←hJ3];exact hh.symm
    have hfin:¬ i3<No→(z1,z2,z3,z4,z5,z6)=recvM (v1,v2,v3,v4,v5,v6) (o2):=fun h=>by rw[←hJ3];exact (hre _ _ _ (by omega)).symm
    have hadd3:i3<No→ar .add .i64 i3 1=i3+1:=fun h=>by rw[r1];exact wrap64 (n:=i3+1) (by omega) (by omega)
    cbv
    try simp only[nc_eq]at *
    rw[hlo,he]
    simp only[r21,r22]
    rw[hq]
    dsimp only
    refine BR.lss r0 (fun hk=>?_) fun hk=>?_
    ·have hi3:INB i3 No:=⟨hJ1,hk⟩
     rw[hadd3 hk]
     exact ⟨hi3,hi3,NEXT.mk (hY ((q1,q2,q3,q4,q5,q6),i3+1) _ _ ⟨by show 0≤i3+1;omega,by show i3+1≤_;omega,hst hk⟩ (by show (_ - (i3+1):Int).toNat<(_ - i3:Int).toNat;omega) (.inl ⟨rfl,rfl⟩))⟩
    have hX3:=hfin hk
    rw[hln1,hadd ht]
    have hap:∀ z:tMeet.den,ap tMeet out [z]=out ++ [z]:=fun z=>by rw[r16]
    rw[hap]
    refine ⟨⟨rfl⟩,hlim ht,NEXT.mk (hX (t+1,((k1,k2,k3,k4,k5,k6),(z1,z2,z3,z4,z5,z6)),(t,(sayP (u1,u2,u3,u4,u5,u6) (fatesM F) t (ua,za)).1,some (m2,A2,W2),(sayP (u1,u2,u3,u4,u5,u6) (fatesM F) t (ua,za)).2.dropWhile (dueT t)),(t,(sayP (v1,v2,v3,v4,v5,v6) (fatesM G) t (ub,zb)).1,none,(sayP (v1,v2,v3,v4,v5,v6) (fatesM G) t (ub,zb)).2.dropWhile (dueT t)),out ++ [((k1,k2,k3,k4,k5,k6),(z1,z2,z3,z4,z5,z6))]) _ _ ⟨by show 0≤t+1;omega,by show t+1≤N;omega,hA3,hB3,by rw[List.length_append,List.length_singleton];omega,hcyc ht _ _ (by rw[←ho1];exact hX2) (by rw[←ho2];exact hX3)⟩ (by show (N - (t+1)).toNat<(N - t).toNat;omega) (.inl ⟨rfl,rfl⟩))⟩
  ·have hA2:=hA.noSay (F:=F) hc2 hce
   refine BR.eql r0 (fun hde=>?_) fun hde=>?_
   ·subst hde
    refine hB.sendN hGq hI1 (by omega) hkb hd2 fun p' b' hB2=>?_
    cbv
    try simp only[nc_eq]at *
    first | refine And.intro (by simp[nlLe_self,nlLe_none]) ?_ | skip
    refine hB2.hearS hI1 (by omega) fun zz o1 W1 ho1 hl1 hB3=>?_
    cbv
    try simp only[nc_eq]at *
    first | refine And.intro (by simp[nlLe_self,nlLe_none]) ?_ | skip
    refine LOOP.ind (σ:=SD×Int) (fun (_,i)=>[(2,.tl nw tW w),(12,.ptr 0 0),(15,.ptr 1 0),(17,.ptr 2 0),(18,.ptr 6 0),(19,.og 0 tMeet out),(20,.p (iv t)),(25,.tl none tChoice o1),(27,.p (iv i))])
     (fun (z,_)=>⟨hdB ka F kb G z (v1,v2,v3,v4,v5,v6) na (some (ma,Aa,Wa)) t (some (1,[p'],W1)),[(ml (ln tMeet out) 12,45)]⟩) (fun (_,i)=>((o1).length - i:Int).toNat) (fun (z,i)=>0≤i∧i≤(o1).length∧recvM z ((o1).drop i.toNat)=recvM (u1,u2,u3,u4,u5,u6) (o1)) ((u1,u2,u3,u4,u5,u6),0) ⟨by show (0:Int)≤0;omega,by show (0:Int)≤_;omega,rfl⟩ (.inr ⟨[some 0,some 1,some 2,some 3,some 4,some 5,some 6,some 7,some 10,some 11],[some 0],?_⟩) ?_
    ·rw[SIM_iff];cbv;simp[nlLe_self,nlLe_none,lstEq]
    intro ⟨⟨z1,z2,z3,z4,z5,z6⟩,i2⟩ hJ X2 hY
    obtain ⟨hJ1,hJ2,hJ3⟩:=hJ
    obtain ⟨⟨e1,e2,e3,e4⟩,he⟩:∃ y:tChoice.den,gt tChoice (o1) i2=y:=⟨_,rfl⟩
    obtain ⟨⟨⟨q1,q2,q3,q4,q5,q6⟩,qe⟩,hq⟩:∃ y,g3 (z1,z2,z3,z4,z5,z6) (e1,e2,e3,e4)=y:=⟨_,rfl⟩
    have hlo:ic (ln tChoice (o1))=(o1).length:=by rw[r4,r12]
    obtain ⟨No,hNo⟩:∃ No:Int,No=(o1).length:=⟨_,rfl⟩
    have hNo64:No≤64:=by rw[hNo];omega
    rw[←hNo]at hlo hJ2
    have hst:i2<No→recvM (q1,q2,q3,q4,q5,q6) ((o1).drop (i2+1).toNat)=recvM (u1,u2,u3,u4,u5,u6) (o1):=fun h=>by
     have hh:=hrs (z1,z2,z3,z4,z5,z6) (o1) i2 hJ1 (by omega)
     have he2:gtR tChoice (o1) i2=(e1,e2,e3,e4):=by rw[←he,r14]
     rw[he2,hq]at hh
     rw[←hJ3];exact hh.symm
    have hfin:¬ i2<No→(z1,z2,z3,z4,z5,z6)=recvM (u1,u2,u3,u4,u5,u6) (o1):=fun h=>by rw[←hJ3];exact (hre _ _ _ (by omega)).symm
    have hadd2:i2<No→ar .add .i64 i2 1=i2+1:=fun h=>by rw[r1];exact wrap64 (n:=i2+1) (by omega) (by omega)
    cbv
    try simp only[nc_eq]at *
    rw[hlo,he]
    simp only[r21,r22]
    rw[hq]
    dsimp only
    refine BR.lss r0 (fun hk=>?_) fun hk=>?_
    ·have hi2:INB i2 No:=⟨hJ1,hk⟩
     rw[hadd2 hk]
     exact ⟨hi2,hi2,NEXT.mk (hY ((q1,q2,q3,q4,q5,q6),i2+1) _ _ ⟨by show 0≤i2+1;omega,by show i2+1≤_;omega,hst hk⟩ (by show (_ - (i2+1):Int).toNat<(_ - i2:Int).toNat;omega) (.inl ⟨rfl,rfl⟩))⟩
    have hX2:=hfin hk
    clear hst hfin hJ1 hJ2 hJ3 hadd2 hY he hq hlo
    refine hA2.hearS hI1 (by omega) fun zz2 o2 W2 ho2 hl2 hA3=>?_
    cbv
    try simp only[nc_eq]at *
    first | refine And.intro (by simp[nlLe_self,nlLe_none]) ?_ | skip
    obtain ⟨z7,hz7⟩:∃ z:SD,z=(z1,z2,z3,z4,z5,z6):=⟨_,rfl⟩
    obtain ⟨k1,k2,k3,k4,k5,k6⟩:=z7
    obtain ⟨rfl,rfl,rfl,rfl,rfl,rfl⟩:k1=z1∧k2=z2∧k3=z3∧k4=z4∧k5=z5∧k6=z6:=by simpa using hz7
    clear hz7
    refine LOOP.ind (σ:=SD×Int) (fun (_,i)=>[(2,.tl nw tW w),(12,.ptr 0 0),(15,.ptr 1 0),(17,.ptr 2 0),(18,.ptr 6 0),(19,.og 0 tMeet out),(20,.p (iv t)),(28,.tl none tChoice o2),(30,.p (iv i))])
     (fun (z,_)=>⟨hdB ka F kb G (k1,k2,k3,k4,k5,k6) z t (some (ma,Aa,W2)) t (some (1,[p'],W1)),[(ml (ln tMeet out) 12,45)]⟩) (fun (_,i)=>((o2).length - i:Int).toNat) (fun (z,i)=>0≤i∧i≤(o2).length∧recvM z ((o2).drop i.toNat)=recvM (v1,v2,v3,v4,v5,v6) (o2)) ((v1,v2,v3,v4,v5,v6),0) ⟨by show (0:Int)≤0;omega,by show (0:Int)≤_;omega,rfl⟩ (.inr ⟨[some 0,some 1,some 2,some 3,some 4,some 5,some 6,some 7,some 8,some 9],[some 0],?_⟩) ?_
    ·rw[SIM_iff];cbv;simp[nlLe_self,nlLe_none,lstEq]
    intro ⟨⟨z1,z2,z3,z4,z5,z6⟩,i3⟩ hJ X3 hY
    obtain ⟨hJ1,hJ2,hJ3⟩:=hJ
    obtain ⟨⟨e1,e2,e3,e4⟩,he⟩:∃ y:tChoice.den,gt tChoice (o2) i3=y:=⟨_,rfl⟩
    obtain ⟨⟨⟨q1,q2,q3,q4,q5,q6⟩,qe⟩,hq⟩:∃ y,g3 (z1,z2,z3,z4,z5,z6) (e1,e2,e3,e4)=y:=⟨_,rfl⟩
    have hlo:ic (ln tChoice (o2))=(o2).length:=by rw[r4,r12]
    obtain ⟨No,hNo⟩:∃ No:Int,No=(o2).length:=⟨_,rfl⟩
    have hNo64:No≤64:=by rw[hNo];omega
    rw[←hNo]at hlo hJ2
    have hst:i3<No→recvM (q1,q2,q3,q4,q5,q6) ((o2).drop (i3+1).toNat)=recvM (v1,v2,v3,v4,v5,v6) (o2):=fun h=>by
     have hh:=hrs (z1,z2,z3,z4,z5,z6) (o2) i3 hJ1 (by omega)
     have he2:gtR tChoice (o2) i3=(e1,e2,e3,e4):=by rw[←he,r14]
     rw[he2,hq]at hh
     rw[←hJ3];exact hh.symm
    have hfin:¬ i3<No→(z1,z2,z3,z4,z5,z6)=recvM (v1,v2,v3,v4,v5,v6) (o2):=fun h=>by rw[←hJ3];exact (hre _ _ _ (by omega)).symm
    have hadd3:i3<No→ar .add .i64 i3 1=i3+1:=fun h=>by rw[r1];exact wrap64 (n:=i3+1) (by omega) (by omega)
    cbv
    try simp only[nc_eq]at *
    rw[hlo,he]
    simp only[r21,r22]
    rw[hq]
    dsimp only
    refine BR.lss r0 (fun hk=>?_) fun hk=>?_
    ·have hi3:INB i3 No:=⟨hJ1,hk⟩
     rw[hadd3 hk]
     exact ⟨hi3,hi3,NEXT.mk (hY ((q1,q2,q3,q4,q5,q6),i3+1) _ _ ⟨by show 0≤i3+1;omega,by show i3+1≤_;omega,hst hk⟩ (by show (_ - (i3+1):Int).toNat<(_ - i3:Int).toNat;omega) (.inl ⟨rfl,rfl⟩))⟩
    have hX3:=hfin hk
    rw[hln1,hadd ht]
    have hap:∀ z:tMeet.den,ap tMeet out [z]=out ++ [z]:=fun z=>by rw[r16]
    rw[hap]
    refine ⟨⟨rfl⟩,hlim ht,NEXT.mk (hX (t+1,((k1,k2,k3,k4,k5,k6),(z1,z2,z3,z4,z5,z6)),(t,(sayP (u1,u2,u3,u4,u5,u6) (fatesM F) t (ua,za)).1,some (ma,Aa,W2),(sayP (u1,u2,u3,u4,u5,u6) (fatesM F) t (ua,za)).2.dropWhile (dueT t)),(t,(sayP (v1,v2,v3,v4,v5,v6) (fatesM G) t (ub,zb)).1,some (1,[p'],W1),(sayP (v1,v2,v3,v4,v5,v6) (fatesM G) t (ub,zb)).2.dropWhile (dueT t)),out ++ [((k1,k2,k3,k4,k5,k6),(z1,z2,z3,z4,z5,z6))]) _ _ ⟨by show 0≤t+1;omega,by show t+1≤N;omega,hA3,hB3,by rw[List.length_append,List.length_singleton];omega,hcyc ht _ _ (by rw[←ho1];exact hX2) (by rw[←ho2];exact hX3)⟩ (by show (N - (t+1)).toNat<(N - t).toNat;omega) (.inl ⟨rfl,rfl⟩))⟩
   ·have hB2:=hB.noSay (F:=G) hd2 hde
    refine hB2.hearN hI1 (by omega) fun ho1 hB3=>?_
    have hl1:([]:List tChoice.den).length≤64:=by simp
    first | refine And.intro (by simp[nlLe_self,nlLe_none]) ?_ | skip
    refine LOOP.ind (σ:=SD×Int) (fun (_,i)=>[(2,.tl nw tW w),(12,.ptr 0 0),(15,.ptr 1 0),(17,.ptr 2 0),(18,.ptr 6 0),(19,.og 0 tMeet out),(20,.p (iv t)),(25,.tl none tChoice ([]:List tChoice.den)),(27,.p (iv i))])
     (fun (z,_)=>⟨hdB ka F kb G z (v1,v2,v3,v4,v5,v6) na (some (ma,Aa,Wa)) t (none),[(ml (ln tMeet out) 12,45)]⟩) (fun (_,i)=>((([]:List tChoice.den)).length - i:Int).toNat) (fun (z,i)=>0≤i∧i≤(([]:List tChoice.den)).length∧recvM z ((([]:List tChoice.den)).drop i.toNat)=recvM (u1,u2,u3,u4,u5,u6) (([]:List tChoice.den))) ((u1,u2,u3,u4,u5,u6),0) ⟨by show (0:Int)≤0;omega,by show (0:Int)≤_;omega,rfl⟩ (.inr ⟨[some 0,some 1,some 2,some 3,some 4,some 5,some 6,some 7],[some 0],?_⟩) ?_
    ·rw[SIM_iff];cbv;simp[nlLe_self,nlLe_none,lstEq]
    intro ⟨⟨z1,z2,z3,z4,z5,z6⟩,i2⟩ hJ X2 hY
    obtain ⟨hJ1,hJ2,hJ3⟩:=hJ
    obtain ⟨⟨e1,e2,e3,e4⟩,he⟩:∃ y:tChoice.den,gt tChoice (([]:List tChoice.den)) i2=y:=⟨_,rfl⟩
    obtain ⟨⟨⟨q1,q2,q3,q4,q5,q6⟩,qe⟩,hq⟩:∃ y,g3 (z1,z2,z3,z4,z5,z6) (e1,e2,e3,e4)=y:=⟨_,rfl⟩
    have hlo:ic (ln tChoice (([]:List tChoice.den)))=(([]:List tChoice.den)).length:=by rw[r4,r12]
    obtain ⟨No,hNo⟩:∃ No:Int,No=(([]:List tChoice.den)).length:=⟨_,rfl⟩
    have hNo64:No≤64:=by rw[hNo];omega
    rw[←hNo]at hlo hJ2
    have hNz:No=0:=by rw[hNo];rfl
    have hst:i2<No→recvM (q1,q2,q3,q4,q5,q6) ((([]:List tChoice.den)).drop (i2+1).toNat)=recvM (u1,u2,u3,u4,u5,u6) (([]:List tChoice.den)):=fun h=>absurd h (by omega)
    have hfin:¬ i2<No→(z1,z2,z3,z4,z5,z6)=recvM (u1,u2,u3,u4,u5,u6) (([]:List tChoice.den)):=fun h=>by rw[←hJ3];exact (hre _ _ _ (by show ¬ i2<(0:Int);omega)).symm
    have hadd2:i2<No→ar .add .i64 i2 1=i2+1:=fun h=>by rw[r1];exact wrap64 (n:=i2+1) (by omega) (by omega)
    cbv
    try simp only[nc_eq]at *
    rw[hlo,he]
    simp only[r21,r22]
    rw[hq]
    dsimp only
    refine BR.lss r0 (fun hk=>?_) fun hk=>?_
    ·have hi2:INB i2 No:=⟨hJ1,hk⟩
     rw[hadd2 hk]
     exact ⟨hi2,hi2,NEXT.mk (hY ((q1,q2,q3,q4,q5,q6),i2+1) _ _ ⟨by show 0≤i2+1;omega,by show i2+1≤_;omega,hst hk⟩ (by show (_ - (i2+1):Int).toNat<(_ - i2:Int).toNat;omega) (.inl ⟨rfl,rfl⟩))⟩
    have hX2:=hfin hk
    clear hst hfin hJ1 hJ2 hJ3 hadd2 hY he hq hlo
    refine hA2.hearS hI1 (by omega) fun zz2 o2 W2 ho2 hl2 hA3=>?_
    cbv
    try simp only[nc_eq]at *
    first | refine And.intro (by simp[nlLe_self,nlLe_none]) ?_ | skip
    obtain ⟨z7,hz7⟩:∃ z:SD,z=(z1,z2,z3,z4,z5,z6):=⟨_,rfl⟩
    obtain ⟨k1,k2,k3,k4,k5,k6⟩:=z7
    obtain ⟨rfl,rfl,rfl,rfl,rfl,rfl⟩:k1=z1∧k2=z2∧k3=z3∧k4=z4∧k5=z5∧k6=z6:=by simpa using hz7
    clear hz7
    refine LOOP.ind (σ:=SD×Int) (fun (_,i)=>[(2,.tl nw tW w),(12,.ptr 0 0),(15,.ptr 1 0),(17,.ptr 2 0),(18,.ptr 6 0),(19,.og 0 tMeet out),(20,.p (iv t)),(28,.tl none tChoice o2),(30,.p (iv i))])
     (fun (z,_)=>⟨hdB ka F kb G (k1,k2,k3,k4,k5,k6) z t (some (ma,Aa,W2)) t (none),[(ml (ln tMeet out) 12,45)]⟩) (fun (_,i)=>((o2).length - i:Int).toNat) (fun (z,i)=>0≤i∧i≤(o2).length∧recvM z ((o2).drop i.toNat)=recvM (v1,v2,v3,v4,v5,v6) (o2)) ((v1,v2,v3,v4,v5,v6),0) ⟨by show (0:Int)≤0;omega,by show (0:Int)≤_;omega,rfl⟩ (.inr ⟨[some 0,some 1,some 2,some 3,some 4,some 5,some 6,some 7],[some 0],?_⟩) ?_
    ·rw[SIM_iff];cbv;simp[nlLe_self,nlLe_none,lstEq]
    intro ⟨⟨z1,z2,z3,z4,z5,z6⟩,i3⟩ hJ X3 hY
    obtain ⟨hJ1,hJ2,hJ3⟩:=hJ
    obtain ⟨⟨e1,e2,e3,e4⟩,he⟩:∃ y:tChoice.den,gt tChoice (o2) i3=y:=⟨_,rfl⟩
    obtain ⟨⟨⟨q1,q2,q3,q4,q5,q6⟩,qe⟩,hq⟩:∃ y,g3 (z1,z2,z3,z4,z5,z6) (e1,e2,e3,e4)=y:=⟨_,rfl⟩
    have hlo:ic (ln tChoice (o2))=(o2).length:=by rw[r4,r12]
    obtain ⟨No,hNo⟩:∃ No:Int,No=(o2).length:=⟨_,rfl⟩
    have hNo64:No≤64:=by rw[hNo];omega
    rw[←hNo]at hlo hJ2
    have hst:i3<No→recvM (q1,q2,q3,q4,q5,q6) ((o2).drop (i3+1).toNat)=recvM (v1,v2,v3,v4,v5,v6) (o2):=fun h=>by
     have hh:=hrs (z1,z2,z3,z4,z5,z6) (o2) i3 hJ1 (by omega)
     have he2:gtR tChoice (o2) i3=(e1,e2,e3,e4):=by rw[←he,r14]
     rw[he2,hq]at hh
     rw[←hJ3];exact hh.symm
    have hfin:¬ i3<No→(z1,z2,z3,z4,z5,z6)=recvM (v1,v2,v3,v4,v5,v6) (o2):=fun h=>by rw[←hJ3];exact (hre _ _ _ (by omega)).symm
    have hadd3:i3<No→ar .add .i64 i3 1=i3+1:=fun h=>by rw[r1];exact wrap64 (n:=i3+1) (by omega) (by omega)
    cbv
    try simp only[nc_eq]at *
    rw[hlo,he]
    simp only[r21,r22]
    rw[hq]
    dsimp only
    refine BR.lss r0 (fun hk=>?_) fun hk=>?_
    ·have hi3:INB i3 No:=⟨hJ1,hk⟩
     rw[hadd3 hk]
     exact ⟨hi3,hi3,NEXT.mk (hY ((q1,q2,q3,q4,q5,q6),i3+1) _ _ ⟨by show 0≤i3+1;omega,by show i3+1≤_;omega,hst hk⟩ (by show (_ - (i3+1):Int).toNat<(_ - i3:Int).toNat;omega) (.inl ⟨rfl,rfl⟩))⟩
    have hX3:=hfin hk
    rw[hln1,hadd ht]
    have hap:∀ z:tMeet.den,ap tMeet out [z]=out ++ [z]:=fun z=>by rw[r16]
    rw[hap]
    refine ⟨⟨rfl⟩,hlim ht,NEXT.mk (hX (t+1,((k1,k2,k3,k4,k5,k6),(z1,z2,z3,z4,z5,z6)),(t,(sayP (u1,u2,u3,u4,u5,u6) (fatesM F) t (ua,za)).1,some (ma,Aa,W2),(sayP (u1,u2,u3,u4,u5,u6) (fatesM F) t (ua,za)).2.dropWhile (dueT t)),(t,(sayP (v1,v2,v3,v4,v5,v6) (fatesM G) t (ub,zb)).1,none,(sayP (v1,v2,v3,v4,v5,v6) (fatesM G) t (ub,zb)).2.dropWhile (dueT t)),out ++ [((k1,k2,k3,k4,k5,k6),(z1,z2,z3,z4,z5,z6))]) _ _ ⟨by show 0≤t+1;omega,by show t+1≤N;omega,hA3,hB3,by rw[List.length_append,List.length_singleton];omega,hcyc ht _ _ (by rw[←ho1];exact hX2) (by rw[←ho2];exact hX3)⟩ (by show (N - (t+1)).toNat<(N - t).toNat;omega) (.inl ⟨rfl,rfl⟩))⟩
 ·cbv
  try simp only[nc_eq]at *
  rw[hlw,←hw1,←hw2,hu,hv]
  dsimp only
  rw[hc',hd']
  dsimp only
  refine BR.lss r0 (fun ht=>?_) fun ht=>⟨⟨nlLe_none.2 trivial,hend ht⟩,hEe.symm,trivial⟩
  have hi:INB t N:=⟨hI1,ht⟩
  refine ⟨hi,j0,hi,hi,j1,hi,BR.eql r0 (fun hce=>?_) fun hce=>?_⟩
  ·subst hce
   refine hA.sendS hFq hI1 (by omega) hka hc2 fun m2 A2 Wx hA2=>?_
   cbv
   try simp only[nc_eq]at *
   try dsimp only
   rw[hd']
   dsimp only
   first | refine And.intro (by simp[nlLe_self,nlLe_none]) ?_ | skip
   refine BR.eql r0 (fun hde=>?_) fun hde=>?_
   ·subst hde
    refine hB.sendS hGq hI1 (by omega) hkb hd2 fun m3 A3 Wy hB2=>?_
    cbv
    try simp only[nc_eq]at *
    first | refine And.intro (by simp[nlLe_self,nlLe_none]) ?_ | skip
    refine hB2.hearS hI1 (by omega) fun zz o1 W1 ho1 hl1 hB3=>?_
    cbv
    try simp only[nc_eq]at *
    first | refine And.intro (by simp[nlLe_self,nlLe_none]) ?_ | skip
    refine LOOP.ind (σ:=SD×Int) (fun (_,i)=>[(2,.tl nw tW w),(12,.ptr 0 0),(15,.ptr 1 0),(17,.ptr 2 0),(18,.ptr 6 0),(19,.og 0 tMeet out),(20,.p (iv t)),(25,.tl none tChoice o1),(27,.p (iv i))])
     (fun (z,_)=>⟨hdB ka F kb G z (v1,v2,v3,v4,v5,v6) t (some (m2,A2,Wx)) t (some (m3,A3,W1)),[(ml (ln tMeet out) 12,45)]⟩) (fun (_,i)=>((o1).length - i:Int).toNat) (fun (z,i)=>0≤i∧i≤(o1).length∧recvM z ((o1).drop i.toNat)=recvM (u1,u2,u3,u4,u5,u6) (o1)) ((u1,u2,u3,u4,u5,u6),0) ⟨by show (0:Int)≤0;omega,by show (0:Int)≤_;omega,rfl⟩ (.inr ⟨[some 0,some 1,some 2,some 3,some 11,some 12,some 6,some 7,some 14,some 15],[some 0],?_⟩) ?_
    ·rw[SIM_iff];cbv;simp[nlLe_self,nlLe_none,lstEq]
    intro ⟨⟨z1,z2,z3,z4,z5,z6⟩,i2⟩ hJ X2 hY
    obtain ⟨hJ1,hJ2,hJ3⟩:=hJ
    obtain ⟨⟨e1,e2,e3,e4⟩,he⟩:∃ y:tChoice.den,gt tChoice (o1) i2=y:=⟨_,rfl⟩
    obtain ⟨⟨⟨q1,q2,q3,q4,q5,q6⟩,qe⟩,hq⟩:∃ y,g3 (z1,z2,z3,z4,z5,z6) (e1,e2,e3,e4)=y:=⟨_,rfl⟩
    have hlo:ic (ln tChoice (o1))=(o1).length:=by rw[r4,r12]
    obtain ⟨No,hNo⟩:∃ No:Int,No=(o1).length:=⟨_,rfl⟩
    have hNo64:No≤64:=by rw[hNo];omega
    rw[←hNo]at hlo hJ2
    have hst:i2<No→recvM (q1,q2,q3,q4,q5,q6) ((o1).drop (i2+1).toNat)=recvM (u1,u2,u3,u4,u5,u6) (o1):=fun h=>by
     have hh:=hrs (z1,z2,z3,z4,z5,z6) (o1) i2 hJ1 (by omega)
     have he2:gtR tChoice (o1) i2=(e1,e2,e3,e4):=by rw[←he,r14]
     rw[he2,hq]at hh
     rw[←hJ3];exact hh.symm
    have hfin:¬ i2<No→(z1,z2,z3,z4,z5,z6)=recvM (u1,u2,u3,u4,u5,u6) (o1):=fun h=>by rw[←hJ3];exact (hre _ _ _ (by omega)).symm
    have hadd2:i2<No→ar .add .i64 i2 1=i2+1:=fun h=>by rw[r1];exact wrap64 (n:=i2+1) (by omega) (by omega)
    cbv
    try simp only[nc_eq]at *
    rw[hlo,he]
    simp only[r21,r22]
    rw[hq]
    dsimp only
    refine BR.lss r0 (fun hk=>?_) fun hk=>?_
    ·have hi2:INB i2 No:=⟨hJ1,hk⟩
     rw[hadd2 hk]
     exact ⟨hi2,hi2,NEXT.mk (hY ((q1,q2,q3,q4,q5,q6),i2+1) _ _ ⟨by show 0≤i2+1;omega,by show i2+1≤_;omega,hst hk⟩ (by show (_ - (i2+1):Int).toNat<(_ - i2:Int).toNat;omega) (.inl ⟨rfl,rfl⟩))⟩
    have hX2:=hfin hk
    clear hst hfin hJ1 hJ2 hJ3 hadd2 hY he hq hlo
    refine hA2.hearS hI1 (by omega) fun zz2 o2 W2 ho2 hl2 hA3=>?_
    cbv
    try simp only[nc_eq]at *
    first | refine And.intro (by simp[nlLe_self,nlLe_none]) ?_ | skip
    obtain ⟨z7,hz7⟩:∃ z:SD,z=(z1,z2,z3,z4,z5,z6):=⟨_,rfl⟩
    obtain ⟨k1,k2,k3,k4,k5,k6⟩:=z7
    obtain ⟨rfl,rfl,rfl,rfl,rfl,rfl⟩:k1=z1∧k2=z2∧k3=z3∧k4=z4∧k5=z5∧k6=z6:=by simpa using hz7
    clear hz7
    refine LOOP.ind (σ:=SD×Int) (fun (_,i)=>[(2,.tl nw tW w),(12,.ptr 0 0),(15,.ptr 1 0),(17,.ptr 2 0),(18,.ptr 6 0),(19,.og 0 tMeet out),(20,.p (iv t)),(28,.tl none tChoice o2),(30,.p (iv i))])
     (fun (z,_)=>⟨hdB ka F kb G (k1,k2,k3,k4,k5,k6) z t (some (m2,A2,W2)) t (some (m3,A3,W1)),[(ml (ln tMeet out) 12,45)]⟩) (fun (_,i)=>((o2).length - i:Int).toNat) (fun (z,i)=>0≤i∧i≤(o2).length∧recvM z ((o2).drop i.toNat)=recvM (v1,v2,v3,v4,v5,v6) (o2)) ((v1,v2,v3,v4,v5,v6),0) ⟨by show (0:Int)≤0;omega,by show (0:Int)≤_;omega,rfl⟩ (.inr ⟨[some 0,some 1,some 2,some 3,some 4,some 5,some 6,some 7,some 8,some 9],[some 0],?_⟩) ?_
    ·rw[SIM_iff];cbv;simp[nlLe_self,nlLe_none,lstEq]
    intro ⟨⟨z1,z2,z3,z4,z5,z6⟩,i3⟩ hJ X3 hY
    obtain ⟨hJ1,hJ2,hJ3⟩:=hJ
    obtain ⟨⟨e1,e2,e3,e4⟩,he⟩:∃ y:tChoice.den,gt tChoice (o2) i3=y:=⟨_,rfl⟩
    obtain ⟨⟨⟨q1,q2,q3,q4,q5,q6⟩,qe⟩,hq⟩:∃ y,g3 (z1,z2,z3,z4,z5,z6) (e1,e2,e3,e4)=y:=⟨_,rfl⟩
    have hlo:ic (ln tChoice (o2))=(o2).length:=by rw[r4,r12]
    obtain ⟨No,hNo⟩:∃ No:Int,No=(o2).length:=⟨_,rfl⟩
    have hNo64:No≤64:=by rw[hNo];omega
    rw[←hNo]at hlo hJ2
    have hst:i3<No→recvM (q1,q2,q3,q4,q5,q6) ((o2).drop (i3+1).toNat)=recvM (v1,v2,v3,v4,v5,v6) (o2):=fun h=>by
     have hh:=hrs (z1,z2,z3,z4,z5,z6) (o2) i3 hJ1 (by omega)
     have he2:gtR tChoice (o2) i3=(e1,e2,e3,e4):=by rw[←he,r14]
     rw[he2,hq]at hh
     rw[←hJ3];exact hh.symm
    have hfin:¬ i3<No→(z1,z2,z3,z4,z5,z6)=recvM (v1,v2,v3,v4,v5,v6) (o2):=fun h=>by rw[←hJ3];exact (hre _ _ _ (by omega)).symm
    have hadd3:i3<No→ar .add .i64 i3 1=i3+1:=fun h=>by rw[r1];exact wrap64 (n:=i3+1) (by omega) (by omega)
    cbv
    try simp only[nc_eq]at *
    rw[hlo,he]
    simp only[r21,r22]
    rw[hq]
    dsimp only
    refine BR.lss r0 (fun hk=>?_) fun hk=>?_
    ·have hi3:INB i3 No:=⟨hJ1,hk⟩
     rw[hadd3 hk]
     exact ⟨hi3,hi3,NEXT.mk (hY ((q1,q2,q3,q4,q5,q6),i3+1) _ _ ⟨by show 0≤i3+1;omega,by show i3+1≤_;omega,hst hk⟩ (by show (_ - (i3+1):Int).toNat<(_ - i3:Int).toNat;omega) (.inl ⟨rfl,rfl⟩))⟩
    have hX3:=hfin hk
    rw[hln1,hadd ht]
    have hap:∀ z:tMeet.den,ap tMeet out [z]=out ++ [z]:=fun z=>by rw[r16]
    rw[hap]
    refine ⟨⟨rfl⟩,hlim ht,NEXT.mk (hX (t+1,((k1,k2,k3,k4,k5,k6),(z1,z2,z3,z4,z5,z6)),(t,(sayP (u1,u2,u3,u4,u5,u6) (fatesM F) t (ua,za)).1,some (m2,A2,W2),(sayP (u1,u2,u3,u4,u5,u6) (fatesM F) t (ua,za)).2.dropWhile (dueT t)),(t,(sayP (v1,v2,v3,v4,v5,v6) (fatesM G) t (ub,zb)).1,some (m3,A3,W1),(sayP (v1,v2,v3,v4,v5,v6) (fatesM G) t (ub,zb)).2.dropWhile (dueT t)),out ++ [((k1,k2,k3,k4,k5,k6),(z1,z2,z3,z4,z5,z6))]) _ _ ⟨by show 0≤t+1;omega,by show t+1≤N;omega,hA3,hB3,by rw[List.length_append,List.length_singleton];omega,hcyc ht _ _ (by rw[←ho1];exact hX2) (by rw[←ho2];exact hX3)⟩ (by show (N - (t+1)).toNat<(N - t).toNat;omega) (.inl ⟨rfl,rfl⟩))⟩
   ·have hB2:=hB.noSay (F:=G) hd2 hde
    refine hB2.hearS hI1 (by omega) fun zz o1 W1 ho1 hl1 hB3=>?_
    cbv
    try simp only[nc_eq]at *
    first | refine And.intro (by simp[nlLe_self,nlLe_none]) ?_ | skip
    refine LOOP.ind (σ:=SD×Int) (fun (_,i)=>[(2,.tl nw tW w),(12,.ptr 0 0),(15,.ptr 1 0),(17,.ptr 2 0),(18,.ptr 6 0),(19,.og 0 tMeet out),(20,.p (iv t)),(25,.tl none tChoice o1),(27,.p (iv i))])
     (fun (z,_)=>⟨hdB ka F kb G z (v1,v2,v3,v4,v5,v6) t (some (m2,A2,Wx)) t (some (mb,Ab,W1)),[(ml (ln tMeet out) 12,45)]⟩) (fun (_,i)=>((o1).length - i:Int).toNat) (fun (z,i)=>0≤i∧i≤(o1).length∧recvM z ((o1).drop i.toNat)=recvM (u1,u2,u3,u4,u5,u6) (o1)) ((u1,u2,u3,u4,u5,u6),0) ⟨by show (0:Int)≤0;omega,by show (0:Int)≤_;omega,rfl⟩ (.inr ⟨[some 0,some 1,some 2,some 3,some 11,some 12,some 6,some 7,some 8,some 9],[some 0],?_⟩) ?_
    ·rw[SIM_iff];cbv;simp[nlLe_self,nlLe_none,lstEq]
    intro ⟨⟨z1,z2,z3,z4,z5,z6⟩,i2⟩ hJ X2 hY
    obtain ⟨hJ1,hJ2,hJ3⟩:=hJ
    obtain ⟨⟨e1,e2,e3,e4⟩,he⟩:∃ y:tChoice.den,gt tChoice (o1) i2=y:=⟨_,rfl⟩
    obtain ⟨⟨⟨q1,q2,q3,q4,q5,q6⟩,qe⟩,hq⟩:∃ y,g3 (z1,z2,z3,z4,z5,z6) (e1,e2,e3,e4)=y:=⟨_,rfl⟩
    have hlo:ic (ln tChoice (o1))=(o1).length:=by rw[r4,r12]
    obtain ⟨No,hNo⟩:∃ No:Int,No=(o1).length:=⟨_,rfl⟩
    have hNo64:No≤64:=by rw[hNo];omega
    rw[←hNo]at hlo hJ2
    have hst:i2<No→recvM (q1,q2,q3,q4,q5,q6) ((o1).drop (i2+1).toNat)=recvM (u1,u2,u3,u4,u5,u6) (o1):=fun h=>by
     have hh:=hrs (z1,z2,z3,z4,z5,z6) (o1) i2 hJ1 (by omega)
     have he2:gtR tChoice (o1) i2=(e1,e2,e3,e4):=by rw[←he,r14]
     rw[he2,hq]at hh
     rw[←hJ3];exact hh.symm
    have hfin:¬ i2<No→(z1,z2,z3,z4,z5,z6)=recvM (u1,u2,u3,u4,u5,u6) (o1):=fun h=>by rw[←hJ3];exact (hre _ _ _ (by omega)).symm
    have hadd2:i2<No→ar .add .i64 i2 1=i2+1:=fun h=>by rw[r1];exact wrap64 (n:=i2+1) (by omega) (by omega)
    cbv
    try simp only[nc_eq]at *
    rw[hlo,he]
    simp only[r21,r22]
    rw[hq]
    dsimp only
    refine BR.lss r0 (fun hk=>?_) fun hk=>?_
    ·have hi2:INB i2 No:=⟨hJ1,hk⟩
     rw[hadd2 hk]
     exact ⟨hi2,hi2,NEXT.mk (hY ((q1,q2,q3,q4,q5,q6),i2+1) _ _ ⟨by show 0≤i2+1;omega,by show i2+1≤_;omega,hst hk⟩ (by show (_ - (i2+1):Int).toNat<(_ - i2:Int).toNat;omega) (.inl ⟨rfl,rfl⟩))⟩
    have hX2:=hfin hk
    clear hst hfin hJ1 hJ2 hJ3 hadd2 hY he hq hlo
    refine hA2.hearS hI1 (by omega) fun zz2 o2 W2 ho2 hl2 hA3=>?_
    cbv
    try simp only[nc_eq]at *
    first | refine And.intro (by simp[nlLe_self,nlLe_none]) ?_ | skip
    obtain ⟨z7,hz7⟩:∃ z:SD,z=(z1,z2,z3,z4,z5,z6):=⟨_,rfl⟩
    obtain ⟨k1,k2,k3,k4,k5,k6⟩:=z7
    obtain ⟨rfl,rfl,rfl,rfl,rfl,rfl⟩:k1=z1∧k2=z2∧k3=z3∧k4=z4∧k5=z5∧k6=z6:=by simpa using hz7
    clear hz7
    refine LOOP.ind (σ:=SD×Int) (fun (_,i)=>[(2,.tl nw tW w),(12,.ptr 0 0),(15,.ptr 1 0),(17,.ptr 2 0),(18,.ptr 6 0),(19,.og 0 tMeet out),(20,.p (iv t)),(28,.tl none tChoice o2),(30,.p (iv i))])
     (fun (z,_)=>⟨hdB ka F kb G (k1,k2,k3,k4,k5,k6) z t (some (m2,A2,W2)) t (some (mb,Ab,W1)),[(ml (ln tMeet out) 12,45)]⟩) (fun (_,i)=>((o2).length - i:Int).toNat) (fun (z,i)=>0≤i∧i≤(o2).length∧recvM z ((o2).drop i.toNat)=recvM (v1,v2,v3,v4,v5,v6) (o2)) ((v1,v2,v3,v4,v5,v6),0) ⟨by show (0:Int)≤0;omega,by show (0:Int)≤_;omega,rfl⟩ (.inr ⟨[some 0,some 1,some 2,some 3,some 4,some 5,some 6,some 7,some 8,some 9],[some 0],?_⟩) ?_
    ·rw[SIM_iff];cbv;simp[nlLe_self,nlLe_none,lstEq]
    intro ⟨⟨z1,z2,z3,z4,z5,z6⟩,i3⟩ hJ X3 hY
    obtain ⟨hJ1,hJ2,hJ3⟩:=hJ
    obtain ⟨⟨e1,e2,e3,e4⟩,he⟩:∃ y:tChoice.den,gt tChoice (o2) i3=y:=⟨_,rfl⟩
    obtain ⟨⟨⟨q1,q2,q3,q4,q5,q6⟩,qe⟩,hq⟩:∃ y,g3 (z1,z2,z3,z4,z5,z6) (e1,e2,e3,e4)=y:=⟨_,rfl⟩
    have hlo:ic (ln tChoice (o2))=(o2).length:=by rw[r4,r12]
    obtain ⟨No,hNo⟩:∃ No:Int,No=(o2).length:=⟨_,rfl⟩
    have hNo64:No≤64:=by rw[hNo];omega
    rw[←hNo]at hlo hJ2
    have hst:i3<No→recvM (q1,q2,q3,q4,q5,q6) ((o2).drop (i3+1).toNat)=recvM (v1,v2,v3,v4,v5,v6) (o2):=fun h=>by
     have hh:=hrs (z1,z2,z3,z4,z5,z6) (o2) i3 hJ1 (by omega)
     have he2:gtR tChoice (o2) i3=(e1,e2,e3,e4):=by rw[←he,r14]
     rw[he2,hq]at hh
     rw[←hJ3];exact hh.symm
    have hfin:¬ i3<No→(z1,z2,z3,z4,z5,z6)=recvM (v1,v2,v3,v4,v5,v6) (o2):=fun h=>by rw[←hJ3];exact (hre _ _ _ (by omega)).symm
    have hadd3:i3<No→ar .add .i64 i3 1=i3+1:=fun h=>by rw[r1];exact wrap64 (n:=i3+1) (by omega) (by omega)
    cbv
    try simp only[nc_eq]at *
    rw[hlo,he]
    simp only[r21,r22]
    rw[hq]
    dsimp only
    refine BR.lss r0 (fun hk=>?_) fun hk=>?_
    ·have hi3:INB i3 No:=⟨hJ1,hk⟩
     rw[hadd3 hk]
     exact ⟨hi3,hi3,NEXT.mk (hY ((q1,q2,q3,q4,q5,q6),i3+1) _ _ ⟨by show 0≤i3+1;omega,by show i3+1≤_;omega,hst hk⟩ (by show (_ - (i3+1):Int).toNat<(_ - i3:Int).toNat;omega) (.inl ⟨rfl,rfl⟩))⟩
    have hX3:=hfin hk
    rw[hln1,hadd ht]
    have hap:∀ z:tMeet.den,ap tMeet out [z]=out ++ [z]:=fun z=>by rw[r16]
    rw[hap]
    refine ⟨⟨rfl⟩,hlim ht,NEXT.mk (hX (t+1,((k1,k2,k3,k4,k5,k6),(z1,z2,z3,z4,z5,z6)),(t,(sayP (u1,u2,u3,u4,u5,u6) (fatesM F) t (ua,za)).1,some (m2,A2,W2),(sayP (u1,u2,u3,u4,u5,u6) (fatesM F) t (ua,za)).2.dropWhile (dueT t)),(t,(sayP (v1,v2,v3,v4,v5,v6) (fatesM G) t (ub,zb)).1,some (mb,Ab,W1),(sayP (v1,v2,v3,v4,v5,v6) (fatesM G) t (ub,zb)).2.dropWhile (dueT t)),out ++ [((k1,k2,k3,k4,k5,k6),(z1,z2,z3,z4,z5,z6))]) _ _ ⟨by show 0≤t+1;omega,by show t+1≤N;omega,hA3,hB3,by rw[List.length_append,List.length_singleton];omega,hcyc ht _ _ (by rw[←ho1];exact hX2) (by rw[←ho2];exact hX3)⟩ (by show (N - (t+1)).toNat<(N - t).toNat;omega) (.inl ⟨rfl,rfl⟩))⟩
  ·have hA2:=hA.noSay (F:=F) hc2 hce
   refine BR.eql r0 (fun hde=>?_) fun hde=>?_
   ·subst hde
    refine hB.sendS hGq hI1 (by omega) hkb hd2 fun m3 A3 Wy hB2=>?_
    cbv
    try simp only[nc_eq]at *
    first | refine And.intro (by simp[nlLe_self,nlLe_none]) ?_ | skip
    refine hB2.hearS hI1 (by omega) fun zz o1 W1 ho1 hl1 hB3=>?_
    cbv
    try simp only[nc_eq]at *
    first | refine And.intro (by simp[nlLe_self,nlLe_none]) ?_ | skip
    refine LOOP.ind (σ:=SD×Int) (fun (_,i)=>[(2,.tl nw tW w),(12,.ptr 0 0),(15,.ptr 1 0),(17,.ptr 2 0),(18,.ptr 6 0),(19,.og 0 tMeet out),(20,.p (iv t)),(25,.tl none tChoice o1),(27,.p (iv i))])
     (fun (z,_)=>⟨hdB ka F kb G z (v1,v2,v3,v4,v5,v6) na (some (ma,Aa,Wa)) t (some (m3,A3,W1)),[(ml (ln tMeet out) 12,45)]⟩) (fun (_,i)=>((o1).length - i:Int).toNat) (fun (z,i)=>0≤i∧i≤(o1).length∧recvM z ((o1).drop i.toNat)=recvM (u1,u2,u3,u4,u5,u6) (o1)) ((u1,u2,u3,u4,u5,u6),0) ⟨by show (0:Int)≤0;omega,by show (0:Int)≤_;omega,rfl⟩ (.inr ⟨[some 0,some 1,some 2,some 3,some 4,some 5,some 6,some 7,some 12,some 13],[some 0],?_⟩) ?_
    ·rw[SIM_iff];cbv;simp[nlLe_self,nlLe_none,lstEq]
    intro ⟨⟨z1,z2,z3,z4,z5,z6⟩,i2⟩ hJ X2 hY
    obtain ⟨hJ1,hJ2,hJ3⟩:=hJ
    obtain ⟨⟨e1,e2,e3,e4⟩,he⟩:∃ y:tChoice.den,gt tChoice (o1) i2=y:=⟨_,rfl⟩
    obtain ⟨⟨⟨q1,q2,q3,q4,q5,q6⟩,qe⟩,hq⟩:∃ y,g3 (z1,z2,z3,z4,z5,z6) (e1,e2,e3,e4)=y:=⟨_,rfl⟩
    have hlo:ic (ln tChoice (o1))=(o1).length:=by rw[r4,r12]
    obtain ⟨No,hNo⟩:∃ No:Int,No=(o1).length:=⟨_,rfl⟩
    have hNo64:No≤64:=by rw[hNo];omega
    rw[←hNo]at hlo hJ2
    have hst:i2<No→recvM (q1,q2,q3,q4,q5,q6) ((o1).drop (i2+1).toNat)=recvM (u1,u2,u3,u4,u5,u6) (o1):=fun h=>by
     have hh:=hrs (z1,z2,z3,z4,z5,z6) (o1) i2 hJ1 (by omega)
     have he2:gtR tChoice (o1) i2=(e1,e2,e3,e4):=by rw[←he,r14]
     rw[he2,hq]at hh
     rw[←hJ3];exact hh.symm
    have hfin:¬ i2<No→(z1,z2,z3,z4,z5,z6)=recvM (u1,u2,u3,u4,u5,u6) (o1):=fun h=>by rw[←hJ3];exact (hre _ _ _ (by omega)).symm
    have hadd2:i2<No→ar .add .i64 i2 1=i2+1:=fun h=>by rw[r1];exact wrap64 (n:=i2+1) (by omega) (by omega)
    cbv
    try simp only[nc_eq]at *
    rw[hlo,he]
    simp only[r21,r22]
    rw[hq]
    dsimp only
    refine BR.lss r0 (fun hk=>?_) fun hk=>?_
    ·have hi2:INB i2 No:=⟨hJ1,hk⟩
     rw[hadd2 hk]
     exact ⟨hi2,hi2,NEXT.mk (hY ((q1,q2,q3,q4,q5,q6),i2+1) _ _ ⟨by show 0≤i2+1;omega,by show i2+1≤_;omega,hst hk⟩ (by show (_ - (i2+1):Int).toNat<(_ - i2:Int).toNat;omega) (.inl ⟨rfl,rfl⟩))⟩
    have hX2:=hfin hk
    clear hst hfin hJ1 hJ2 hJ3 hadd2 hY he hq hlo
    refine hA2.hearS hI1 (by omega) fun zz2 o2 W2 ho2 hl2 hA3=>?_
    cbv
    try simp only[nc_eq]at *
    first | refine And.intro (by simp[nlLe_self,nlLe_none]) ?_ | skip
    obtain ⟨z7,hz7⟩:∃ z:SD,z=(z1,z2,z3,z4,z5,z6):=⟨_,rfl⟩
    obtain ⟨k1,k2,k3,k4,k5,k6⟩:=z7
    obtain ⟨rfl,rfl,rfl,rfl,rfl,rfl⟩:k1=z1∧k2=z2∧k3=z3∧k4=z4∧k5=z5∧k6=z6:=by simpa using hz7
    clear hz7
    refine LOOP.ind (σ:=SD×Int) (fun (_,i)=>[(2,.tl nw tW w),(12,.ptr 0 0),(15,.ptr 1 0),(17,.ptr 2 0),(18,.ptr 6 0),(19,.og 0 tMeet out),(20,.p (iv t)),(28,.tl none tChoice o2),(30,.p (iv i))])
     (fun (z,_)=>⟨hdB ka F kb G (k1,k2,k3,k4,k5,k6) z t (some (ma,Aa,W2)) t (some (m3,A3,W1)),[(ml (ln tMeet out) 12,45)]⟩) (fun (_,i)=>((o2).length - i:Int).toNat) (fun (z,i)=>0≤i∧i≤(o2).length∧recvM z ((o2).drop i.toNat)=recvM (v1,v2,v3,v4,v5,v6) (o2)) ((v1,v2,v3,v4,v5,v6),0) ⟨by show (0:Int)≤0;omega,by show (0:Int)≤_;omega,rfl⟩ (.inr ⟨[some 0,some 1,some 2,some 3,some 4,some 5,some 6,some 7,some 8,some 9],[some 0],?_⟩) ?_
    ·rw[SIM_iff];cbv;simp[nlLe_self,nlLe_none,lstEq]
    intro ⟨⟨z1,z2,z3,z4,z5,z6⟩,i3⟩ hJ X3 hY
    obtain ⟨hJ1,hJ2,hJ3⟩:=hJ
    obtain ⟨⟨e1,e2,e3,e4⟩,he⟩:∃ y:tChoice.den,gt tChoice (o2) i3=y:=⟨_,rfl⟩
    obtain ⟨⟨⟨q1,q2,q3,q4,q5,q6⟩,qe⟩,hq⟩:∃ y,g3 (z1,z2,z3,z4,z5,z6) (e1,e2,e3,e4)=y:=⟨_,rfl⟩
    have hlo:ic (ln tChoice (o2))=(o2).length:=by rw[r4,r12]
    obtain ⟨No,hNo⟩:∃ No:Int,No=(o2).length:=⟨_,rfl⟩
    have hNo64:No≤64:=by rw[hNo];omega
    rw[←hNo]at hlo hJ2
    have hst:i3<No→recvM (q1,q2,q3,q4,q5,q6) ((o2).drop (i3+1).toNat)=recvM (v1,v2,v3,v4,v5,v6) (o2):=fun h=>by
     have hh:=hrs (z1,z2,z3,z4,z5,z6) (o2) i3 hJ1 (by omega)
     have he2:gtR tChoice (o2) i3=(e1,e2,e3,e4):=by rw[←he,r14]
     rw[he2,hq]at hh
     rw[←hJ3];exact hh.symm
    have hfin:¬ i3<No→(z1,z2,z3,z4,z5,z6)=recvM (v1,v2,v3,v4,v5,v6) (o2):=fun h=>by rw[←hJ3];exact (hre _ _ _ (by omega)).symm
    have hadd3:i3<No→ar .add .i64 i3 1=i3+1:=fun h=>by rw[r1];exact wrap64 (n:=i3+1) (by omega) (by omega)
    cbv
    try simp only[nc_eq]at *
    rw[hlo,he]
    simp only[r21,r22]
    rw[hq]
    dsimp only
    refine BR.lss r0 (fun hk=>?_) fun hk=>?_
    ·have hi3:INB i3 No:=⟨hJ1,hk⟩
     rw[hadd3 hk]
     exact ⟨hi3,hi3,NEXT.mk (hY ((q1,q2,q3,q4,q5,q6),i3+1) _ _ ⟨by show 0≤i3+1;omega,by show i3+1≤_;omega,hst hk⟩ (by show (_ - (i3+1):Int).toNat<(_ - i3:Int).toNat;omega) (.inl ⟨rfl,rfl⟩))⟩
    have hX3:=hfin hk
    rw[hln1,hadd ht]
    have hap:∀ z:tMeet.den,ap tMeet out [z]=out ++ [z]:=fun z=>by rw[r16]
    rw[hap]
    refine ⟨⟨rfl⟩,hlim ht,NEXT.mk (hX (t+1,((k1,k2,k3,k4,k5,k6),(z1,z2,z3,z4,z5,z6)),(t,(sayP (u1,u2,u3,u4,u5,u6) (fatesM F) t (ua,za)).1,some (ma,Aa,W2),(sayP (u1,u2,u3,u4,u5,u6) (fatesM F) t (ua,za)).2.dropWhile (dueT t)),(t,(sayP (v1,v2,v3,v4,v5,v6) (fatesM G) t (ub,zb)).1,some (m3,A3,W1),(sayP (v1,v2,v3,v4,v5,v6) (fatesM G) t (ub,zb)).2.dropWhile (dueT t)),out ++ [((k1,k2,k3,k4,k5,k6),(z1,z2,z3,z4,z5,z6))]) _ _ ⟨by show 0≤t+1;omega,by show t+1≤N;omega,hA3,hB3,by rw[List.length_append,List.length_singleton];omega,hcyc ht _ _ (by rw[←ho1];exact hX2) (by rw[←ho2];exact hX3)⟩ (by show (N - (t+1)).toNat<(N - t).toNat;omega) (.inl ⟨rfl,rfl⟩))⟩
   ·have hB2:=hB.noSay (F:=G) hd2 hde
    refine hB2.hearS hI1 (by omega) fun zz o1 W1 ho1 hl1 hB3=>?_
    cbv
    try simp only[nc_eq]at *
    first | refine And.intro (by simp[nlLe_self,nlLe_none]) ?_ | skip
    refine LOOP.ind (σ:=SD×Int) (fun (_,i)=>[(2,.tl nw tW w),(12,.ptr 0 0),(15,.ptr 1 0),(17,.ptr 2 0),(18,.ptr 6 0),(19,.og 0 tMeet out),(20,.p (iv t)),(25,.tl none tChoice o1),(27,.p (iv i))])
     (fun (z,_)=>⟨hdB ka F kb G z (v1,v2,v3,v4,v5,v6) na (some (ma,Aa,Wa)) t (some (mb,Ab,W1)),[(ml (ln tMeet out) 12,45)]⟩) (fun (_,i)=>((o1).length - i:Int).toNat) (fun (z,i)=>0≤i∧i≤(o1).length∧recvM z ((o1).drop i.toNat)=recvM (u1,u2,u3,u4,u5,u6) (o1)) ((u1,u2,u3,u4,u5,u6),0) ⟨by show (0:Int)≤0;omega,by show (0:Int)≤_;omega,rfl⟩ (.inr ⟨[some 0,some 1,some 2,some 3,some 4,some 5,some 6,some 7,some 8,some 9],[some 0],?_⟩) ?_
    ·rw[SIM_iff];cbv;simp[nlLe_self,nlLe_none,lstEq]
    intro ⟨⟨z1,z2,z3,z4,z5,z6⟩,i2⟩ hJ X2 hY
    obtain ⟨hJ1,hJ2,hJ3⟩:=hJ
    obtain ⟨⟨e1,e2,e3,e4⟩,he⟩:∃ y:tChoice.den,gt tChoice (o1) i2=y:=⟨_,rfl⟩
    obtain ⟨⟨⟨q1,q2,q3,q4,q5,q6⟩,qe⟩,hq⟩:∃ y,g3 (z1,z2,z3,z4,z5,z6) (e1,e2,e3,e4)=y:=⟨_,rfl⟩
    have hlo:ic (ln tChoice (o1))=(o1).length:=by rw[r4,r12]
    obtain ⟨No,hNo⟩:∃ No:Int,No=(o1).length:=⟨_,rfl⟩
    have hNo64:No≤64:=by rw[hNo];omega
    rw[←hNo]at hlo hJ2
    have hst:i2<No→recvM (q1,q2,q3,q4,q5,q6) ((o1).drop (i2+1).toNat)=recvM (u1,u2,u3,u4,u5,u6) (o1):=fun h=>by
     have hh:=hrs (z1,z2,z3,z4,z5,z6) (o1) i2 hJ1 (by omega)
     have he2:gtR tChoice (o1) i2=(e1,e2,e3,e4):=by rw[←he,r14]
     rw[he2,hq]at hh
     rw[←hJ3];exact hh.symm
    have hfin:¬ i2<No→(z1,z2,z3,z4,z5,z6)=recvM (u1,u2,u3,u4,u5,u6) (o1):=fun h=>by rw[←hJ3];exact (hre _ _ _ (by omega)).symm
    have hadd2:i2<No→ar .add .i64 i2 1=i2+1:=fun h=>by rw[r1];exact wrap64 (n:=i2+1) (by omega) (by omega)
    cbv
    try simp only[nc_eq]at *
    rw[hlo,he]
    simp only[r21,r22]
    rw[hq]
    dsimp only
    refine BR.lss r0 (fun hk=>?_) fun hk=>?_
    ·have hi2:INB i2 No:=⟨hJ1,hk⟩
     rw[hadd2 hk]
     exact ⟨hi2,hi2,NEXT.mk (hY ((q1,q2,q3,q4,q5,q6),i2+1) _ _ ⟨by show 0≤i2+1;omega,by show i2+1≤_;omega,hst hk⟩ (by show (_ - (i2+1):Int).toNat<(_ - i2:Int).toNat;omega) (.inl ⟨rfl,rfl⟩))⟩
    have hX2:=hfin hk
    clear hst hfin hJ1 hJ2 hJ3 hadd2 hY he hq hlo
    refine hA2.hearS hI1 (by omega) fun zz2 o2 W2 ho2 hl2 hA3=>?_
    cbv
    try simp only[nc_eq]at *
    first | refine And.intro (by simp[nlLe_self,nlLe_none]) ?_ | skip
    obtain ⟨z7,hz7⟩:∃ z:SD,z=(z1,z2,z3,z4,z5,z6):=⟨_,rfl⟩
    obtain ⟨k1,k2,k3,k4,k5,k6⟩:=z7
    obtain ⟨rfl,rfl,rfl,rfl,rfl,rfl⟩:k1=z1∧k2=z2∧k3=z3∧k4=z4∧k5=z5∧k6=z6:=by simpa using hz7
    clear hz7
    refine LOOP.ind (σ:=SD×Int) (fun (_,i)=>[(2,.tl nw tW w),(12,.ptr 0 0),(15,.ptr 1 0),(17,.ptr 2 0),(18,.ptr 6 0),(19,.og 0 tMeet out),(20,.p (iv t)),(28,.tl none tChoice o2),(30,.p (iv i))])
     (fun (z,_)=>⟨hdB ka F kb G (k1,k2,k3,k4,k5,k6) z t (some (ma,Aa,W2)) t (some (mb,Ab,W1)),[(ml (ln tMeet out) 12,45)]⟩) (fun (_,i)=>((o2).length - i:Int).toNat) (fun (z,i)=>0≤i∧i≤(o2).length∧recvM z ((o2).drop i.toNat)=recvM (v1,v2,v3,v4,v5,v6) (o2)) ((v1,v2,v3,v4,v5,v6),0) ⟨by show (0:Int)≤0;omega,by show (0:Int)≤_;omega,rfl⟩ (.inr ⟨[some 0,some 1,some 2,some 3,some 4,some 5,some 6,some 7,some 8,some 9],[some 0],?_⟩) ?_
    ·rw[SIM_iff];cbv;simp[nlLe_self,nlLe_none,lstEq]
    intro ⟨⟨z1,z2,z3,z4,z5,z6⟩,i3⟩ hJ X3 hY
    obtain ⟨hJ1,hJ2,hJ3⟩:=hJ
    obtain ⟨⟨e1,e2,e3,e4⟩,he⟩:∃ y:tChoice.den,gt tChoice (o2) i3=y:=⟨_,rfl⟩
    obtain ⟨⟨⟨q1,q2,q3,q4,q5,q6⟩,qe⟩,hq⟩:∃ y,g3 (z1,z2,z3,z4,z5,z6) (e1,e2,e3,e4)=y:=⟨_,rfl⟩
    have hlo:ic (ln tChoice (o2))=(o2).length:=by rw[r4,r12]
    obtain ⟨No,hNo⟩:∃ No:Int,No=(o2).length:=⟨_,rfl⟩
    have hNo64:No≤64:=by rw[hNo];omega
    rw[←hNo]at hlo hJ2
    have hst:i3<No→recvM (q1,q2,q3,q4,q5,q6) ((o2).drop (i3+1).toNat)=recvM (v1,v2,v3,v4,v5,v6) (o2):=fun h=>by
     have hh:=hrs (z1,z2,z3,z4,z5,z6) (o2) i3 hJ1 (by omega)
     have he2:gtR tChoice (o2) i3=(e1,e2,e3,e4):=by rw[←he,r14]
     rw[he2,hq]at hh
     rw[←hJ3];exact hh.symm
    have hfin:¬ i3<No→(z1,z2,z3,z4,z5,z6)=recvM (v1,v2,v3,v4,v5,v6) (o2):=fun h=>by rw[←hJ3];exact (hre _ _ _ (by omega)).symm
    have hadd3:i3<No→ar .add .i64 i3 1=i3+1:=fun h=>by rw[r1];exact wrap64 (n:=i3+1) (by omega) (by omega)
    cbv
    try simp only[nc_eq]at *
    rw[hlo,he]
    simp only[r21,r22]
    rw[hq]
    dsimp only
    refine BR.lss r0 (fun hk=>?_) fun hk=>?_
    ·have hi3:INB i3 No:=⟨hJ1,hk⟩
     rw[hadd3 hk]
     exact ⟨hi3,hi3,NEXT.mk (hY ((q1,q2,q3,q4,q5,q6),i3+1) _ _ ⟨by show 0≤i3+1;omega,by show i3+1≤_;omega,hst hk⟩ (by show (_ - (i3+1):Int).toNat<(_ - i3:Int).toNat;omega) (.inl ⟨rfl,rfl⟩))⟩
    have hX3:=hfin hk
    rw[hln1,hadd ht]
    have hap:∀ z:tMeet.den,ap tMeet out [z]=out ++ [z]:=fun z=>by rw[r16]
    rw[hap]
    refine ⟨⟨rfl⟩,hlim ht,NEXT.mk (hX (t+1,((k1,k2,k3,k4,k5,k6),(z1,z2,z3,z4,z5,z6)),(t,(sayP (u1,u2,u3,u4,u5,u6) (fatesM F) t (ua,za)).1,some (ma,Aa,W2),(sayP (u1,u2,u3,u4,u5,u6) (fatesM F) t (ua,za)).2.dropWhile (dueT t)),(t,(sayP (v1,v2,v3,v4,v5,v6) (fatesM G) t (ub,zb)).1,some (mb,Ab,W1),(sayP (v1,v2,v3,v4,v5,v6) (fatesM G) t (ub,zb)).2.dropWhile (dueT t)),out ++ [((k1,k2,k3,k4,k5,k6),(z1,z2,z3,z4,z5,z6))]) _ _ ⟨by show 0≤t+1;omega,by show t+1≤N;omega,hA3,hB3,by rw[List.length_append,List.length_singleton];omega,hcyc ht _ _ (by rw[←ho1];exact hX2) (by rw[←ho2];exact hX3)⟩ (by show (N - (t+1)).toNat<(N - t).toNat;omega) (.inl ⟨rfl,rfl⟩))⟩
end Go.Ab
