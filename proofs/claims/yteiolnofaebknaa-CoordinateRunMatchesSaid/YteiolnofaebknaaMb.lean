/- The parties of a run: choosing,sending,receiving. -/
import Derived.Test.YteiolnofaebknaaMa
set_option linter.unusedSimpArgs false
set_option linter.unusedVariables false
set_option maxRecDepth 20000
set_option maxHeartbeats 2000000
namespace Go.Ab
open Go.Proofs
def pty (x:SD) (o i:Nat) (t w:Int):List DC:=
 [.p (iv x.1),.p (iv x.2.1),.p (.v (.int .u8 x.2.2.1)),.p (iv x.2.2.2.1),.p (.v (.int .u8 x.2.2.2.2.1)),.p (iv x.2.2.2.2.2),.ptr o 0,.ptr i 0,.p (iv t),.p (.v (.int .u8 w))]
def bLink (F:List Int) (now sent:Int) (w:Nat):BoxS:={ cells:=[.arr 256 tI F,.p (iv now),.p (iv sent),.ptr w 0],e:=103,fz:=false }
def bWay (a n:Nat):BoxS:={ cells:=[.ms a 0 6 none n],e:=100,fz:=false }
def bArr (N:Nat) (q:List tPar.den):BoxS:={ cells:=[.arr N tPar q],e:=97,fz:=false,ap:=true }
def bDead:BoxS:={ cells:=[],e:=97,fz:=true,ap:=true }
def bBoth (x y:SD) (t wx wy:Int):BoxS:={ cells:=pty x 1 4 t wx ++ pty y 4 1 t wy,e:=85,fz:=false }
def stR (x y:SD) (t wx wy:Int) (Fa:List Int) (na ua:Int) (Na la:Nat) (qa:List tPar.den) (Fb:List Int) (nb ub:Int) (Nb lb:Nat) (qb:List tPar.den):StS:=
 ⟨[bBoth x y t wx wy,bLink Fa na ua 2,bWay 3 la,bArr Na qa,bLink Fb nb ub 5,bWay 6 lb,bArr Nb qb],[]⟩
def stRa (x y:SD) (t wx wy:Int) (Fa:List Int) (na ua:Int) (Na la:Nat) (qa:List tPar.den) (Fb:List Int) (nb ub:Int) (Nb lb:Nat) (qb:List tPar.den):StS:=
 ⟨[bBoth x y t wx wy,bLink Fa na ua 2,bWay 7 la,bDead,bLink Fb nb ub 5,bWay 6 lb,bArr Nb qb,bArr Na qa],[]⟩
def stRb (x y:SD) (t wx wy:Int) (Fa:List Int) (na ua:Int) (Na la:Nat) (qa:List tPar.den) (Fb:List Int) (nb ub:Int) (Nb lb:Nat) (qb:List tPar.den):StS:=
 ⟨[bBoth x y t wx wy,bLink Fa na ua 2,bWay 3 la,bArr Na qa,bLink Fb nb ub 5,bWay 7 lb,bDead,bArr Nb qb],[]⟩
theorem cCh0 (x y:SD) (t wx wy:Int) (Fa:List Int) (na ua:Int) (Na la:Nat) (qa:List tPar.den) (Fb:List Int) (nb ub:Int) (Nb lb:Nat) (qb:List tPar.den):FnS Try.prog 47 ([.ptr 0 0]) (stR x y t wx wy Fa na ua Na la qa Fb nb ub Nb lb qb ) fun x_ s_=>x_=(.tup [])∧s_=(stR (chooseM x wx).1 y t wx wy Fa na ua Na la qa Fb nb ub Nb lb qb):=by
 refine FnS.of (S:=[(11,_)]) (T:=[]) (U:=[]) (tbl:=[]) (n:=17) hm33 cfg (.cons (spT2.ok (a:=(.pair (.int .i64) (.pair (.int .i64) (.pair (.int .u8) (.pair (.int .i64) (.pair (.int .u8) (.int .i64))))))) (b:=(.int .u8)) (pre:=fun _ _=>True) fun x0 x1 _=>c11 x0.1 x0.2.1 x0.2.2.1 x0.2.2.2.1 x0.2.2.2.2.1 x0.2.2.2.2.2 x1) .nil) .nil .nil .nil 0 Try.call47 Try.func47 (ac47_ok (some (7,0))) (by rw[Try.ntmps47];exact Nat.le_refl _) rfl _ _ _ (by rfl) ?_
 intro cmp ar cv tn ic ai mx an ad ml sb mn ln em gt up ap sc vw cp rp p1 p2 s1 s2 X Y hX hY r0 r1 r2 r3 r4 r5 r6 r7 r8 r9 r10 r11 r12 r13 r14 r15 r16 r17 r18 r19 r20 r21 r22 r23 r24
 generalize hg0:chooseM=g0
 cbv
 repeat' (first | exact True.intro | refine And.intro ?_ ?_ | (refine BR.mk ?_ ?_ <;> intro _) | (refine CASE.mk ?_;intro _))
 all_goals (refine RET.mk ⟨[some 0,some 1,some 2,some 3,some 4,some 5,some 6],[],?_⟩;rw[SIM_iff];cbv)
 all_goals repeat' (first | exact True.intro | apply And.intro | rfl)
theorem cCh1 (x y:SD) (t wx wy:Int) (Fa:List Int) (na ua:Int) (Na la:Nat) (qa:List tPar.den) (Fb:List Int) (nb ub:Int) (Nb lb:Nat) (qb:List tPar.den):FnS Try.prog 47 ([.ptr 0 10]) (stR x y t wx wy Fa na ua Na la qa Fb nb ub Nb lb qb ) fun x_ s_=>x_=(.tup [])∧s_=(stR x (chooseM y wy).1 t wx wy Fa na ua Na la qa Fb nb ub Nb lb qb):=by
 refine FnS.of (S:=[(11,_)]) (T:=[]) (U:=[]) (tbl:=[]) (n:=17) hm33 cfg (.cons (spT2.ok (a:=(.pair (.int .i64) (.pair (.int .i64) (.pair (.int .u8) (.pair (.int .i64) (.pair (.int .u8) (.int .i64))))))) (b:=(.int .u8)) (pre:=fun _ _=>True) fun x0 x1 _=>c11 x0.1 x0.2.1 x0.2.2.1 x0.2.2.2.1 x0.2.2.2.2.1 x0.2.2.2.2.2 x1) .nil) .nil .nil .nil 0 Try.call47 Try.func47 (ac47_ok (some (7,0))) (by rw[Try.ntmps47];exact Nat.le_refl _) rfl _ _ _ (by rfl) ?_
 intro cmp ar cv tn ic ai mx an ad ml sb mn ln em gt up ap sc vw cp rp p1 p2 s1 s2 X Y hX hY r0 r1 r2 r3 r4 r5 r6 r7 r8 r9 r10 r11 r12 r13 r14 r15 r16 r17 r18 r19 r20 r21 r22 r23 r24
 generalize hg0:chooseM=g0
 cbv
 repeat' (first | exact True.intro | refine And.intro ?_ ?_ | (refine BR.mk ?_ ?_ <;> intro _) | (refine CASE.mk ?_;intro _))
 all_goals (refine RET.mk ⟨[some 0,some 1,some 2,some 3,some 4,some 5,some 6],[],?_⟩;rw[SIM_iff];cbv)
 all_goals repeat' (first | exact True.intro | apply And.intro | rfl)
structure SNT (x:SD) (F:List Int) (now sent:Int) (N n:Nat) (q:List tPar.den) (t:Int) (now' sent':Int) (N' n':Nat) (q':List tPar.den):Prop where
 yes:(sayM x).2=0→now'=sendNow F now sent n t (sayM x).1∧sent'=sendSent F now sent n t (sayM x).1∧N'=sendCap F now sent N n t (sayM x).1∧n'=sendN F now sent n t (sayM x).1∧q'=sendQ F now sent n q t (sayM x).1
 no:(sayM x).2≠0→now'=now∧sent'=sent∧N'=N∧n'=n∧q'=q
theorem cSe0 (x y:SD) (t wx wy:Int) (Fa:List Int) (na ua:Int) (Na la:Nat) (qa:List tPar.den) (Fb:List Int) (nb ub:Int) (Nb lb:Nat) (qb:List tPar.den) (na' ua':Int) (Na' la':Nat) (qa':List tPar.den) (hs:SNT x Fa na ua Na la qa t na' ua' Na' la' qa') (hp:SENDK Fa ua Na la qa):FnS Try.prog 48 ([.ptr 0 0]) (stR x y t wx wy Fa na ua Na la qa Fb nb ub Nb lb qb ) fun x_ s_=>x_=(.tup [])∧s_=(stRa x y t wx wy Fa na' ua' Na' la' qa' Fb nb ub Nb lb qb):=by
 refine FnS.of (S:=[(15,_)]) (T:=[(57,_)]) (U:=[]) (tbl:=[]) (n:=24) hm33 cfg (.cons (spT1.ok (a:=(.pair (.int .i64) (.pair (.int .i64) (.pair (.int .u8) (.pair (.int .i64) (.pair (.int .u8) (.int .i64))))))) (pre:=fun _=>True) fun x0 _=>c15 x0.1 x0.2.1 x0.2.2.1 x0.2.2.2.1 x0.2.2.2.2.1 x0.2.2.2.2.2) .nil) (.cons cSendR .nil) .nil .nil 0 Try.call48 Try.func48 (ac48_ok (some (7,0))) (by rw[Try.ntmps48];exact Nat.le_refl _) rfl _ _ _ (by rfl) ?_
 intro cmp ar cv tn ic ai mx an ad ml sb mn ln em gt up ap sc vw cp rp p1 p2 s1 s2 X Y hX hY r0 r1 r2 r3 r4 r5 r6 r7 r8 r9 r10 r11 r12 r13 r14 r15 r16 r17 r18 r19 r20 r21 r22 r23 r24
 generalize hg0:sayM=g0
 cbv
 repeat' (first | exact True.intro | refine And.intro ?_ ?_ | (refine BR.nn r0 ?_) | (refine BR.lss r0 ?_ ?_ <;> intro _) | (refine BR.neq r0 ?_ ?_ <;> intro _) | (refine BR.eql r0 ?_ ?_ <;> intro _) | (refine BR.leq r0 ?_ ?_ <;> intro _) | (refine BR.gtr r0 ?_ ?_ <;> intro _) | (refine BR.geq r0 ?_ ?_ <;> intro _) | (refine BR.mk ?_ ?_ <;> intro _) | (refine CASE.mk ?_;intro _))
 ·refine SENT.mk hp ?_
  intro e1 now1 s1 N1 n1 q1 h1
  have hc:(g0 x).2=0:=by assumption
  obtain ⟨a1,a2,a3,a4,a5⟩:=hs.yes (by rw[hg0];exact hc)
  rw[hg0]at a1 a2 a3 a4 a5
  have h1:SENTR Fa na ua Na la qa t (g0 x).1 e1 now1 s1 N1 n1 q1:=h1
  cbv
  refine RET.mk ⟨[some 0,some 1,some 2,none,some 4,some 5,some 6,some 8],[],?_⟩;rw[SIM_iff];cbv
  exact ⟨⟨⟨h1.hnow.trans a1.symm,h1.hsent.trans a2.symm,trivial⟩,⟨h1.hn.trans a4.symm,trivial⟩,⟨h1.hN.trans a3.symm,h1.hq.trans a5.symm,trivial⟩,trivial⟩,trivial⟩
 ·have hc:¬ (g0 x).2=0:=by assumption
  obtain ⟨a1,a2,a3,a4,a5⟩:=hs.no (by rw[hg0];exact hc)
  refine RET.mk ⟨[some 0,some 1,some 2,none,some 4,some 5,some 6,some 3],[],?_⟩;rw[SIM_iff];cbv
  exact ⟨⟨⟨a1.symm,a2.symm,trivial⟩,⟨a4.symm,trivial⟩,⟨a3.symm,a5.symm,trivial⟩,trivial⟩,trivial⟩
theorem cSe1 (x y:SD) (t wx wy:Int) (Fa:List Int) (na ua:Int) (Na la:Nat) (qa:List tPar.den) (Fb:List Int) (nb ub:Int) (Nb lb:Nat) (qb:List tPar.den) (nb' ub':Int) (Nb' lb':Nat) (qb':List tPar.den) (hs:SNT y Fb nb ub Nb lb qb t nb' ub' Nb' lb' qb') (hp:SENDK Fb ub Nb lb qb):FnS Try.prog 48 ([.ptr 0 10]) (stR x y t wx wy Fa na ua Na la qa Fb nb ub Nb lb qb ) fun x_ s_=>x_=(.tup [])∧s_=(stRb x y t wx wy Fa na ua Na la qa Fb nb' ub' Nb' lb' qb'):=by
 refine FnS.of (S:=[(15,_)]) (T:=[(57,_)]) (U:=[]) (tbl:=[]) (n:=24) hm33 cfg (.cons (spT1.ok (a:=(.pair (.int .i64) (.pair (.int .i64) (.pair (.int .u8) (.pair (.int .i64) (.pair (.int .u8) (.int .i64))))))) (pre:=fun _=>True) fun x0 _=>c15 x0.1 x0.2.1 x0.2.2.1 x0.2.2.2.1 x0.2.2.2.2.1 x0.2.2.2.2.2) .nil) (.cons cSendR .nil) .nil .nil 0 Try.call48 Try.func48 (ac48_ok (some (7,0))) (by rw[Try.ntmps48];exact Nat.le_refl _) rfl _ _ _ (by rfl) ?_
 intro cmp ar cv tn ic ai mx an ad ml sb mn ln em gt up ap sc vw cp rp p1 p2 s1 s2 X Y hX hY r0 r1 r2 r3 r4 r5 r6 r7 r8 r9 r10 r11 r12 r13 r14 r15 r16 r17 r18 r19 r20 r21 r22 r23 r24
 generalize hg0:sayM=g0
 cbv
 repeat' (first | exact True.intro | refine And.intro ?_ ?_ | (refine BR.nn r0 ?_) | (refine BR.lss r0 ?_ ?_ <;> intro _) | (refine BR.neq r0 ?_ ?_ <;> intro _) | (refine BR.eql r0 ?_ ?_ <;> intro _) | (refine BR.leq r0 ?_ ?_ <;> intro _) | (refine BR.gtr r0 ?_ ?_ <;> intro _) | (refine BR.geq r0 ?_ ?_ <;> intro _) | (refine BR.mk ?_ ?_ <;> intro _) | (refine CASE.mk ?_;intro _))
 ·refine SENT.mk hp ?_
  intro e1 now1 s1 N1 n1 q1 h1
  have hc:(g0 y).2=0:=by assumption
  obtain ⟨a1,a2,a3,a4,a5⟩:=hs.yes (by rw[hg0];exact hc)
  rw[hg0]at a1 a2 a3 a4 a5
  have h1:SENTR Fb nb ub Nb lb qb t (g0 y).1 e1 now1 s1 N1 n1 q1:=h1
  cbv
  refine RET.mk ⟨[some 0,some 1,some 2,some 3,some 4,some 5,none,some 8],[],?_⟩;rw[SIM_iff];cbv
  exact ⟨⟨⟨h1.hnow.trans a1.symm,h1.hsent.trans a2.symm,trivial⟩,⟨h1.hn.trans a4.symm,trivial⟩,⟨h1.hN.trans a3.symm,h1.hq.trans a5.symm,trivial⟩,trivial⟩,trivial⟩
 ·have hc:¬ (g0 y).2=0:=by assumption
  obtain ⟨a1,a2,a3,a4,a5⟩:=hs.no (by rw[hg0];exact hc)
  refine RET.mk ⟨[some 0,some 1,some 2,some 3,some 4,some 5,none,some 6],[],?_⟩;rw[SIM_iff];cbv
  exact ⟨⟨⟨a1.symm,a2.symm,trivial⟩,⟨a4.symm,trivial⟩,⟨a3.symm,a5.symm,trivial⟩,trivial⟩,trivial⟩
def stRG (x y:SD) (t wx wy:Int) (Fa:List Int) (na ua:Int) (Na la:Nat) (qa:List tPar.den) (Fb:List Int) (nb ub:Int) (Nb lb:Nat) (qb:List tPar.den) (g:List (Nat×Nat)):StS:=
 ⟨[bBoth x y t wx wy,bLink Fa na ua 2,bWay 3 la,bArr Na qa,bLink Fb nb ub 5,bWay 6 lb,bArr Nb qb],g⟩
def recvM:SD→List tChoice.den→SD
 | x,[]=>x
 | x,c :: l=>recvM (shearM x c).1 l
theorem recv_step {x:SD} {o:List tChoice.den} {i:Int} (h:0≤i) (k:i<o.length):recvM x (o.drop i.toNat)=recvM (shearM x (gtR tChoice o i)).1 (o.drop (i+1).toNat):=by
 rw[gtR_drop (t:=tChoice) h k];rfl
theorem cRe0 (x y:SD) (t wx wy:Int) (Fa:List Int) (na ua:Int) (Na la:Nat) (qa:List tPar.den) (Fb:List Int) (nb ub:Int) (Nb lb:Nat) (qb:List tPar.den) (n1:Nat) (q1:List tPar.den) (o:List tChoice.den) (hn:n1=hearN t lb qb) (hq:q1=hearQ t lb qb) (ho:o=hearO t lb qb) (hp:HEARK nb t Nb lb qb) (hol:o.length≤64):FnS Try.prog 49 ([.ptr 0 0]) (stR x y t wx wy Fa na ua Na la qa Fb nb ub Nb lb qb ) fun x_ s_=>x_=(.tup [])∧s_=(stR (recvM x o) y t wx wy Fa na ua Na la qa Fb t ub Nb n1 q1):=by
 refine FnS.of (S:=[(13,_)]) (T:=[(58,_)]) (U:=[]) (tbl:=[]) (n:=37) hm33 cfg (.cons (spT2.ok (a:=(.pair (.int .i64) (.pair (.int .i64) (.pair (.int .u8) (.pair (.int .i64) (.pair (.int .u8) (.int .i64))))))) (b:=(.pair (.int .i64) (.pair (.int .i64) (.pair (.int .u8) (.int .i64))))) (pre:=fun _ _=>True) fun x0 x1 _=>c13 x0.1 x0.2.1 x0.2.2.1 x0.2.2.2.1 x0.2.2.2.2.1 x0.2.2.2.2.2 x1.1 x1.2.1 x1.2.2.1 x1.2.2.2) .nil) (.cons cHearR .nil) .nil .nil 0 Try.call49 Try.func49 (ac49_ok (some (7,0))) (by rw[Try.ntmps49];exact Nat.le_refl _) rfl _ _ _ (by rfl) ?_
 intro cmp ar cv tn ic ai mx an ad ml sb mn ln em gt up ap sc vw cp rp p1 p2 s1 s2 X Y hX hY r0 r1 r2 r3 r4 r5 r6 r7 r8 r9 r10 r11 r12 r13 r14 r15 r16 r17 r18 r19 r20 r21 r22 r23 r24
 generalize hg0:shearM=g0
 generalize hg1:recvM=g1
 cbv
 refine HEAR.mk hp ?_
 intro n2 q2 o2 hn2 hq2 ho2
 obtain rfl:=hn2.trans hn.symm
 obtain rfl:=hq2.trans hq.symm
 obtain rfl:=ho2.trans ho.symm
 cbv
 refine LOOP.ind (σ:=SD×Int) (fun (z,i)=>[(0,.ptr 0 0),(18,.og 0 tChoice o2),(19,.p (iv (ic (ln tChoice o2)))),(20,.p (iv i))]) (fun (z,i)=>stRG z y t wx wy Fa na ua Na la qa Fb t ub Nb n2 q2 [(ml (ln tChoice o2) 4,25)]) (fun (z,i)=>(o2.length - i).toNat)
   (fun (z,i)=>0≤i∧i≤o2.length∧recvM z (o2.drop i.toNat)=recvM x o2) (x,0) (by simp) (.inr ⟨[some 0,some 1,some 2,some 3,some 4,some 5,some 6],[some 0],?_⟩) ?_
 · rw[SIM_iff];cbv
   repeat' (first | exact True.intro | apply And.intro | rfl)
 intro ⟨z,i⟩ hI X' hX
 dsimp only at hI
 obtain ⟨i2,hi2⟩:∃ j,j=ar .add .i64 i 1:=⟨_,rfl⟩
 have hx2:(0≤i∧i<(o2.length:Int))→i2=i+1:=fun h=>by rw[hi2,r1];exact wrap64 (n:=i+1) (by omega) (by omega)
 have hln:ic (ln tChoice o2)=o2.length:=by rw[r4,r12]
 have hst:=recv_step (x:=z) (o:=o2) (i:=i)
 cbv
 simp only[nc_eq]at *
 rw[←hi2]
 repeat' (first | exact True.intro | refine And.intro ?_ ?_ | (refine BR.nn r0 ?_) | (refine BR.lss r0 ?_ ?_ <;> intro _) | (refine BR.neq r0 ?_ ?_ <;> intro _) | (refine BR.eql r0 ?_ ?_ <;> intro _) | (refine BR.leq r0 ?_ ?_ <;> intro _) | (refine BR.gtr r0 ?_ ?_ <;> intro _) | (refine BR.geq r0 ?_ ?_ <;> intro _) | (refine BR.mk ?_ ?_ <;> intro _) | (refine CASE.mk ?_;intro _))
 · exact ⟨hI.1,by assumption⟩
 · exact ⟨hI.1,by assumption⟩
 · have hlt : i < (o2.length : Int) := by have : i < ic (ln tChoice o2) := by assumption
                                          omega
   refine NEXT.mk (hX ((g0 z (gt tChoice o2 i)).1,i2) _ _ ?_ ?_ (.inr ⟨[some 0,some 1,some 2,some 3,some 4,some 5,some 6],[some 0],?_⟩))
   · have h2:=hx2 ⟨hI.1,hlt⟩
     have h3:=hst hI.1 hlt
     refine ⟨by show 0≤i2;omega,by show i2≤_;omega,?_⟩
     show recvM (g0 z (gt tChoice o2 i)).1 (List.drop i2.toNat o2)=_
     rw[←hI.2.2,h3,h2,r14,←hg0]
   · have h2:=hx2 ⟨hI.1,hlt⟩
     show ((o2.length:Int) - i2).toNat<((o2.length:Int) - i).toNat
     omega
   · rw[SIM_iff];cbv
     simp only[r21,r22]
     repeat' (first | exact True.intro | apply And.intro | rfl)
 · have hge : ¬ i < (o2.length : Int) := by have : ¬ i < ic (ln tChoice o2) := by assumption
                                            omega
   have hz:z=recvM x o2:=by
     have:=hI.2.2
     rw[List.drop_eq_nil_of_le (by omega)]at this
     exact this
   refine RET.mk ⟨[some 0,some 1,some 2,some 3,some 4,some 5,some 6],[],?_⟩;rw[SIM_iff];cbv
   rw[←hg1,←hz]
   repeat' (first | exact True.intro | apply And.intro | rfl)
theorem cRe1 (x y:SD) (t wx wy:Int) (Fa:List Int) (na ua:Int) (Na la:Nat) (qa:List tPar.den) (Fb:List Int) (nb ub:Int) (Nb lb:Nat) (qb:List tPar.den) (n1:Nat) (q1:List tPar.den) (o:List tChoice.den) (hn:n1=hearN t la qa) (hq:q1=hearQ t la qa) (ho:o=hearO t la qa) (hp:HEARK na t Na la qa) (hol:o.length≤64):FnS Try.prog 49 ([.ptr 0 10]) (stR x y t wx wy Fa na ua Na la qa Fb nb ub Nb lb qb ) fun x_ s_=>x_=(.tup [])∧s_=(stR x (recvM y o) t wx wy Fa t ua Na n1 q1 Fb nb ub Nb lb qb):=by
 refine FnS.of (S:=[(13,_)]) (T:=[(58,_)]) (U:=[]) (tbl:=[]) (n:=37) hm33 cfg (.cons (spT2.ok (a:=(.pair (.int .i64) (.pair (.int .i64) (.pair (.int .u8) (.pair (.int .i64) (.pair (.int .u8) (.int .i64))))))) (b:=(.pair (.int .i64) (.pair (.int .i64) (.pair (.int .u8) (.int .i64))))) (pre:=fun _ _=>True) fun x0 x1 _=>c13 x0.1 x0.2.1 x0.2.2.1 x0.2.2.2.1 x0.2.2.2.2.1 x0.2.2.2.2.2 x1.1 x1.2.1 x1.2.2.1 x1.2.2.2) .nil) (.cons cHearR .nil) .nil .nil 0 Try.call49 Try.func49 (ac49_ok (some (7,0))) (by rw[Try.ntmps49];exact Nat.le_refl _) rfl _ _ _ (by rfl) ?_
 intro cmp ar cv tn ic ai mx an ad ml sb mn ln em gt up ap sc vw cp rp p1 p2 s1 s2 X Y hX hY r0 r1 r2 r3 r4 r5 r6 r7 r8 r9 r10 r11 r12 r13 r14 r15 r16 r17 r18 r19 r20 r21 r22 r23 r24
 generalize hg0:shearM=g0
 generalize hg1:recvM=g1
 cbv
 refine HEAR.mk hp ?_
 intro n2 q2 o2 hn2 hq2 ho2
 obtain rfl:=hn2.trans hn.symm
 obtain rfl:=hq2.trans hq.symm
 obtain rfl:=ho2.trans ho.symm
 cbv
 refine LOOP.ind (σ:=SD×Int) (fun (z,i)=>[(0,.ptr 0 10),(18,.og 0 tChoice o2),(19,.p (iv (ic (ln tChoice o2)))),(20,.p (iv i))]) (fun (z,i)=>stRG x z t wx wy Fa t ua Na n2 q2 Fb nb ub Nb lb qb [(ml (ln tChoice o2) 4,25)]) (fun (z,i)=>(o2.length - i).toNat)
   (fun (z,i)=>0≤i∧i≤o2.length∧recvM z (o2.drop i.toNat)=recvM y o2) (y,0) (by simp) (.inr ⟨[some 0,some 1,some 2,some 3,some 4,some 5,some 6],[some 0],?_⟩) ?_
 · rw[SIM_iff];cbv
   repeat' (first | exact True.intro | apply And.intro | rfl)
 intro ⟨z,i⟩ hI X' hX
 dsimp only at hI
 obtain ⟨i2,hi2⟩:∃ j,j=ar .add .i64 i 1:=⟨_,rfl⟩
 have hx2:(0≤i∧i<(o2.length:Int))→i2=i+1:=fun h=>by rw[hi2,r1];exact wrap64 (n:=i+1) (by omega) (by omega)
 have hln:ic (ln tChoice o2)=o2.length:=by rw[r4,r12]
 have hst:=recv_step (x:=z) (o:=o2) (i:=i)
 cbv
 simp only[nc_eq]at *
 rw[←hi2]
 repeat' (first | exact True.intro | refine And.intro ?_ ?_ | (refine BR.nn r0 ?_) | (refine BR.lss r0 ?_ ?_ <;> intro _) | (refine BR.neq r0 ?_ ?_ <;> intro _) | (refine BR.eql r0 ?_ ?_ <;> intro _) | (refine BR.leq r0 ?_ ?_ <;> intro _) | (refine BR.gtr r0 ?_ ?_ <;> intro _) | (refine BR.geq r0 ?_ ?_ <;> intro _) | (refine BR.mk ?_ ?_ <;> intro _) | (refine CASE.mk ?_;intro _))
 · exact ⟨hI.1,by assumption⟩
 · exact ⟨hI.1,by assumption⟩
 · have hlt : i < (o2.length : Int) := by have : i < ic (ln tChoice o2) := by assumption
                                          omega
   refine NEXT.mk (hX ((g0 z (gt tChoice o2 i)).1,i2) _ _ ?_ ?_ (.inr ⟨[some 0,some 1,some 2,some 3,some 4,some 5,some 6],[some 0],?_⟩))
   · have h2:=hx2 ⟨hI.1,hlt⟩
     have h3:=hst hI.1 hlt
     refine ⟨by show 0≤i2;omega,by show i2≤_;omega,?_⟩
     show recvM (g0 z (gt tChoice o2 i)).1 (List.drop i2.toNat o2)=_
     rw[←hI.2.2,h3,h2,r14,←hg0]
   · have h2:=hx2 ⟨hI.1,hlt⟩
     show ((o2.length:Int) - i2).toNat<((o2.length:Int) - i).toNat
     omega
   · rw[SIM_iff];cbv
     simp only[r21,r22]
     repeat' (first | exact True.intro | apply And.intro | rfl)
 · have hge : ¬ i < (o2.length : Int) := by have : ¬ i < ic (ln tChoice o2) := by assumption
                                            omega
   have hz:z=recvM y o2:=by
     have:=hI.2.2
     rw[List.drop_eq_nil_of_le (by omega)]at this
     exact this
   refine RET.mk ⟨[some 0,some 1,some 2,some 3,some 4,some 5,some 6],[],?_⟩;rw[SIM_iff];cbv
   rw[←hg1,←hz]
   repeat' (first | exact True.intro | apply And.intro | rfl)
end Go.Ab
