/- The greater one of two costs. -/
import Derived.Test.YtlmdgmppeacobaaGreatLy
set_option linter.unusedSimpArgs false
set_option linter.unusedVariables false
set_option maxRecDepth 20000
set_option maxHeartbeats 4000000
namespace Go.Ab
open Go.Proofs
theorem cCompare (s:Bool) (na:Option Bool) (a:List Int) (nb:Option Bool) (b:List Int) (s':Bool) (nc:Option Bool) (c:List Int) (nd:Option Bool) (d:List Int) (h:CK2 a b c d):PurS Tryz.prog 45 [injT tR (s,(na,a),(nb,b)),injT tR (s',(nc,c),(nd,d))] (.p (iv (cmR s a b s' c d))):=by
 refine PurS.of (S:=[(32,_)]) (T:=[]) (U:=[]) (tbl:=[]) (n:=14) hm31 cfg (.cons (spT2.ok (a:=(.pair .bool (.pair (.sl (.int .u32)) (.sl (.int .u32))))) (b:=(.pair .bool (.pair (.sl (.int .u32)) (.sl (.int .u32))))) fun x0 x1 h=>cRCmp x0.1 x0.2.1.1 x0.2.1.2 x0.2.2.1 x0.2.2.2 x1.1 x1.2.1.1 x1.2.1.2 x1.2.2.1 x1.2.2.2 h) .nil) .nil .nil .nil 0 Tryz.call45 Tryz.func45 (ac45_ok (some (0,0))) (by rw[Tryz.ntmps45];exact Nat.le_refl _) rfl ⟨_,rfl⟩ ?_
 intro cmp ar cv tn ic ai mx an ad ml sb mn ln em gt up ap sc vw cp rp p1 p2 s1 s2 X Y hX hY r0 r1 r2 r3 r4 r5 r6 r7 r8 r9 r10 r11 r12 r13 r14 r15 r16 r17 r18 r19 r20 r21 r22 r23 r24
 generalize hg0:cmR=g0
 generalize hg1:cmE=g1
 cbv
 dsimp only
 exact ⟨h,rfl⟩
def grT (x y:RT):RT:=if cmR x.1 x.2.1.2 x.2.2.2 y.1 y.2.1.2 y.2.2.2<0 then y else x
theorem cGreater (s:Bool) (na:Option Bool) (a:List Int) (nb:Option Bool) (b:List Int) (s':Bool) (nc:Option Bool) (c:List Int) (nd:Option Bool) (d:List Int) (T:RT) (hT:T=grT (s,(na,a),(nb,b)) (s',(nc,c),(nd,d))) (h:CK2 a b c d):PurS Tryz.prog 42 [injT tR (s,(na,a),(nb,b)),injT tR (s',(nc,c),(nd,d))] (.tup [.agg [.sb T.1,.tl none tW T.2.1.2,.tl none tW T.2.2.2],.p (iv 0)]):=by
 refine PurS.of (S:=[(45,_)]) (T:=[]) (U:=[]) (tbl:=[]) (n:=12) hm31 cfg (.cons (spT2.ok (a:=(.pair .bool (.pair (.sl (.int .u32)) (.sl (.int .u32))))) (b:=(.pair .bool (.pair (.sl (.int .u32)) (.sl (.int .u32))))) fun x0 x1 h=>cCompare x0.1 x0.2.1.1 x0.2.1.2 x0.2.2.1 x0.2.2.2 x1.1 x1.2.1.1 x1.2.1.2 x1.2.2.1 x1.2.2.2 h) .nil) .nil .nil .nil 0 Tryz.call42 Tryz.func42 (ac42_ok (some (0,0))) (by rw[Tryz.ntmps42];exact Nat.le_refl _) rfl ⟨_,rfl⟩ ?_
 intro cmp ar cv tn ic ai mx an ad ml sb mn ln em gt up ap sc vw cp rp p1 p2 s1 s2 X Y hX hY r0 r1 r2 r3 r4 r5 r6 r7 r8 r9 r10 r11 r12 r13 r14 r15 r16 r17 r18 r19 r20 r21 r22 r23 r24
 generalize hg0:cmR=g0
 cbv
 have e:T=if g0 s a b s' c d<0 then (s',(nc,c),(nd,d)) else (s,(na,a),(nb,b)):=by rw[hT,←hg0];rfl
 have hn:∀ o,nlLe o none:=fun o=>nlLe_none.2 trivial
 try dsimp only
 refine ⟨h,BR.lss r0 (fun h1=>?_) (fun h1=>?_)⟩
 ·rw[if_pos h1]at e;rw[e]
  exact ⟨⟨rfl,⟨hn _,rfl⟩,⟨hn _,rfl⟩,trivial⟩,trivial⟩
 ·rw[if_neg h1]at e;rw[e]
  exact ⟨⟨rfl,⟨hn _,rfl⟩,⟨hn _,rfl⟩,trivial⟩,trivial⟩
def grS (s:Bool) (a b:List Int) (s':Bool) (c d:List Int):Bool:=if cmR s a b s' c d<0 then s' else s
def grN (s:Bool) (a b:List Int) (s':Bool) (c d:List Int):List Int:=if cmR s a b s' c d<0 then c else a
def grD (s:Bool) (a b:List Int) (s':Bool) (c d:List Int):List Int:=if cmR s a b s' c d<0 then d else b
theorem cGreater1 (s:Bool) (na:Option Bool) (a:List Int) (nb:Option Bool) (b:List Int) (s':Bool) (nc:Option Bool) (c:List Int) (nd:Option Bool) (d:List Int) (h:CK2 a b c d):PurS Tryz.prog 42 [injT tR (s,(na,a),(nb,b)),injT tR (s',(nc,c),(nd,d))] (.tup [.agg [.sb (grS s a b s' c d),.tl none tW (grN s a b s' c d),.tl none tW (grD s a b s' c d)],.p (iv 0)]):=by
 have h1:=cGreater s na a nb b s' nc c nd d _ rfl h
 have e:(grT (s,(na,a),(nb,b)) (s',(nc,c),(nd,d))).1=grS s a b s' c d∧(grT (s,(na,a),(nb,b)) (s',(nc,c),(nd,d))).2.1.2=grN s a b s' c d∧(grT (s,(na,a),(nb,b)) (s',(nc,c),(nd,d))).2.2.2=grD s a b s' c d:=by
  unfold grT grS grN grD
  dsimp only
  split <;> exact ⟨rfl,rfl,rfl⟩
 rw[e.1,e.2.1,e.2.2]at h1;exact h1
def mxT:RT→List RT→RT
 | x,[]=>x
 | x,y :: l=>mxT (grS x.1 x.2.1.2 x.2.2.2 y.1 y.2.1.2 y.2.2.2,(none,grN x.1 x.2.1.2 x.2.2.2 y.1 y.2.1.2 y.2.2.2),(none,grD x.1 x.2.1.2 x.2.2.2 y.1 y.2.1.2 y.2.2.2)) l
theorem cFoldG (s:Bool) (na:Option Bool) (a:List Int) (nb:Option Bool) (b:List Int) (nl:Option Bool) (l:List RT) (x T:RT) (hx:x=(s,(na,a),(nb,b))) (hT:T=mxT x l) (h:FP x l):PurS Tryz.prog 71 [.fn (.func 42) [] [],injT tR (s,(na,a),(nb,b)),injT tRs (nl,l)] (.tup [.agg [.sb T.1,.tl none tW T.2.1.2,.tl none tW T.2.2.2],.p (iv 0)]):=by
 refine PurS.of (S:=[(42,_)]) (T:=[]) (U:=[]) (tbl:=[]) (n:=33) hm31 cfg (.cons (spT2.ok (a:=(.pair .bool (.pair (.sl (.int .u32)) (.sl (.int .u32))))) (b:=(.pair .bool (.pair (.sl (.int .u32)) (.sl (.int .u32))))) fun x0 x1 h=>cGreater1 x0.1 x0.2.1.1 x0.2.1.2 x0.2.2.1 x0.2.2.2 x1.1 x1.2.1.1 x1.2.1.2 x1.2.2.1 x1.2.2.2 h) .nil) .nil .nil .nil 0 Tryz.call71 Tryz.func71 (ac71_ok (some (0,0))) (by rw[Tryz.ntmps71];exact Nat.le_refl _) rfl ⟨_,rfl⟩ ?_
 intro cmp ar cv tn ic ai mx an ad ml sb mn ln em gt up ap sc vw cp rp p1 p2 s1 s2 X Y hX hY r0 r1 r2 r3 r4 r5 r6 r7 r8 r9 r10 r11 r12 r13 r14 r15 r16 r17 r18 r19 r20 r21 r22 r23 r24
 generalize hg0:grS=g0
 generalize hg1:grN=g1
 generalize hg2:grD=g2
 cbv
 have hn:=h.n
 obtain ⟨N,hN⟩:∃ N:Int,N=l.length:=⟨_,rfl⟩
 have hll:ic (ln tR l)=N:=by rw[r4,r12,hN]
 rw[hll]
 refine LOOP.ind (σ:=(Bool×Option Bool×List Int×Option Bool×List Int)×Int) (fun (_,i)=>[(0,.fn (.func 42) [] []),(4,.ptr 0 0),(6,.ptr 1 0),(13,.tl nl tR l),(14,.p (iv N)),(15,.p (iv i))])
  (fun ((s,na,a,nb,b),i)=>⟨[{ cells:=[.sb s,.tl na tW a,.tl nb tW b],e:=49,fz:=false },{ cells:=[.p (.v (.bool false)),.p (.sl (some true) 0 []),.p (.sl (some true) 0 [])],e:=49,fz:=false }],[]⟩)
  (fun (_,i)=>(N - i).toNat) (fun ((s,na,a,nb,b),i)=>0≤i∧i≤N∧CKP a b∧mxT (s,(na,a),(nb,b)) (l.drop i.toNat)=T)
  ((s,na,a,nb,b),0) ⟨by omega,by omega,by have:=h.x;rw[hx]at this;exact this,by rw[hT,hx];rfl⟩ (.inl ⟨rfl,rfl⟩) ?_
 clear hx hT
 intro ⟨⟨s,na,a,nb,b⟩,i⟩ ⟨i0,i1,hc,h2⟩ X' hX
 obtain ⟨y,hy⟩:∃ y:RT,y=gt tR l i:=⟨_,rfl⟩
 have hy':y=gtR tR l i:=by rw[hy,r14]
 have hst:i<l.length→l.drop i.toNat=y :: l.drop (i+1).toNat:=fun h1=>by rw[gtR_drop (t:=tR) i0 h1,hy']
 have hse:¬ i<l.length→l.drop i.toNat=[]:=fun h1=>by rw[gtR_end h1]
 have hck:i<l.length→CKP y.2.1.2 y.2.2.2:=fun h1=>by rw[hy'];exact h.h.ckp i0 h1
 have hi1:i<l.length→ar .add .i64 i 1=i+1:=fun h1=>by rw[r1];exact wrap64 (n:=i+1) (by omega) (by omega)
 clear hy'
 obtain ⟨s',⟨nc,c⟩,⟨nd,d⟩⟩:=y
 have b3:cmp .neq 0 0=false:=by rw[r0];rfl
 cbv
 try simp only[nc_eq]at *
 rw[hll,←hy]
 simp only[r21,r22,r23,r24]
 rw[b3,BR_false]
 have q0:g0 s a b s' c d=grS s a b s' c d:=by rw[←hg0]
 have q1:g1 s a b s' c d=grN s a b s' c d:=by rw[←hg1]
 have q2:g2 s a b s' c d=grD s a b s' c d:=by rw[←hg2]
 refine BR.lss r0 (fun h1=>?_) (fun h1=>?_)
 ·have h1':i<l.length:=by omega
  have hI:INB i N:=⟨i0,h1⟩
  have e2:mxT (s,(na,a),(nb,b)) (l.drop i.toNat)=mxT (g0 s a b s' c d,(none,g1 s a b s' c d),(none,g2 s a b s' c d)) (l.drop (i+1).toNat):=by rw[hst h1',q0,q1,q2];rfl
  rw[e2]at h2
  rw[hi1 h1']
  have hck':=hck h1'
  have hck2:CKP (g1 s a b s' c d) (g2 s a b s' c d):=by
   rw[q1,q2];unfold grN grD;split
   ·exact hck'
   ·exact hc
  refine ⟨hI,hI,⟨hc,hck'⟩,NEXT.mk (hX ((g0 s a b s' c d,none,g1 s a b s' c d,none,g2 s a b s' c d),i+1) _ _ ⟨by show (0:Int)≤i+1;omega,by show i+1≤N;omega,hck2,h2⟩ (by show (N - (i+1)).toNat<(N - i).toNat;omega) (.inr ⟨[some 0,some 1],[],?_⟩))⟩
  rw[SIM_iff];cbv;try simp[nlLe_self]
 ·rw[hse (by omega)]at h2
  have h2':(s,(na,a),(nb,b))=T:=h2
  rw[←h2']
  exact ⟨⟨rfl,⟨nlLe_none.2 trivial,rfl⟩,⟨nlLe_none.2 trivial,rfl⟩,trivial⟩,trivial⟩
end Go.Ab
namespace Go.Ab
open Go.Proofs
variable {P:Program} {f:FuncId}
def spFn2 (k:Nat) (a b:Ty) (pre:a.den→b.den→Prop) (r:a.den→b.den→DC):List DC→(DC→Prop)→Prop
 | [.fn (.func k') [] [],x,y],K=>k'=k∧(match getT a x,getT b y with | some x,some y=>pre x y∧K (r x y) | _,_=>False)
 | _,_=>False
theorem spFn2.ok {k:Nat} {a b:Ty} {pre:a.den→b.den→Prop} {r:a.den→b.den→DC} (h:∀ x y,pre x y→PurS P f [.fn (.func k) [] [],injT a x,injT b y] (r x y)):∀ xs K,spFn2 k a b pre r xs K→∃ x,PurS P f xs x∧K x:=fun xs K hs=>by
 unfold spFn2 at hs
 split at hs
 ·obtain ⟨rfl,hs⟩:=hs
  split at hs
  ·rename_i h1 h2
   exact ⟨_,(h _ _ hs.1).cong (by simp only[concL,getT_conc h1,getT_conc h2]),hs.2⟩
  ·exact hs.elim
 ·exact hs.elim
def spFnL (k:Nat) (a:Ty) (pre:a.den→Prop) (r:a.den→DC):List DC→(DC→Prop)→Prop
 | [x,.fn (.func k') [] []],K=>k'=k∧(match getT a x with | some x=>pre x∧K (r x) | _=>False)
 | _,_=>False
theorem spFnL.ok {k:Nat} {a:Ty} {pre:a.den→Prop} {r:a.den→DC} (h:∀ x,pre x→PurS P f [injT a x,.fn (.func k) [] []] (r x)):∀ xs K,spFnL k a pre r xs K→∃ x,PurS P f xs x∧K x:=fun xs K hs=>by
 unfold spFnL at hs
 split at hs
 ·obtain ⟨rfl,hs⟩:=hs
  split at hs
  ·rename_i h1
   exact ⟨_,(h _ hs.1).cong (by simp only[concL,getT_conc h1]),hs.2⟩
  ·exact hs.elim
 ·exact hs.elim
theorem fFoldA (x:RT) (l:RS) (h:FP x l.2):PurS Tryz.prog 71 [.fn (.func 41) [] [],injT tR x,injT tRs l] (.tup [.agg [.sb (fldT x l.2).1,.tl none tW (fldT x l.2).2.1.2,.tl none tW (fldT x l.2).2.2.2],.p (iv (fldE x l.2))]):=cFoldA x.1 x.2.1.1 x.2.1.2 x.2.2.1 x.2.2.2 l.1 l.2 x _ _ rfl rfl rfl h
theorem fFoldG (x:RT) (l:RS) (h:FP x l.2):PurS Tryz.prog 71 [.fn (.func 42) [] [],injT tR x,injT tRs l] (.tup [.agg [.sb (mxT x l.2).1,.tl none tW (mxT x l.2).2.1.2,.tl none tW (mxT x l.2).2.2.2],.p (iv 0)]):=cFoldG x.1 x.2.1.1 x.2.1.2 x.2.2.1 x.2.2.2 l.1 l.2 x _ rfl rfl h
end Go.Ab
namespace Go.Ab
open Go.Proofs
def cmF (l:List RS) (b:Int):RT:=fldT (gtR tR (colL l b) 0) ((colL l b).drop 1)
def cmG (l:List RS) (b:Int):Int:=fldE (gtR tR (colL l b) 0) ((colL l b).drop 1)
def cmE1 (l:List RS) (b:Int):Int:=if cmG l b=0 then addE (cmF l b) zT else cmG l b
def cmT1 (l:List RS) (b:Int):RT:=addT (cmF l b) zT
def cbE (l:List RS):Nat→Int→Int
 | 0,_=>0
 | n+1,i=>if cmE1 l i≠0 then cmE1 l i else cbE l n (i+1)
def cbL (l:List RS):Nat→Int→List RT
 | 0,_=>[]
 | n+1,i=>cmT1 l i :: cbL l n (i+1)
def sumE (l:List RS):Int:=if mchk l≠0 then mchk l else cbE l (row0 l).length 0
def sumL (l:List RS):List RT:=if sumE l=0 then cbL l (row0 l).length 0 else []
theorem add_ckp {x y:RT} (h:addE x y=0):CKP (addT x y).2.1.2 (addT x y).2.2.2:=by
 have hq:adN x.1 x.2.1.2 x.2.2.2 y.1 y.2.1.2 y.2.2.2=qN (adQ x.1 x.2.1.2 x.2.2.2 y.1 y.2.1.2 y.2.2.2)∧adD x.1 x.2.1.2 x.2.2.2 y.1 y.2.1.2 y.2.2.2=qD (adQ x.1 x.2.1.2 x.2.2.2 y.1 y.2.1.2 y.2.2.2):=by
  unfold addE at h
  unfold adN adD;rw[if_pos h,if_pos h];exact ⟨rfl,rfl⟩
 have hl:(qN (adQ x.1 x.2.1.2 x.2.2.2 y.1 y.2.1.2 y.2.2.2)).length≤128∧(qD (adQ x.1 x.2.1.2 x.2.2.2 y.1 y.2.1.2 y.2.2.2)).length≤128:=by
  unfold addE adE at h
  split at h
  ·rename_i h6;exact absurd h h6
  ·split at h
   ·exact absurd h (by decide)
   ·omega
 have hlb:LB (qD (adQ x.1 x.2.1.2 x.2.2.2 y.1 y.2.1.2 y.2.2.2)):=by unfold qD;split;exact .nil;exact LB_lm _
 show CKP (adN _ _ _ _ _ _) (adD _ _ _ _ _ _)
 rw[hq.1,hq.2];exact ⟨LB_lm _,hlb,by omega,by omega⟩
theorem fld_ckp:∀ {l:List RT} {x:RT},CKP x.2.1.2 x.2.2.2→fldE x l=0→CKP (fldT x l).2.1.2 (fldT x l).2.2.2
 | [],_,h,_=>h
 | y :: l,x,h,he=>by
  unfold fldE at he
  split at he
  ·rename_i h1;exact absurd he h1
  ·rename_i h1
   unfold fldT;rw[if_neg h1]
   exact fld_ckp (add_ckp (Classical.not_not.1 h1)) he
theorem sameL_len {n:Nat}:∀ {l:List RS},sameL n l=true→∀ r∈l,r.2.length=n
 | [],_,_,hr=>by cases hr
 | x :: l,h,r,hr=>by
  simp only[sameL,Bool.and_eq_true,decide_eq_true_eq]at h
  rcases List.mem_cons.1 hr with rfl | hr
  ·exact h.1
  ·exact sameL_len h.2 r hr
theorem mchk_ok {l:List RS} (h:mchk l=0):0<l.length∧l.length≤8∧(∀ r∈l,r.2.length=(row0 l).length)∧(row0 l).length≤6∧fe (cat l)=0:=by
 unfold mchk at h
 split at h
 ·exact absurd h (by decide)
 ·split at h
  ·exact absurd h (by decide)
  ·split at h
   ·exact absurd h (by decide)
   ·split at h
    ·exact absurd h (by decide)
    ·split at h
     ·rename_i h5;exact ⟨by omega,by omega,sameL_len h5,by omega,h⟩
     ·exact absurd h (by decide)
theorem col_sz {l:List RS} {b:Int} {m:Nat} (hl:∀ r∈l,SZ m r.2) (hb:0≤b) (hr:∀ r∈l,b<r.2.length):SZ m (colL l b):=by
 refine ⟨fun x hx=>?_⟩
 obtain ⟨r,hr1,rfl⟩:=List.mem_map.1 hx
 exact (hl r hr1).h _ (gtR_mem (t:=tR) hb (hr r hr1))
theorem cCombA (nl:Option Bool) (l:List RS) (h:MC l):PurS Tryz.prog 40 [injT (.sl tRs) (nl,l),.fn (.func 41) [] []] (.tup [.tl none tR (sumL l),.p (iv (sumE l))]):=by
 refine PurS.of (S:=[(43,_),(70,_),(41,_),(71,_)]) (T:=[]) (U:=[]) (tbl:=[]) (n:=53) hm31 cfg (.cons (spT1.ok (a:=(.sl (.sl (.pair .bool (.pair (.sl (.int .u32)) (.sl (.int .u32))))))) fun x0 h=>cMChk x0.1 x0.2 h) (.cons (spT2.ok (a:=(.sl (.sl (.pair .bool (.pair (.sl (.int .u32)) (.sl (.int .u32))))))) (b:=(.int .i64)) fun x0 x1 h=>cCol x0.1 x0.2 x1 h) (.cons (spT2.ok (a:=(.pair .bool (.pair (.sl (.int .u32)) (.sl (.int .u32))))) (b:=(.pair .bool (.pair (.sl (.int .u32)) (.sl (.int .u32))))) fun x0 x1 h=>cRAdd x0.1 x0.2.1.1 x0.2.1.2 x0.2.2.1 x0.2.2.2 x1.1 x1.2.1.1 x1.2.1.2 x1.2.2.1 x1.2.2.2 h) (.cons (spFn2.ok fFoldA) .nil)))) .nil .nil .nil 0 Tryz.call40 Tryz.func40 (ac40_ok (some (0,0))) (by rw[Tryz.ntmps40];exact Nat.le_refl _) rfl ⟨_,rfl⟩ ?_
 intro cmp ar cv tn ic ai mx an ad ml sb mn ln em gt up ap sc vw cp rp p1 p2 s1 s2 X Y hX hY r0 r1 r2 r3 r4 r5 r6 r7 r8 r9 r10 r11 r12 r13 r14 r15 r16 r17 r18 r19 r20 r21 r22 r23 r24
 generalize hg0:mchk=g0
 generalize hg1:colL=g1
 generalize hg2:adS=g2
 generalize hg3:adN=g3
 generalize hg4:adD=g4
 generalize hg5:adE=g5
 generalize hg6:fldT=g6
 generalize hg7:fldE=g7
 generalize hg8:sumL=g8
 generalize hg9:sumE=g9
 cbv
 have hll:ic (ln tRs l)=l.length:=by rw[r4,r12]
 dsimp only
 obtain ⟨M,hM⟩:∃ M,M=ic (ln tR (s2 tR (gt tRs l 0))):=⟨_,rfl⟩
 have hM':M=(row0 l).length:=by rw[hM,r4,r12,r24,r14];rfl
 have e9:g9 l=if mchk l≠0 then mchk l else cbE l (row0 l).length 0:=by rw[←hg9];rfl
 have e8:g8 l=if g9 l=0 then cbL l (row0 l).length 0 else []:=by rw[←hg8,←hg9];rfl
 have e0:g0 l=mchk l:=by rw[←hg0]
 rw[←hM,hll,e0]
 refine ⟨h,BR.neq r0 (fun h0=>?_) (fun h0=>?_)⟩
 ·rw[if_pos h0]at e9
  exact ⟨⟨nlLe_none.2 trivial,by rw[e8,e9,if_neg h0]⟩,e9.symm,trivial⟩
 rw[if_neg h0]at e9
 obtain ⟨k1,k2,k3,k4,k5⟩:=mchk_ok (Classical.not_not.1 h0)
 have hI0:INB 0 l.length:=⟨Int.le_refl _,by omega⟩
 refine ⟨hI0,hI0,?_⟩
 refine LOOP.ind (σ:=List RT×Int) (fun (O,i)=>[(0,.tl nl tRs l),(1,.fn (.func 41) [] []),(4,.og 0 tR O),(19,.p (iv M)),(20,.p (iv i))]) (fun (O,_)=>⟨[],[(ml (ln tR O) 3,49)]⟩) (fun (_,i)=>(M - i).toNat)
  (fun (O,i)=>0≤i∧i≤M∧O.length=i∧O ++ cbL l (M - i).toNat i=cbL l (row0 l).length 0∧cbE l (M - i).toNat i=g9 l) ([],0) ⟨by omega,by show (0:Int)≤M;omega,rfl,by show cbL l (M - 0).toNat 0=_;rw[show (M - 0).toNat=(row0 l).length by omega],by rw[e9,show (M - 0).toNat=(row0 l).length by omega]⟩ (.inr ⟨[],[none],?_⟩) ?_
 ·rw[SIM_iff];cbv;simp[nlLe_self,lstEq]
 intro ⟨O,i⟩ ⟨i0,i1,i2,i3,i4⟩ X' hX
 obtain ⟨C,hC⟩:∃ C,C=g1 l i:=⟨_,rfl⟩
 have hC':C=colL l i:=by rw[hC,←hg1]
 have hCl:C.length=l.length:=by rw[hC'];exact List.length_map ..
 have hcl:ic (ln tR C)=l.length:=by rw[r4,r12];show ((C.length:Nat):Int)=_;rw[hCl]
 obtain ⟨x,hx⟩:∃ x:RT,x=gt tR C 0:=⟨_,rfl⟩
 obtain ⟨D,hD⟩:∃ D,D=sc tR C 1 l.length:=⟨_,rfl⟩
 have hD':D=C.drop 1:=by rw[hD,r17];show (C.take (l.length:Int).toNat).drop 1=_;rw[List.take_of_length_le (by omega)]
 have hxx:x=gtR tR (colL l i) 0:=by rw[hx,r14,hC']
 have hDD:D=(colL l i).drop 1:=by rw[hD',hC']
 have hrow:i<M→∀ r∈l,i<r.2.length:=fun h1 r hr=>by rw[k3 r hr];omega
 have hcsz:i<M→SZ 2000 C:=fun h1=>by rw[hC'];exact col_sz (fun r hr=>(h.b.h r hr).2) i0 (hrow h1)
 have hfp:i<M→FP x D:=fun h1=>by
  have hs:=hcsz h1
  have hm:x∈C:=by rw[hxx,hC'];exact gtR_mem (t:=tR) (Int.le_refl _) (by rw[←hC',hCl];omega)
  obtain ⟨q1,q2,q3,q4⟩:=hs.h x hm
  exact ⟨⟨q1,q2,by omega,by omega⟩,by rw[hD',List.length_drop];omega,by rw[hD'];exact hs.drop 1⟩
 obtain ⟨F,hF⟩:∃ F,F=g6 x D:=⟨_,rfl⟩
 obtain ⟨G,hG⟩:∃ G,G=g7 x D:=⟨_,rfl⟩
 have hF':F=cmF l i:=by rw[hF,←hg6,hxx,hDD];rfl
 have hG':G=cmG l i:=by rw[hG,←hg7,hxx,hDD];rfl
 have hFck:i<M→G=0→CKP F.2.1.2 F.2.2.2:=fun h1 h2=>by
  rw[hF,←hg6];exact fld_ckp (hfp h1).x (by rw[←h2,hG,←hg7])
 have e5:g5 F.1 F.2.1.2 F.2.2.2 false [] []=addE F zT:=by rw[←hg5];rfl
 obtain ⟨A,hA⟩:∃ A,A=addE F zT:=⟨_,rfl⟩
 rw[←hA]at e5
 obtain ⟨T,hT⟩:∃ T:RT,T=(g2 F.1 F.2.1.2 F.2.2.2 false [] [],(none,g3 F.1 F.2.1.2 F.2.2.2 false [] []),(none,g4 F.1 F.2.1.2 F.2.2.2 false [] [])):=⟨_,rfl⟩
 have hT':T=cmT1 l i:=by rw[hT,←hg2,←hg3,←hg4];unfold cmT1;rw[←hF'];rfl
 have hE1:cmE1 l i=if G=0 then A else G:=by unfold cmE1;rw[←hF',←hG',←hA]
 have hsE:i<M→g9 l=if cmE1 l i≠0 then cmE1 l i else cbE l (M - (i+1)).toNat (i+1):=fun h1=>by
  rw[←i4,show (M - i).toNat=(M - (i+1)).toNat+1 by omega];rfl
 have hsL:i<M→cbL l (row0 l).length 0=(O ++ [T]) ++ cbL l (M - (i+1)).toNat (i+1):=fun h1=>by
  rw[←i3,show (M - i).toNat=(M - (i+1)).toNat+1 by omega,List.append_assoc,hT'];rfl
 have hi1:i<M→ar .add .i64 i 1=i+1:=fun h1=>by rw[r1];exact wrap64 (n:=i+1) (by omega) (by omega)
 have hap:ap tR O [T]=O ++ [T]:=by rw[r16]
 have hLIM:LIM (ad (ln tR O) (ln tR [T])) 56:=by
  rw[r8,r12];exact LIM_iff.2 ⟨by show (O.length+1)*56≤_;omega,by show O.length+1≤_;omega⟩
 have hEQ:EQN (ml (ln tR O) 3) (ml (ln tR O) 3):=⟨rfl⟩
 have hckz:CKP [] []:=⟨.nil,.nil,by decide,by decide⟩
 clear hF' hG' hT' hxx hDD
 obtain ⟨xs,⟨xn,xa⟩,⟨xm,xb⟩⟩:=x
 obtain ⟨Fs,⟨Fn,Fa⟩,⟨Fm,Fb⟩⟩:=F
 cbv
 try simp only[nc_eq]at *
 rw[←hC]
 simp only[r21,r22,r23,r24,hcl,←hx,←hD,←hF,←hG,e5,←hT,hap]
 refine BR.lss r0 (fun h1=>?_) (fun h1=>?_)
 ·have hI:INB 0 (l.length:Int):=⟨Int.le_refl _,by omega⟩
  have hsE':=hsE h1
  rw[hE1]at hsE'
  refine ⟨⟨i0,by omega,hrow h1⟩,hI,hI,⟨by omega,by omega,by omega⟩,hfp h1,BR.eql r0 (fun h2=>?_) (fun h2=>BR.neq r0 (fun h3=>?_) (fun h3=>absurd h2 (fun h4=>h3 h4)))⟩
  ·rw[if_pos h2]at hsE'
   refine ⟨⟨hFck h1 h2,hckz⟩,BR.neq r0 (fun h3=>?_) (fun h3=>?_)⟩
   ·rw[if_pos h3]at hsE'
    exact ⟨⟨nlLe_none.2 trivial,by rw[e8,hsE',if_neg h3]⟩,hsE'.symm,trivial⟩
   ·rw[if_neg h3]at hsE'
    rw[hi1 h1]
    refine ⟨hEQ,hLIM,NEXT.mk (hX (O ++ [T],i+1) _ _ ⟨by show (0:Int)≤i+1;omega,by show i+1≤M;omega,?_,(hsL h1).symm,hsE'.symm⟩ (by show (M - (i+1)).toNat<(M - i).toNat;omega) (.inr ⟨[],[some 0],?_⟩))⟩
    ·show ((O ++ [T]).length:Int)=i+1
     rw[List.length_append];show ((O.length+1:Nat):Int)=_;omega
    ·rw[SIM_iff];cbv;try simp[nlLe_self,lstEq]
  ·rw[if_neg h2,if_pos h3]at hsE'
   exact ⟨⟨nlLe_none.2 trivial,by rw[e8,hsE',if_neg h3]⟩,hsE'.symm,trivial⟩
 ·have h2:(M - i).toNat=0:=by omega
  rw[h2]at i3 i4
  have i4':0=g9 l:=i4
  have i3':O ++ []=cbL l (row0 l).length 0:=i3
  rw[List.append_nil]at i3'
  exact ⟨⟨nlLe_none.2 trivial,by rw[e8,←i4',if_pos rfl,←i3']⟩,i4',trivial⟩
end Go.Ab
namespace Go.Ab
open Go.Proofs
def mxF (l:List RS) (b:Int):RT:=mxT (gtR tR (colL l b) 0) ((colL l b).drop 1)
def wmE1 (l:List RS) (b:Int):Int:=addE (mxF l b) zT
def wmT1 (l:List RS) (b:Int):RT:=addT (mxF l b) zT
def wbE (l:List RS):Nat→Int→Int
 | 0,_=>0
 | n+1,i=>if wmE1 l i≠0 then wmE1 l i else wbE l n (i+1)
def wbL (l:List RS):Nat→Int→List RT
 | 0,_=>[]
 | n+1,i=>wmT1 l i :: wbL l n (i+1)
def worE (l:List RS):Int:=if mchk l≠0 then mchk l else wbE l (row0 l).length 0
def worL (l:List RS):List RT:=if worE l=0 then wbL l (row0 l).length 0 else []
theorem mx_ckp:∀ {l:List RT} {x:RT},CKP x.2.1.2 x.2.2.2→SZ 2000 l→CKP (mxT x l).2.1.2 (mxT x l).2.2.2
 | [],_,h,_=>h
 | y :: l,x,h,hz=>by
  unfold mxT
  have hy:=hz.h y List.mem_cons_self
  refine mx_ckp ?_ ⟨fun z hz2=>hz.h z (List.mem_cons_of_mem _ hz2)⟩
  show CKP (grN _ _ _ _ _ _) (grD _ _ _ _ _ _)
  unfold grN grD
  split
  ·exact ⟨hy.1,hy.2.1,by omega,by omega⟩
  ·exact h
theorem cCombG (nl:Option Bool) (l:List RS) (h:MC l):PurS Tryz.prog 40 [injT (.sl tRs) (nl,l),.fn (.func 42) [] []] (.tup [.tl none tR (worL l),.p (iv (worE l))]):=by
 refine PurS.of (S:=[(43,_),(70,_),(41,_),(71,_)]) (T:=[]) (U:=[]) (tbl:=[]) (n:=53) hm31 cfg (.cons (spT1.ok (a:=(.sl (.sl (.pair .bool (.pair (.sl (.int .u32)) (.sl (.int .u32))))))) fun x0 h=>cMChk x0.1 x0.2 h) (.cons (spT2.ok (a:=(.sl (.sl (.pair .bool (.pair (.sl (.int .u32)) (.sl (.int .u32))))))) (b:=(.int .i64)) fun x0 x1 h=>cCol x0.1 x0.2 x1 h) (.cons (spT2.ok (a:=(.pair .bool (.pair (.sl (.int .u32)) (.sl (.int .u32))))) (b:=(.pair .bool (.pair (.sl (.int .u32)) (.sl (.int .u32))))) fun x0 x1 h=>cRAdd x0.1 x0.2.1.1 x0.2.1.2 x0.2.2.1 x0.2.2.2 x1.1 x1.2.1.1 x1.2.1.2 x1.2.2.1 x1.2.2.2 h) (.cons (spFn2.ok fFoldG) .nil)))) .nil .nil .nil 0 Tryz.call40 Tryz.func40 (ac40_ok (some (0,0))) (by rw[Tryz.ntmps40];exact Nat.le_refl _) rfl ⟨_,rfl⟩ ?_
 intro cmp ar cv tn ic ai mx an ad ml sb mn ln em gt up ap sc vw cp rp p1 p2 s1 s2 X Y hX hY r0 r1 r2 r3 r4 r5 r6 r7 r8 r9 r10 r11 r12 r13 r14 r15 r16 r17 r18 r19 r20 r21 r22 r23 r24
 generalize hg0:mchk=g0
 generalize hg1:colL=g1
 generalize hg2:adS=g2
 generalize hg3:adN=g3
 generalize hg4:adD=g4
 generalize hg5:adE=g5
 generalize hg6:mxT=g6
 generalize hg7:worL=g7
 generalize hg8:worE=g8
 cbv
 have hll:ic (ln tRs l)=l.length:=by rw[r4,r12]
 dsimp only
 obtain ⟨M,hM⟩:∃ M,M=ic (ln tR (s2 tR (gt tRs l 0))):=⟨_,rfl⟩
 have hM':M=(row0 l).length:=by rw[hM,r4,r12,r24,r14];rfl
 have e9:g8 l=if mchk l≠0 then mchk l else wbE l (row0 l).length 0:=by rw[←hg8];rfl
 have e8:g7 l=if g8 l=0 then wbL l (row0 l).length 0 else []:=by rw[←hg7,←hg8];rfl
 have e0:g0 l=mchk l:=by rw[←hg0]
 rw[←hM,hll,e0]
 refine ⟨h,BR.neq r0 (fun h0=>?_) (fun h0=>?_)⟩
 ·rw[if_pos h0]at e9
  exact ⟨⟨nlLe_none.2 trivial,by rw[e8,e9,if_neg h0]⟩,e9.symm,trivial⟩
 rw[if_neg h0]at e9
 obtain ⟨k1,k2,k3,k4,k5⟩:=mchk_ok (Classical.not_not.1 h0)
 have hI0:INB 0 l.length:=⟨Int.le_refl _,by omega⟩
 refine ⟨hI0,hI0,?_⟩
 refine LOOP.ind (σ:=List RT×Int) (fun (O,i)=>[(0,.tl nl tRs l),(1,.fn (.func 42) [] []),(4,.og 0 tR O),(19,.p (iv M)),(20,.p (iv i))]) (fun (O,_)=>⟨[],[(ml (ln tR O) 3,49)]⟩) (fun (_,i)=>(M - i).toNat)
  (fun (O,i)=>0≤i∧i≤M∧O.length=i∧O ++ wbL l (M - i).toNat i=wbL l (row0 l).length 0∧wbE l (M - i).toNat i=g8 l) ([],0) ⟨by omega,by show (0:Int)≤M;omega,rfl,by show wbL l (M - 0).toNat 0=_;rw[show (M - 0).toNat=(row0 l).length by omega],by rw[e9,show (M - 0).toNat=(row0 l).length by omega]⟩ (.inr ⟨[],[none],?_⟩) ?_
 ·rw[SIM_iff];cbv;simp[nlLe_self,lstEq]
 intro ⟨O,i⟩ ⟨i0,i1,i2,i3,i4⟩ X' hX
 obtain ⟨C,hC⟩:∃ C,C=g1 l i:=⟨_,rfl⟩
 have hC':C=colL l i:=by rw[hC,←hg1]
 have hCl:C.length=l.length:=by rw[hC'];exact List.length_map ..
 have hcl:ic (ln tR C)=l.length:=by rw[r4,r12];show ((C.length:Nat):Int)=_;rw[hCl]
 obtain ⟨x,hx⟩:∃ x:RT,x=gt tR C 0:=⟨_,rfl⟩
 obtain ⟨D,hD⟩:∃ D,D=sc tR C 1 l.length:=⟨_,rfl⟩
 have hD':D=C.drop 1:=by rw[hD,r17];show (C.take (l.length:Int).toNat).drop 1=_;rw[List.take_of_length_le (by omega)]
 have hxx:x=gtR tR (colL l i) 0:=by rw[hx,r14,hC']
 have hDD:D=(colL l i).drop 1:=by rw[hD',hC']
 have hrow:i<M→∀ r∈l,i<r.2.length:=fun h1 r hr=>by rw[k3 r hr];omega
 have hcsz:i<M→SZ 2000 C:=fun h1=>by rw[hC'];exact col_sz (fun r hr=>(h.b.h r hr).2) i0 (hrow h1)
 have hfp:i<M→FP x D:=fun h1=>by
  have hs:=hcsz h1
  have hm:x∈C:=by rw[hxx,hC'];exact gtR_mem (t:=tR) (Int.le_refl _) (by rw[←hC',hCl];omega)
  obtain ⟨q1,q2,q3,q4⟩:=hs.h x hm
  exact ⟨⟨q1,q2,by omega,by omega⟩,by rw[hD',List.length_drop];omega,by rw[hD'];exact hs.drop 1⟩
 obtain ⟨F,hF⟩:∃ F,F=g6 x D:=⟨_,rfl⟩
 have hF':F=mxF l i:=by rw[hF,←hg6,hxx,hDD];rfl
 have hFck:i<M→CKP F.2.1.2 F.2.2.2:=fun h1=>by
  rw[hF,←hg6];exact mx_ckp (hfp h1).x (hfp h1).h
 have e5:g5 F.1 F.2.1.2 F.2.2.2 false [] []=addE F zT:=by rw[←hg5];rfl
 obtain ⟨A,hA⟩:∃ A,A=addE F zT:=⟨_,rfl⟩
 rw[←hA]at e5
 obtain ⟨T,hT⟩:∃ T:RT,T=(g2 F.1 F.2.1.2 F.2.2.2 false [] [],(none,g3 F.1 F.2.1.2 F.2.2.2 false [] []),(none,g4 F.1 F.2.1.2 F.2.2.2 false [] [])):=⟨_,rfl⟩
 have hT':T=wmT1 l i:=by rw[hT,←hg2,←hg3,←hg4];unfold wmT1;rw[←hF'];rfl
 have hE1:wmE1 l i=A:=by unfold wmE1;rw[←hF',←hA]
 have hsE:i<M→g8 l=if wmE1 l i≠0 then wmE1 l i else wbE l (M - (i+1)).toNat (i+1):=fun h1=>by
  rw[←i4,show (M - i).toNat=(M - (i+1)).toNat+1 by omega];rfl
 have hsL:i<M→wbL l (row0 l).length 0=(O ++ [T]) ++ wbL l (M - (i+1)).toNat (i+1):=fun h1=>by
  rw[←i3,show (M - i).toNat=(M - (i+1)).toNat+1 by omega,List.append_assoc,hT'];rfl
 have hi1:i<M→ar .add .i64 i 1=i+1:=fun h1=>by rw[r1];exact wrap64 (n:=i+1) (by omega) (by omega)
 have hap:ap tR O [T]=O ++ [T]:=by rw[r16]
 have hLIM:LIM (ad (ln tR O) (ln tR [T])) 56:=by
  rw[r8,r12];exact LIM_iff.2 ⟨by show (O.length+1)*56≤_;omega,by show O.length+1≤_;omega⟩
 have hEQ:EQN (ml (ln tR O) 3) (ml (ln tR O) 3):=⟨rfl⟩
 have hckz:CKP [] []:=⟨.nil,.nil,by decide,by decide⟩
 clear hF' hT' hxx hDD
 obtain ⟨xs,⟨xn,xa⟩,⟨xm,xb⟩⟩:=x
 obtain ⟨Fs,⟨Fn,Fa⟩,⟨Fm,Fb⟩⟩:=F
 cbv
 try simp only[nc_eq]at *
 rw[←hC]
 simp only[r21,r22,r23,r24,hcl,←hx,←hD,←hF,e5,←hT,hap]
 refine BR.lss r0 (fun h1=>?_) (fun h1=>?_)
 ·have hI:INB 0 (l.length:Int):=⟨Int.le_refl _,by omega⟩
  have hsE':=hsE h1
  rw[hE1]at hsE'
  refine ⟨⟨i0,by omega,hrow h1⟩,hI,hI,⟨by omega,by omega,by omega⟩,hfp h1,BR.eql r0 (fun h2=>?_) (fun h2=>absurd rfl h2)⟩
  ·refine ⟨⟨hFck h1,hckz⟩,BR.neq r0 (fun h3=>?_) (fun h3=>?_)⟩
   ·rw[if_pos h3]at hsE'
    exact ⟨⟨nlLe_none.2 trivial,by rw[e8,hsE',if_neg h3]⟩,hsE'.symm,trivial⟩
   ·rw[if_neg h3]at hsE'
    rw[hi1 h1]
    refine ⟨hEQ,hLIM,NEXT.mk (hX (O ++ [T],i+1) _ _ ⟨by show (0:Int)≤i+1;omega,by show i+1≤M;omega,?_,(hsL h1).symm,hsE'.symm⟩ (by show (M - (i+1)).toNat<(M - i).toNat;omega) (.inr ⟨[],[some 0],?_⟩))⟩
    ·show ((O ++ [T]).length:Int)=i+1
     rw[List.length_append];show ((O.length+1:Nat):Int)=_;omega
    ·rw[SIM_iff];cbv;try simp[nlLe_self,lstEq]
 ·have h2:(M - i).toNat=0:=by omega
  rw[h2]at i3 i4
  have i4':0=g8 l:=i4
  have i3':O ++ []=wbL l (row0 l).length 0:=i3
  rw[List.append_nil]at i3'
  exact ⟨⟨nlLe_none.2 trivial,by rw[e8,←i4',if_pos rfl,←i3']⟩,i4',trivial⟩
end Go.Ab
namespace Go.Ab
open Go.Proofs
theorem fCombA (l:(Ty.sl tRs).den) (h:MC l.2):PurS Tryz.prog 40 [injT (.sl tRs) l,.fn (.func 41) [] []] (.tup [.tl none tR (sumL l.2),.p (iv (sumE l.2))]):=cCombA l.1 l.2 h
theorem fCombG (l:(Ty.sl tRs).den) (h:MC l.2):PurS Tryz.prog 40 [injT (.sl tRs) l,.fn (.func 42) [] []] (.tup [.tl none tR (worL l.2),.p (iv (worE l.2))]):=cCombG l.1 l.2 h
theorem cMSum (nl:Option Bool) (l:List RS) (h:MC l):PurS Tryz.prog 17 [injT (.sl tRs) (nl,l)] (.tup [.tl none tR (sumL l),.p (iv (sumE l))]):=by
 refine PurS.of (S:=[(40,_)]) (T:=[]) (U:=[]) (tbl:=[]) (n:=8) hm31 cfg (.cons (spFnL.ok fCombA) .nil) .nil .nil .nil 0 Tryz.call17 Tryz.func17 (ac17_ok (some (0,0))) (by rw[Tryz.ntmps17];exact Nat.le_refl _) rfl ⟨_,rfl⟩ ?_
 intro cmp ar cv tn ic ai mx an ad ml sb mn ln em gt up ap sc vw cp rp p1 p2 s1 s2 X Y hX hY r0 r1 r2 r3 r4 r5 r6 r7 r8 r9 r10 r11 r12 r13 r14 r15 r16 r17 r18 r19 r20 r21 r22 r23 r24
 generalize hg0:sumL=g0
 generalize hg1:sumE=g1
 cbv
 exact ⟨h,⟨nlLe_none.2 trivial,rfl⟩,rfl,trivial⟩
theorem cMWorst (nl:Option Bool) (l:List RS) (h:MC l):PurS Tryz.prog 18 [injT (.sl tRs) (nl,l)] (.tup [.tl none tR (worL l),.p (iv (worE l))]):=by
 refine PurS.of (S:=[(40,_)]) (T:=[]) (U:=[]) (tbl:=[]) (n:=8) hm31 cfg (.cons (spFnL.ok fCombG) .nil) .nil .nil .nil 0 Tryz.call18 Tryz.func18 (ac18_ok (some (0,0))) (by rw[Tryz.ntmps18];exact Nat.le_refl _) rfl ⟨_,rfl⟩ ?_
 intro cmp ar cv tn ic ai mx an ad ml sb mn ln em gt up ap sc vw cp rp p1 p2 s1 s2 X Y hX hY r0 r1 r2 r3 r4 r5 r6 r7 r8 r9 r10 r11 r12 r13 r14 r15 r16 r17 r18 r19 r20 r21 r22 r23 r24
 generalize hg0:worL=g0
 generalize hg1:worE=g1
 cbv
 exact ⟨h,⟨nlLe_none.2 trivial,rfl⟩,rfl,trivial⟩
end Go.Ab
