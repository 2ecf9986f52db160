/- The greater one of two costs. -/
import Derived.Test.YtlmdgmppeacobaaGreatLy
set_option linter.unusedSimpArgs false
set_option linter.unusedVariables false
set_option maxRecDepth 20000
set_option maxHeartbeats 4000000
namespace Go.Ab
open Go.Proofs
theorem cCompare (s:Bool) (na:Option Bool) (a:List Int) (nb:Option Bool) (b:List Int) (s':Bool) (nc:Option Bool) (c:List Int) (nd:Option Bool) (d:List Int) (h:CK2 a b c d):PurS Tryz.prog 45 [injT tR (s,(na,a),(nb,b)),injT tR (s',(nc,c),(nd,d))] (.p (iv (cmR s a b s' c d))):=by
 refine PurS.of (S:=[(32,_)]) (T:=[]) (U:=[]) (tbl:=[]) (n:=14) hm31 cfg (.cons (spT2.ok (a:=(.pair .bool (.pair (.sl (.int .u32)) (.sl (.int .u32))))) (b:=(.pair .bool (.pair (.sl (.int .u32)) (.sl (.int .u32))))) fun x0 x1 h=>cRCmp x0.1 x0.2.1.1 x0.2.1.2 x0.2.2.1 x0.2.2.2 x1.1 x1.2.1.1 x1.2.1.2 x1.2.2.1 x1.2.2.2 h) .nil) .nil .nil .nil 0 Tryz.call45 Tryz.func45 (ac45_ok (some (0,0))) (by rw[Tryz.ntmps45];exact Nat.le_refl _) rfl ⟨_,rfl⟩ ?_
 intro cmp ar cv tn ic ai mx an ad ml sb mn ln em gt up ap sc vw cp rp p1 p2 s1 s2 X Y hX hY r0 r1 r2 r3 r4 r5 r6 r7 r8 r9 r10 r11 r12 r13 r14 r15 r16 r17 r18 r19 r20 r21 r22 r23 r24
 generalize hg0:cmR=g0
 generalize hg1:cmE=g1
 cbv
 dsimp only
 exact ⟨h,rfl⟩
def grT (x y:RT):RT:=if cmR x.1 x.2.1.2 x.2.2.2 y.1 y.2.1.2 y.2.2.2<0 then y else x
theorem cGreater (s:Bool) (na:Option Bool) (a:List Int) (nb:Option Bool) (b:List Int) (s':Bool) (nc:Option Bool) (c:List Int) (nd:Option Bool) (d:List Int) (T:RT) (hT:T=grT (s,(na,a),(nb,b)) (s',(nc,c),(nd,d))) (h:CK2 a b c d):PurS Tryz.prog 42 [injT tR (s,(na,a),(nb,b)),injT tR (s',(nc,c),(nd,d))] (.tup [.agg [.sb T.1,.tl none tW T.2.1.2,.tl none tW T.2.2.2],.p (iv 0)]):=by
 refine PurS.of (S:=[(45,_)]) (T:=[]) (U:=[]) (tbl:=[]) (n:=12) hm31 cfg (.cons (spT2.ok (a:=(.pair .bool (.pair (.sl (.int .u32)) (.sl (.int .u32))))) (b:=(.pair .bool (.pair (.sl (.int .u32)) (.sl (.int .u32))))) fun x0 x1 h=>cCompare x0.1 x0.2.1.1 x0.2.1.2 x0.2.2.1 x0.2.2.2 x1.1 x1.2.1.1 x1.2.1.2 x1.2.2.1 x1.2.2.2 h) .nil) .nil .nil .nil 0 Tryz.call42 Tryz.func42 (ac42_ok (some (0,0))) (by rw[Tryz.ntmps42];exact Nat.le_refl _) rfl ⟨_,rfl⟩ ?_
 intro cmp ar cv tn ic ai mx an ad ml sb mn ln em gt up ap sc vw cp rp p1 p2 s1 s2 X Y hX hY r0 r1 r2 r3 r4 r5 r6 r7 r8 r9 r10 r11 r12 r13 r14 r15 r16 r17 r18 r19 r20 r21 r22 r23 r24
 generalize hg0:cmR=g0
 cbv
 have e:T=if g0 s a b s' c d<0 then (s',(nc,c),(nd,d)) else (s,(na,a),(nb,b)):=by rw[hT,←hg0];rfl
 have hn:∀ o,nlLe o none:=fun o=>nlLe_none.2 trivial
 try dsimp only
 refine ⟨h,BR.lss r0 (fun h1=>?_) (fun h1=>?_)⟩
 ·rw[if_pos h1]at e;rw[e]
  exact ⟨⟨rfl,⟨hn _,rfl⟩,⟨hn _,rfl⟩,trivial⟩,trivial⟩
 ·rw[if_neg h1]at e;rw[e]
  exact ⟨⟨rfl,⟨hn _,rfl⟩,⟨hn _,rfl⟩,trivial⟩,trivial⟩
def grS (s:Bool) (a b:List Int) (s':Bool) (c d:List Int):Bool:=if cmR s a b s' c d<0 then s' else s
def grN (s:Bool) (a b:List Int) (s':Bool) (c d:List Int):List Int:=if cmR s a b s' c d<0 then c else a
def grD (s:Bool) (a b:List Int) (s':Bool) (c d:List Int):List Int:=if cmR s a b s' c d<0 then d else b
theorem cGreater1 (s:Bool) (na:Option Bool) (a:List Int) (nb:Option Bool) (b:List Int) (s':Bool) (nc:Option Bool) (c:List Int) (nd:Option Bool) (d:List Int) (h:CK2 a b c d):PurS Tryz.prog 42 [injT tR (s,(na,a),(nb,b)),injT tR (s',(nc,c),(nd,d))] (.tup [.agg [.sb (grS s a b s' c d),.tl none tW (grN s a b s' c d),.tl none tW (grD s a b s' c d)],.p (iv 0)]):=by
 have h1:=cGreater s na a nb b s' nc c nd d _ rfl h
 have e:(grT (s,(na,a),(nb,b)) (s',(nc,c),(nd,d))).1=grS s a b s' c d∧(grT (s,(na,a),(nb,b)) (s',(nc,c),(nd,d))).2.1.2=grN s a b s' c d∧(grT (s,(na,a),(nb,b)) (s',(nc,c),(nd,d))).2.2.2=grD s a b s' c d:=by
  unfold grT grS grN grD
  dsimp only
  split <;> exact ⟨rfl,rfl,rfl⟩
 rw[e.1,e.2.1,e.2.2]at h1;exact h1
def mxT:RT→List RT→RT
 | x,[]=>x
 | x,y :: l=>mxT (grS x.1 x.2.1.2 x.2.2.2 y.1 y.2.1.2 y.2.2.2,(none,grN x.1 x.2.1.2 x.2.2.2 y.1 y.2.1.2 y.2.2.2),(none,grD x.1 x.2.1.2 x.2.2.2 y.1 y.2.1.2 y.2.2.2)) l
theorem cFoldG (s:Bool) (na:Option Bool) (a:List Int) (nb:Option Bool) (b:List Int) (nl:Option Bool) (l:List RT) (x T:RT) (hx:x=(s,(na,a),(nb,b))) (hT:T=mxT x l) (h:FP x l):PurS Tryz.prog 71 [.fn (.func 42) [] [],injT tR (s,(na,a),(nb,b)),injT tRs (nl,l)] (.tup [.agg [.sb T.1,.tl none tW T.2.1.2,.tl none tW T.2.2.2],.p (iv 0)]):=by
 refine PurS.of (S:=[(42,_)]) (T:=[]) (U:=[]) (tbl:=[]) (n:=33) hm31 cfg (.cons (spT2.ok (a:=(.pair .bool (.pair (.sl (.int .u32)) (.sl (.int .u32))))) (b:=(.pair .bool (.pair (.sl (.int .u32)) (.sl (.int .u32))))) fun x0 x1 h=>cGreater1 x0.1 x0.2.1.1 x0.2.1.2 x0.2.2.1 x0.2.2.2 x1.1 x1.2.1.1 x1.2.1.2 x1.2.2.1 x1.2.2.2 h) .nil) .nil .nil .nil 0 Tryz.call71 Tryz.func71 (ac71_ok (some (0,0))) (by rw[Tryz.ntmps71];exact Nat.le_refl _) rfl ⟨_,rfl⟩ ?_
 intro cmp ar cv tn ic ai mx an ad ml sb mn ln em gt up ap sc vw cp rp p1 p2 s1 s2 X Y hX hY r0 r1 r2 r3 r4 r5 r6 r7 r8 r9 r10 r11 r12 r13 r14 r15 r16 r17 r18 r19 r20 r21 r22 r23 r24
 generalize hg0:grS=g0
 generalize hg1:grN=g1
 generalize hg2:grD=g2
 cbv
 have hn:=h.n
 obtain ⟨N,hN⟩:∃ N:Int,N=l.length:=⟨_,rfl⟩
 have hll:ic (ln tR l)=N:=by rw[r4,r12,hN]
 rw[hll]
 refine LOOP.ind (σ:=(Bool×Option Bool×List Int×Option Bool×List Int)×Int) (fun (_,i)=>[(0,.fn (.func 42) [] []),(4,.ptr 0 0),(6,.ptr 1 0),(13,.tl nl tR l),(14,.p (iv N)),(15,.p (iv i))])
  (fun ((s,na,a,nb,b),i)=>⟨[{ cells:=[.sb s,.tl na tW a,.tl nb tW b],e:=49,fz:=false },{ cells:=[.p (.v (.bool false)),.p (.sl (some true) 0 []),.p (.sl (some true) 0 [])],e:=49,fz:=false }],[]⟩)
  (fun (_,i)=>(N - i).toNat) (fun ((s,na,a,nb,b),i)=>0≤i∧i≤N∧CKP a b∧mxT (s,(na,a),(nb,b)) (l.drop i.toNat)=T)
  ((s,na,a,nb,b),0) ⟨by omega,by omega,by have:=h.x;rw[hx]at this;exact this,by rw[hT,hx];rfl⟩ (.inl ⟨rfl,rfl⟩) ?_
 clear hx hT
 intro ⟨⟨s,na,a,nb,b⟩,i⟩ ⟨i0,i1,hc,h2⟩ X' hX
 obtain ⟨y,hy⟩:∃ y:RT,y=gt tR l i:=⟨_,rfl⟩
 have hy':y=gtR tR l i:=by rw[hy,r14]
 have hst:i<l.length→l.drop i.toNat=y :: l.drop (i+1).toNat:=fun h1=>by rw[gtR_drop (t:=tR) i0 h1,hy']
 have hse:¬ i<l.length→l.drop i.toNat=[]:=fun h1=>by rw[gtR_end h1]
 have hck:i<l.length→CKP y.2.1.2 y.2.2.2:=fun h1=>by rw[hy'];exact h.h.ckp i0 h1
 have hi1:i<l.length→ar .add .i64 i 1=i+1:=fun h1=>by rw[r1];exact wrap64 (n:=i+1) (by omega) (by omega)
 clear hy'
 obtain ⟨s',⟨nc,c⟩,⟨nd,d⟩⟩:=y
 have b3:cmp .neq 0 0=false:=by rw[r0];rfl
 cbv
 try simp only[nc_eq]at *
 rw[hll,←hy]
 simp only[r21,r22,r23,r24]
 rw[b3,BR_false]
 have q0:g0 s a b s' c d=grS s a b s' c d:=by rw[←hg0]
 have q1:g1 s a b s' c d=grN s a b s' c d:=by rw[←hg1]
 have q2:g2 s a b s' c d=grD s a b s' c d:=by rw[←hg2]
 refine BR.lss r0 (fun h1=>?_) (fun h1=>?_)
 ·have h1':i<l.length:=by omega
  have hI:INB i N:=⟨i0,h1⟩
  have e2:mxT (s,(na,a),(nb,b)) (l.drop i.toNat)=mxT (g0 s a b s' c d,(none,g1 s a b s' c d),(none,g2 s a b s' c d)) (l.drop (i+1).toNat):=by rw[hst h1',q0,q1,q2];rfl
  rw[e2]at h2
  rw[hi1 h1']
  have hck':=hck h1'
  have hck2:CKP (g1 s a b s' c d) (g2 s a b s' c d):=by
   rw[q1,q2];unfold grN grD;split
   ·exact hck'
   ·exact hc
  refine ⟨hI,hI,⟨hc,hck'⟩,NEXT.mk (hX ((g0 s a b s' c d,none,g1 s a b s' c d,none,g2 s a b s' c d),i+1) _ _ ⟨by show (0:Int)≤i+1;omega,by show i+1≤N;omega,hck2,h2⟩ (by show (N - (i+1)).toNat<(N - i).toNat;omega) (.inr ⟨[some 0,some 1],[],?_⟩))⟩
  rw[SIM_iff];cbv;try simp[nlLe_self]
 ·rw[hse (by omega)]at h2
  have h2':(s,(na,a),(nb,b))=T:=h2
  rw[←h2']
  exact ⟨⟨rfl,⟨nlLe_none.2 trivial,rfl⟩,⟨nlLe_none.2 trivial,rfl⟩,trivial⟩,trivial⟩
end Go.Ab
