/- Sums of several costs. -/
import Derived.Test.YtlmdgmppeacobaaGreatLx
set_option linter.unusedSimpArgs false
set_option linter.unusedVariables false
set_option maxRecDepth 20000
set_option maxHeartbeats 4000000
namespace Go.Ab
open Go.Proofs
def addE (x y:RT):Int:=adE x.1 x.2.1.2 x.2.2.2 y.1 y.2.1.2 y.2.2.2
def addT (x y:RT):RT:=(adS x.1 x.2.1.2 x.2.2.2 y.1 y.2.1.2 y.2.2.2,(none,adN x.1 x.2.1.2 x.2.2.2 y.1 y.2.1.2 y.2.2.2),(none,adD x.1 x.2.1.2 x.2.2.2 y.1 y.2.1.2 y.2.2.2))
def zT:RT:=(false,(none,[]),(none,[]))
def fldT:RT→List RT→RT
 | x,[]=>x
 | x,y :: l=>if addE x y≠0 then zT else fldT (addT x y) l
def fldE:RT→List RT→Int
 | _,[]=>0
 | x,y :: l=>if addE x y≠0 then addE x y else fldE (addT x y) l
structure FP (x:RT) (l:List RT):Prop where
 x:CKP x.2.1.2 x.2.2.2
 n:l.length≤2000
 h:SZ 2000 l
theorem cFoldA (s:Bool) (na:Option Bool) (a:List Int) (nb:Option Bool) (b:List Int) (nl:Option Bool) (l:List RT) (x T:RT) (E:Int) (hx:x=(s,(na,a),(nb,b))) (hT:T=fldT x l) (hE:E=fldE x l) (h:FP x l):PurS Tryz.prog 71 [.fn (.func 41) [] [],injT tR (s,(na,a),(nb,b)),injT tRs (nl,l)] (.tup [.agg [.sb T.1,.tl none tW T.2.1.2,.tl none tW T.2.2.2],.p (iv E)]):=by
 refine PurS.of (S:=[(41,_)]) (T:=[]) (U:=[]) (tbl:=[]) (n:=33) hm31 cfg (.cons (spT2.ok (a:=(.pair .bool (.pair (.sl (.int .u32)) (.sl (.int .u32))))) (b:=(.pair .bool (.pair (.sl (.int .u32)) (.sl (.int .u32))))) fun x0 x1 h=>cRAdd x0.1 x0.2.1.1 x0.2.1.2 x0.2.2.1 x0.2.2.2 x1.1 x1.2.1.1 x1.2.1.2 x1.2.2.1 x1.2.2.2 h) .nil) .nil .nil .nil 0 Tryz.call71 Tryz.func71 (ac71_ok (some (0,0))) (by rw[Tryz.ntmps71];exact Nat.le_refl _) rfl ⟨_,rfl⟩ ?_
 intro cmp ar cv tn ic ai mx an ad ml sb mn ln em gt up ap sc vw cp rp p1 p2 s1 s2 X Y hX hY r0 r1 r2 r3 r4 r5 r6 r7 r8 r9 r10 r11 r12 r13 r14 r15 r16 r17 r18 r19 r20 r21 r22 r23 r24
 generalize hg0:adS=g0
 generalize hg1:adN=g1
 generalize hg2:adD=g2
 generalize hg3:adE=g3
 cbv
 have hn:=h.n
 obtain ⟨N,hN⟩:∃ N:Int,N=l.length:=⟨_,rfl⟩
 have hll:ic (ln tR l)=N:=by rw[r4,r12,hN]
 rw[hll]
 refine LOOP.ind (σ:=(Bool×Option Bool×List Int×Option Bool×List Int)×Int) (fun (_,i)=>[(0,.fn (.func 41) [] []),(4,.ptr 0 0),(6,.ptr 1 0),(13,.tl nl tR l),(14,.p (iv N)),(15,.p (iv i))])
  (fun ((s,na,a,nb,b),i)=>⟨[{ cells:=[.sb s,.tl na tW a,.tl nb tW b],e:=49,fz:=false },{ cells:=[.p (.v (.bool false)),.p (.sl (some true) 0 []),.p (.sl (some true) 0 [])],e:=49,fz:=false }],[]⟩)
  (fun (_,i)=>(N - i).toNat) (fun ((s,na,a,nb,b),i)=>0≤i∧i≤N∧CKP a b∧fldT (s,(na,a),(nb,b)) (l.drop i.toNat)=T∧fldE (s,(na,a),(nb,b)) (l.drop i.toNat)=E)
  ((s,na,a,nb,b),0) ⟨by omega,by omega,by have:=h.x;rw[hx]at this;exact this,by rw[hT,hx];rfl,by rw[hE,hx];rfl⟩ (.inl ⟨rfl,rfl⟩) ?_
 clear hx hT hE
 intro ⟨⟨s,na,a,nb,b⟩,i⟩ ⟨i0,i1,hc,h2,h3⟩ X' hX
 obtain ⟨y,hy⟩:∃ y:RT,y=gt tR l i:=⟨_,rfl⟩
 have hy':y=gtR tR l i:=by rw[hy,r14]
 have hst:i<l.length→l.drop i.toNat=y :: l.drop (i+1).toNat:=fun h1=>by rw[gtR_drop (t:=tR) i0 h1,hy']
 have hse:¬ i<l.length→l.drop i.toNat=[]:=fun h1=>by rw[gtR_end h1]
 have hck:i<l.length→CKP y.2.1.2 y.2.2.2:=fun h1=>by rw[hy'];exact h.h.ckp i0 h1
 have hi1:i<l.length→ar .add .i64 i 1=i+1:=fun h1=>by rw[r1];exact wrap64 (n:=i+1) (by omega) (by omega)
 clear hy'
 obtain ⟨s',⟨nc,c⟩,⟨nd,d⟩⟩:=y
 have q3:g3 s a b s' c d=adE s a b s' c d:=by rw[←hg3]
 cbv
 try simp only[nc_eq]at *
 rw[hll,←hy]
 simp only[r21,r22,r23,r24]
 have q0:g0 s a b s' c d=adS s a b s' c d:=by rw[←hg0]
 have q1:g1 s a b s' c d=adN s a b s' c d:=by rw[←hg1]
 have q2:g2 s a b s' c d=adD s a b s' c d:=by rw[←hg2]
 rw[q3]
 refine BR.lss r0 (fun h1=>?_) (fun h1=>?_)
 ·have h1':i<l.length:=by omega
  have hI:INB i N:=⟨i0,h1⟩
  have e2:fldT (s,(na,a),(nb,b)) (l.drop i.toNat)=if adE s a b s' c d≠0 then zT else fldT (g0 s a b s' c d,(none,g1 s a b s' c d),(none,g2 s a b s' c d)) (l.drop (i+1).toNat):=by rw[hst h1',q0,q1,q2];rfl
  have e3:fldE (s,(na,a),(nb,b)) (l.drop i.toNat)=if adE s a b s' c d≠0 then adE s a b s' c d else fldE (g0 s a b s' c d,(none,g1 s a b s' c d),(none,g2 s a b s' c d)) (l.drop (i+1).toNat):=by rw[hst h1',q0,q1,q2];rfl
  rw[e2]at h2;rw[e3]at h3
  rw[hi1 h1']
  refine ⟨hI,hI,⟨hc,hck h1'⟩,BR.neq r0 (fun h4=>?_) (fun h4=>?_)⟩
  ·rw[if_pos h4]at h2 h3
   rw[←h2,←h3]
   exact ⟨⟨rfl,⟨nlLe_none.2 trivial,rfl⟩,⟨nlLe_none.2 trivial,rfl⟩,trivial⟩,rfl,trivial⟩
  ·rw[if_neg h4]at h2 h3
   have h5:=Classical.not_not.1 h4
   have hq:adN s a b s' c d=qN (adQ s a b s' c d)∧adD s a b s' c d=qD (adQ s a b s' c d):=by unfold adN adD;rw[if_pos h5,if_pos h5];exact ⟨rfl,rfl⟩
   have hlq:(qN (adQ s a b s' c d)).length≤128∧(qD (adQ s a b s' c d)).length≤128:=by
    unfold adE at h5
    split at h5
    ·rename_i h6;exact absurd h5 h6
    ·split at h5
     ·exact absurd h5 (by decide)
     ·omega
   have hlbD:LB (qD (adQ s a b s' c d)):=by unfold qD;split;exact .nil;exact LB_lm _
   have hck2:CKP (g1 s a b s' c d) (g2 s a b s' c d):=by
    rw[q1,q2,hq.1,hq.2];exact ⟨LB_lm _,hlbD,by omega,by omega⟩
   refine NEXT.mk (hX ((g0 s a b s' c d,none,g1 s a b s' c d,none,g2 s a b s' c d),i+1) _ _ ⟨by show (0:Int)≤i+1;omega,by show i+1≤N;omega,hck2,h2,h3⟩ (by show (N - (i+1)).toNat<(N - i).toNat;omega) (.inr ⟨[some 0,some 1],[],?_⟩))
   rw[SIM_iff];cbv;try simp[nlLe_self]
 ·rw[hse (by omega)]at h2 h3
  have h2':(s,(na,a),(nb,b))=T:=h2
  have h3':(0:Int)=E:=h3
  rw[←h2',←h3']
  exact ⟨⟨rfl,⟨nlLe_none.2 trivial,rfl⟩,⟨nlLe_none.2 trivial,rfl⟩,trivial⟩,rfl,trivial⟩
end Go.Ab
