/- The overlap of advisories,and the one that fits it best. -/
import Derived.Test.YtlmdgmppeacobaaGreatLL
set_option linter.unusedSimpArgs false
set_option linter.unusedVariables false
set_option maxRecDepth 20000
set_option maxHeartbeats 4000000
namespace Go.Ab
open Go.Proofs
def okI (n:Nat):List Int→Bool
 | []=>true
 | x :: c=>decide (0≤x∧x<n) && okI n c
def bndE (l:List AT) (c:List Int):Int:=if advE l≠0 then advE l else if c.length=0 then 3 else if c.length>8 then 4 else if okI l.length c=true then 0 else 8
def loF (l:List AT):List Int→Int→Int
 | [],x=>x
 | y :: c,x=>loF l c (max x (ownA l y).1)
def hiF (l:List AT):List Int→Int→Int
 | [],x=>x
 | y :: c,x=>hiF l c (min x (ownA l y).2)
def bndLo (l:List AT) (c:List Int):Int:=if bndE l c=0 then loF l c (-100) else 0
def bndHi (l:List AT) (c:List Int):Int:=if bndE l c=0 then hiF l c 100 else 0
theorem okI_iff {n:Nat}:∀ {c:List Int},okI n c=true↔∀ x∈c,0≤x∧x<n
 | []=>by simp[okI]
 | x :: c=>by
  rw[okI,Bool.and_eq_true,decide_eq_true_eq,okI_iff]
  simp
theorem mniF_lt:∀ {c:List Int} {m:Int},mniF m c<0↔m<0∨∃ x∈c,x<0
 | [],m=>by simp[mniF]
 | x :: c,m=>by
  rw[mniF,mniF_lt]
  constructor
  ·rintro (h | ⟨y,hy,h⟩)
   ·by_cases hm:m<0
    ·exact .inl hm
    ·exact .inr ⟨x,by simp,by omega⟩
   ·exact .inr ⟨y,by simp[hy],h⟩
  ·rintro (h | ⟨y,hy,h⟩)
   ·exact .inl (by omega)
   ·rcases List.mem_cons.1 hy with rfl | hy
    ·exact .inl (by omega)
    ·exact .inr ⟨y,hy,h⟩
theorem mxiF_ge {n:Int}:∀ {c:List Int} {m:Int},mxiF m c≥n↔m≥n∨∃ x∈c,x≥n
 | [],m=>by simp[mxiF]
 | x :: c,m=>by
  rw[mxiF,mxiF_ge]
  constructor
  ·rintro (h | ⟨y,hy,h⟩)
   ·by_cases hm:m≥n
    ·exact .inl hm
    ·exact .inr ⟨x,by simp,by omega⟩
   ·exact .inr ⟨y,by simp[hy],h⟩
  ·rintro (h | ⟨y,hy,h⟩)
   ·exact .inl (by omega)
   ·rcases List.mem_cons.1 hy with rfl | hy
    ·exact .inl (by omega)
    ·exact .inr ⟨y,hy,h⟩
theorem mn_ok {n:Nat} {c:List Int} (h:c≠[]):okI n c=true↔¬ (mniL c<0)∧¬ (mxiL c≥n):=by
 obtain ⟨x,r,rfl⟩:=List.exists_cons_of_ne_nil h
 unfold mniL mxiL
 show _↔¬ (mniF x r<0)∧¬ (mxiF x r≥(n:Int))
 rw[okI_iff,mniF_lt,mxiF_ge]
 constructor
 ·intro h1
  refine ⟨?_,?_⟩
  ·rintro (h2 | ⟨y,hy,h2⟩)
   ·have:=(h1 x (by simp)).1;omega
   ·have:=(h1 y (by simp[hy])).1;omega
  ·rintro (h2 | ⟨y,hy,h2⟩)
   ·have:=(h1 x (by simp)).2;omega
   ·have:=(h1 y (by simp[hy])).2;omega
 ·rintro ⟨h1,h2⟩ y hy
  refine ⟨?_,?_⟩
  ·refine Int.not_lt.1 fun h3=>h1 ?_
   rcases List.mem_cons.1 hy with rfl | hy
   ·exact .inl h3
   ·exact .inr ⟨y,hy,h3⟩
  ·refine Int.not_le.1 fun h3=>h2 ?_
   rcases List.mem_cons.1 hy with rfl | hy
   ·exact .inl h3
   ·exact .inr ⟨y,hy,h3⟩
theorem feA_ok:∀ {l:List AT},feA l=0→∀ x∈l,-100≤(x.2.1:Int)∧(x.2.1:Int)≤x.2.2∧(x.2.2:Int)≤100
 | [],_,x,hx=>by cases hx
 | y :: l,h,x,hx=>by
  unfold feA at h
  by_cases h1:chkA y≠0
  ·rw[if_pos h1]at h;exact absurd h h1
  ·rw[if_neg h1]at h
   rcases List.mem_cons.1 hx with rfl | hx
   ·obtain ⟨a,b,c⟩:=x
    change Int at a b c
    have h1:(if a≠1∧a≠2 then 6 else if b>c∨b < -100∨c>100 then 1 else 0:Int)=0:=Classical.not_not.1 h1
    show -100≤b∧b≤c∧c≤100
    split at h1
    ·exact absurd h1 (by decide)
    ·split at h1
     ·exact absurd h1 (by decide)
     ·omega
   ·exact feA_ok h x hx
theorem own_ok {l:List AT} (h:advE l=0) {b:Int} (h0:0≤b) (h1:b<l.length) : -100≤(ownA l b).1∧(ownA l b).1≤(ownA l b).2∧(ownA l b).2≤100:=by
 unfold ownA
 by_cases hb:b=0
 ·rw[if_pos hb];decide
 ·rw[if_neg hb]
  unfold advE at h
  split at h
  ·exact absurd h (by decide)
  ·split at h
   ·exact absurd h (by decide)
   ·refine feA_ok h _ ?_
    have e:gtR tA l b=gtR tA (l.drop 1) (b - 1):=by
     unfold gtR
     rw[List.getD_eq_getElem?_getD,List.getD_eq_getElem?_getD,List.getElem?_drop,show 1+(b - 1).toNat=b.toNat by omega]
    rw[e]
    exact gtR_mem (t:=tA) (by omega) (by rw[List.length_drop];omega)
theorem lo_ok {l:List AT} (h:advE l=0):∀ {c:List Int} {x:Int},okI l.length c=true→-100≤x→x≤100→-100≤loF l c x∧loF l c x≤100
 | [],x,_,h1,h2=>⟨h1,h2⟩
 | y :: c,x,hc,h1,h2=>by
  rw[okI,Bool.and_eq_true,decide_eq_true_eq]at hc
  obtain ⟨k1,k2,k3⟩:=own_ok h hc.1.1 hc.1.2
  rw[loF]
  exact lo_ok h hc.2 (by omega) (by omega)
theorem hi_ok {l:List AT} (h:advE l=0):∀ {c:List Int} {x:Int},okI l.length c=true→-100≤x→x≤100→-100≤hiF l c x∧hiF l c x≤100
 | [],x,_,h1,h2=>⟨h1,h2⟩
 | y :: c,x,hc,h1,h2=>by
  rw[okI,Bool.and_eq_true,decide_eq_true_eq]at hc
  obtain ⟨k1,k2,k3⟩:=own_ok h hc.1.1 hc.1.2
  rw[hiF]
  exact hi_ok h hc.2 (by omega) (by omega)
theorem mx_t {mx:Bool→Int→Int→Int} (h:mx=mxR) (x y:Int):mx true x y=max x y:=by rw[h];unfold mxR;simp only[if_true];omega
theorem mx_f {mx:Bool→Int→Int→Int} (h:mx=mxR) (x y:Int):mx false x y=min x y:=by rw[h];unfold mxR;simp only[Bool.false_eq_true,if_false];omega
theorem cBound (nl:Option Bool) (l:List AT) (nc:Option Bool) (c:List Int):PurS Tryz.prog 24 [injT (.sl tA) (nl,l),injT (.sl tI) (nc,c)] (.tup [.p (iv (bndLo l c)),.p (iv (bndHi l c)),.p (iv (bndE l c))]):=by
 refine PurS.of (S:=[(30,_),(48,_),(49,_),(50,_)]) (T:=[]) (U:=[]) (tbl:=[]) (n:=55) hm31 cfg (.cons (spT1.ok (a:=(.sl (.pair (.int .u8) (.pair (.int .i64) (.int .i64))))) (pre:=fun _=>True) fun x0 _=>cAdv x0.1 x0.2) (.cons (spT1.ok (a:=(.sl (.int .i64))) fun x0 h=>cMin x0.1 x0.2 h) (.cons (spT1.ok (a:=(.sl (.int .i64))) fun x0 h=>cMax x0.1 x0.2 h) (.cons (spT2.ok (a:=(.sl (.pair (.int .u8) (.pair (.int .i64) (.int .i64))))) (b:=(.int .i64)) fun x0 x1 h=>cBnds x0.1 x0.2 x1 h) .nil)))) .nil .nil .nil 0 Tryz.call24 Tryz.func24 (ac24_ok (some (0,0))) (by rw[Tryz.ntmps24];exact Nat.le_refl _) rfl ⟨_,rfl⟩ ?_
 intro cmp ar cv tn ic ai mx an ad ml sb mn ln em gt up ap sc vw cp rp p1 p2 s1 s2 X Y hX hY r0 r1 r2 r3 r4 r5 r6 r7 r8 r9 r10 r11 r12 r13 r14 r15 r16 r17 r18 r19 r20 r21 r22 r23 r24
 generalize hg0:advE=g0
 generalize hg1:mniL=g1
 generalize hg2:mxiL=g2
 generalize hg3:bndS=g3
 generalize hg4:ownA=g4
 generalize hg5:bndLo=g5
 generalize hg6:bndHi=g6
 generalize hg7:bndE=g7
 cbv
 have hll:ic (ln tA l)=l.length:=by rw[r4,r12]
 obtain ⟨N,hN⟩:∃ N:Int,N=c.length:=⟨_,rfl⟩
 have hlc:ic (ln tI c)=N:=by rw[r4,r12,hN]
 have e0:g0 l=advE l:=by rw[←hg0]
 have e7:g7 l c=if advE l≠0 then advE l else if c.length=0 then 3 else if c.length>8 then 4 else if okI l.length c=true then 0 else 8:=by rw[←hg7];rfl
 have e5:g5 l c=if g7 l c=0 then loF l c (-100) else 0:=by rw[←hg5,←hg7];rfl
 have e6:g6 l c=if g7 l c=0 then hiF l c 100 else 0:=by rw[←hg6,←hg7];rfl
 have bad:∀ k,k≠0→g7 l c=k→0=g5 l c∧0=g6 l c∧k=g7 l c∧True:=fun k h1 h2=>by
  rw[h2,if_neg h1]at e5 e6
  exact ⟨e5.symm,e6.symm,h2.symm,trivial⟩
 rw[hll,hlc]
 refine BR.neq r0 (fun h1=>?_) (fun h1=>?_)
 ·rw[e0]at h1
  rw[if_pos h1]at e7
  rw[e7,if_neg h1]at e5 e6
  exact ⟨e5.symm,e6.symm,e0.trans e7.symm,trivial⟩
 have h1:advE l=0:=by rw[←e0];exact Classical.not_not.1 h1
 rw[if_neg (fun h=>h h1)]at e7
 refine BR.eql r0 (fun h2=>?_) (fun h2=>BR.gtr r0 (fun h3=>?_) (fun h3=>?_))
 ·rw[if_pos (by omega)]at e7;exact bad 3 (by decide) e7
 ·rw[if_neg (by omega),if_pos (by omega)]at e7;exact bad 4 (by decide) e7
 rw[if_neg (by omega),if_neg (by omega)]at e7
 have hc0:c≠[]:=fun e=>by rw[e]at hN;simp at hN;omega
 have hMN:MNK c:=⟨hc0,by omega⟩
 have hok:=mn_ok (n:=l.length) hc0
 rw[hg1,hg2]at hok
 refine ⟨hMN,BR.lss r0 (fun h4=>?_) (fun h4=>⟨hMN,BR.geq r0 (fun h5=>?_) (fun h5=>?_)⟩)⟩
 ·rw[if_neg (fun h=>(hok.1 h).1 h4)]at e7;exact bad 8 (by decide) e7
 ·rw[if_neg (fun h=>(hok.1 h).2 h5)]at e7;exact bad 8 (by decide) e7
 have hokc:=hok.2 ⟨h4,h5⟩
 rw[if_pos hokc]at e7
 rw[e7,if_pos rfl]at e5 e6
 have hix:=okI_iff.1 hokc
 refine LOOP.ind (σ:=Int×Int×Int) (fun (lo,hi,i)=>[(0,.tl nl tA l),(4,.p (iv lo)),(5,.p (iv hi)),(35,.tl nc tI c),(36,.p (iv N)),(37,.p (iv i))]) (fun _=>⟨[],[]⟩) (fun (_,_,i)=>(N - i).toNat)
  (fun (lo,hi,i)=>0≤i∧i≤N∧loF l (c.drop i.toNat) lo=g5 l c∧hiF l (c.drop i.toNat) hi=g6 l c) (-100,100,0) ⟨by omega,by show (0:Int)≤N;omega,e5.symm,e6.symm⟩ (.inl ⟨rfl,rfl⟩) ?_
 intro ⟨lo,hi,i⟩ ⟨i0,i1,i2,i3⟩ X' hX
 obtain ⟨x,hx⟩:∃ x:Int,x=gt tI c i:=⟨_,rfl⟩
 have hxi:i<N→IXP l x:=fun h6=>by
  have:=hix x (by rw[hx,r14];exact gtR_mem (t:=tI) i0 (by omega))
  exact ⟨this.1,.inr this.2⟩
 have hst:i<N→loF l (c.drop (i+1).toNat) (max lo (ownA l x).1)=g5 l c∧hiF l (c.drop (i+1).toNat) (min hi (ownA l x).2)=g6 l c:=fun h6=>by
  rw[gtR_drop (t:=tI) i0 (by omega),show gtR tI c i=x by rw[hx,r14]]at i2 i3
  exact ⟨i2,i3⟩
 have hse:¬ i<N→lo=g5 l c∧hi=g6 l c:=fun h6=>by
  rw[gtR_end (by omega)]at i2 i3;exact ⟨i2,i3⟩
 rw[hg4]at hst
 have hi1:i<N→ar .add .i64 i 1=i+1:=fun h2=>by rw[r1];exact wrap64 (n:=i+1) (by omega) (by omega)
 have m1:=mx_t r6 lo (g4 l x).1
 have m2:=mx_f r6 hi (g4 l x).2
 obtain ⟨u,hu⟩:∃ u,u=max lo (g4 l x).1:=⟨_,rfl⟩
 obtain ⟨v,hv⟩:∃ u,u=min hi (g4 l x).2:=⟨_,rfl⟩
 rw[←hu,←hv]at hst
 rw[←hu]at m1
 rw[←hv]at m2
 have hnx:i<N→∀ B,NEXT X' [(0,.tl nl tA l),(4,.p (iv u)),(5,.p (iv v)),(35,.tl nc tI c),(36,.p (iv N)),(37,.p (iv (i+1)))] ⟨[B],[]⟩:=fun h6 B=>NEXT.mk (hX (u,v,i+1) _ _ ⟨by omega,by show i+1≤N;omega,(hst h6).1,(hst h6).2⟩ (by show (N - (i+1)).toNat<(N - i).toNat;omega) (.inr ⟨[],[],by rw[SIM_iff];cbv;simp[nlLe_self]⟩))
 clear hX hst i2 i3 hu hv
 cbv
 try simp only[nc_eq]at *
 rw[hlc,←hx,m1,m2]
 refine BR.lss r0 (fun h6=>?_) (fun h6=>?_)
 ·have hI:INB i N:=⟨i0,h6⟩
  rw[hi1 h6]
  exact ⟨hI,hI,hxi h6,hnx h6 _⟩
 ·exact ⟨(hse h6).1,(hse h6).2,e7.symm,trivial⟩
end Go.Ab
namespace Go.Ab
open Go.Proofs
def excA (l:List AT) (lo hi b:Int):Int:=max 0 (lo - (ownA l b).1)+max 0 ((ownA l b).2 - hi)
def widA (l:List AT) (b:Int):Int:=(ownA l b).2 - (ownA l b).1
def jnF (l:List AT) (lo hi:Int):Nat→Int→Int→Int
 | 0,_,best=>best
 | n+1,b,best=>jnF l lo hi n (b+1) (if excA l lo hi b<excA l lo hi best∨(excA l lo hi b=excA l lo hi best∧widA l b>widA l best) then b else best)
def joinN (l:List AT) (c:List Int):Int:=if bndE l c=0 then jnF l (bndLo l c) (bndHi l c) (l.length - 1) 1 0 else 0
theorem bnd_ok {l:List AT} {c:List Int} (h:bndE l c=0):advE l=0∧0<l.length∧l.length≤6∧(-100≤bndLo l c∧bndLo l c≤100)∧(-100≤bndHi l c∧bndHi l c≤100)∧c≠[]∧c.length≤8∧okI l.length c=true:=by
 have h0:=h
 unfold bndE at h
 by_cases h1:advE l≠0
 ·rw[if_pos h1]at h;exact absurd h h1
 rw[if_neg h1]at h
 have h1:=Classical.not_not.1 h1
 split at h
 ·exact absurd h (by decide)
 split at h
 ·exact absurd h (by decide)
 split at h
 ·rename_i h2 h3 h4
  unfold bndLo bndHi
  rw[if_pos h0,if_pos h0]
  have h5:0<l.length∧l.length≤6:=by
   have h6:=h1
   unfold advE at h6
   split at h6
   ·exact absurd h6 (by decide)
   ·split at h6
    ·exact absurd h6 (by decide)
    ·omega
  exact ⟨h1,h5.1,h5.2,lo_ok h1 h4 (by decide) (by decide),hi_ok h1 h4 (by decide) (by decide),fun e=>by rw[e]at h2;exact h2 rfl,by omega,h4⟩
 ·exact absurd h (by decide)
theorem cJoin (nl:Option Bool) (l:List AT) (nc:Option Bool) (c:List Int):PurS Tryz.prog 26 [injT (.sl tA) (nl,l),injT (.sl tI) (nc,c)] (.tup [.p (iv (joinN l c)),.p (iv (bndE l c))]):=by
 refine PurS.of (S:=[(24,_),(50,_)]) (T:=[]) (U:=[]) (tbl:=[(53,ac53 none,[.tmp 5],21),(54,ac54 none,[.tmp 3],13)]) (n:=56) hm31 cfg (.cons (spT2.ok (a:=(.sl (.pair (.int .u8) (.pair (.int .i64) (.int .i64))))) (b:=(.sl (.int .i64))) (pre:=fun _ _=>True) fun x0 x1 _=>cBound x0.1 x0.2 x1.1 x1.2) (.cons (spT2.ok (a:=(.sl (.pair (.int .u8) (.pair (.int .i64) (.int .i64))))) (b:=(.int .i64)) fun x0 x1 h=>cBnds x0.1 x0.2 x1 h) .nil)) .nil .nil (.cons Tryz.call53 Tryz.func53 (ac53_ok none) (by rw[Tryz.ntmps53];exact Nat.le_refl _) (.cons Tryz.call54 Tryz.func54 (ac54_ok none) (by rw[Tryz.ntmps54];exact Nat.le_refl _) .nil)) 6 Tryz.call26 Tryz.func26 (ac26_ok (some (0,0))) (by rw[Tryz.ntmps26];exact Nat.le_refl _) rfl ⟨_,rfl⟩ ?_
 intro cmp ar cv tn ic ai mx an ad ml sb mn ln em gt up ap sc vw cp rp p1 p2 s1 s2 X Y hX hY r0 r1 r2 r3 r4 r5 r6 r7 r8 r9 r10 r11 r12 r13 r14 r15 r16 r17 r18 r19 r20 r21 r22 r23 r24
 generalize hg0:bndS=g0
 generalize hg1:ownA=g1
 generalize hg2:bndLo=g2
 generalize hg3:bndHi=g3
 generalize hg4:bndE=g4
 generalize hg5:joinN=g5
 cbv
 have e4:g5 l c=if bndE l c=0 then jnF l (bndLo l c) (bndHi l c) (l.length - 1) 1 0 else 0:=by rw[←hg5];rfl
 have e3:g4 l c=bndE l c:=by rw[←hg4]
 refine BR.neq r0 (fun h1=>?_) (fun h1=>?_)
 ·rw[←e3,if_neg h1]at e4
  exact ⟨e4.symm,rfl,trivial⟩
 have h1':bndE l c=0:=by rw[←e3];exact Classical.not_not.1 h1
 have e3z:g4 l c=0:=Classical.not_not.1 h1
 obtain ⟨k1,k2,k3,k4,k5,_⟩:=bnd_ok h1'
 rw[if_pos h1']at e4
 obtain ⟨lo,hlo⟩:∃ x,x=bndLo l c:=⟨_,rfl⟩
 obtain ⟨hi,hhi⟩:∃ x,x=bndHi l c:=⟨_,rfl⟩
 have e1:g2 l c=lo:=by rw[←hg2,hlo]
 have e2:g3 l c=hi:=by rw[←hg3,hhi]
 rw[←hlo,←hhi]at e4
 rw[←hlo]at k4
 rw[←hhi]at k5
 obtain ⟨N,hN⟩:∃ N:Int,N=l.length:=⟨_,rfl⟩
 have hll:ic (ln tA l)=N:=by rw[r4,r12,hN]
 have e1':g2 (nl,l).2 (nc,c).2=lo:=e1
 have e2':g3 (nl,l).2 (nc,c).2=hi:=e2
 rw[e1',e2']
 refine LOOP.ind (σ:=Int×Int) (fun (best,b)=>[(2,.ptr 0 0),(9,.fn (.func 53) [] [.ptr 0 0,.ptr 1 0,.ptr 2 0]),(10,.fn (.func 54) [] [.ptr 0 0]),(11,.p (iv best)),(12,.p (iv b))]) (fun _=>⟨[{ cells:=[.tl nl tA l],e:=38,fz:=false },{ cells:=[.p (iv lo)],e:=3,fz:=false },{ cells:=[.p (iv hi)],e:=3,fz:=false }],[]⟩) (fun (_,b)=>(N - b).toNat)
  (fun (best,b)=>1≤b∧b≤N∧jnF l lo hi (N - b).toNat b best=g5 l c∧0≤best∧best<b) (0,1) ⟨by omega,by show (1:Int)≤N;omega,by rw[e4];show jnF l lo hi (N - 1).toNat 1 0=_;rw[show (N - 1).toNat=l.length - 1 by omega],by show (0:Int)≤0;omega,by show (0:Int)<1;omega⟩ (.inl ⟨rfl,rfl⟩) ?_
 intro ⟨best,b⟩ ⟨i0,i1,i2,i3,i4⟩ X' hX
 obtain ⟨⟨x,y⟩,hx⟩:∃ x,x=ownA l b:=⟨_,rfl⟩
 obtain ⟨⟨p,q⟩,hp⟩:∃ x,x=ownA l best:=⟨_,rfl⟩
 have ox:b<N→-100≤x∧x≤y∧y≤100:=fun h=>by have:=own_ok k1 (b:=b) (by omega) (by omega);rw[←hx]at this;exact this
 have op:b<N→-100≤p∧p≤q∧q≤100:=fun h=>by have:=own_ok k1 (b:=best) (by omega) (by omega);rw[←hp]at this;exact this
 have f0:g1 l b=(x,y):=by rw[←hg1,hx]
 have f1:g1 l best=(p,q):=by rw[←hg1,hp]
 have hst:b<N→jnF l lo hi (N - (b+1)).toNat (b+1) (if max 0 (lo - x)+max 0 (y - hi)<max 0 (lo - p)+max 0 (q - hi)∨(max 0 (lo - x)+max 0 (y - hi)=max 0 (lo - p)+max 0 (q - hi)∧y - x>q - p) then b else best)=g5 l c:=fun h=>by
  rw[show (N - b).toNat=(N - (b+1)).toNat+1 by omega,jnF]at i2
  unfold excA widA at i2
  rw[←hx,←hp]at i2
  exact i2
 have hse:¬ b<N→best=g5 l c:=fun h=>by rw[show (N - b).toNat=0 by omega,jnF]at i2;exact i2
 have hi1:b<N→ar .add .i64 b 1=b+1:=fun h2=>by rw[r1];exact wrap64 (n:=b+1) (by omega) (by omega)
 have hnx:b<N→∀ bb:Int,bb=(if max 0 (lo - x)+max 0 (y - hi)<max 0 (lo - p)+max 0 (q - hi)∨(max 0 (lo - x)+max 0 (y - hi)=max 0 (lo - p)+max 0 (q - hi)∧y - x>q - p) then b else best)→∀ B,NEXT X' [(2,.ptr 0 0),(9,.fn (.func 53) [] [.ptr 0 0,.ptr 1 0,.ptr 2 0]),(10,.fn (.func 54) [] [.ptr 0 0]),(11,.p (iv bb)),(12,.p (iv (b+1)))] ⟨{ cells:=[.tl nl tA l],e:=38,fz:=false } :: { cells:=[.p (iv lo)],e:=3,fz:=false } :: { cells:=[.p (iv hi)],e:=3,fz:=false } :: B,[]⟩:=fun h bb hb B=>NEXT.mk (hX (bb,b+1) _ _ ⟨by omega,by show b+1≤N;omega,by show jnF l lo hi (N - (b+1)).toNat (b+1) bb=_;rw[hb];exact hst h,by show 0≤bb;rw[hb];split <;> omega,by show bb<b+1;rw[hb];split <;> omega⟩ (by show (N - (b+1)).toNat<(N - b).toNat;omega) (.inr ⟨[some 0,some 1,some 2],[],by rw[SIM_iff];cbv;simp[nlLe_self]⟩))
 have hix:b<N→IXP l b∧IXP l best:=fun h=>⟨⟨by omega,.inr (by omega)⟩,⟨by omega,.inr (by omega)⟩⟩
 have sb1:b<N→ar .sub .i64 lo x=lo - x∧ar .sub .i64 y hi=y - hi∧ar .sub .i64 lo p=lo - p∧ar .sub .i64 q hi=q - hi∧ar .sub .i64 y x=y - x∧ar .sub .i64 q p=q - p:=fun h=>by
  have:=ox h;have:=op h
  rw[r1]
  exact ⟨wrap64 (n:=lo - x) (by omega) (by omega),wrap64 (n:=y - hi) (by omega) (by omega),wrap64 (n:=lo - p) (by omega) (by omega),wrap64 (n:=q - hi) (by omega) (by omega),wrap64 (n:=y - x) (by omega) (by omega),wrap64 (n:=q - p) (by omega) (by omega)⟩
 have m0:=fun x y=>mx_t r6 x y
 have ad1:b<N→ar .add .i64 (max 0 (lo - x)) (max 0 (y - hi))=max 0 (lo - x)+max 0 (y - hi)∧ar .add .i64 (max 0 (lo - p)) (max 0 (q - hi))=max 0 (lo - p)+max 0 (q - hi):=fun h=>by
  have:=ox h;have:=op h
  rw[r1]
  exact ⟨wrap64 (n:=max 0 (lo - x)+max 0 (y - hi)) (by omega) (by omega),wrap64 (n:=max 0 (lo - p)+max 0 (q - hi)) (by omega) (by omega)⟩
 have dd1:b<N→ar .sub .i64 (max 0 (lo - x)+max 0 (y - hi)) (max 0 (lo - p)+max 0 (q - hi))=(max 0 (lo - x)+max 0 (y - hi)) - (max 0 (lo - p)+max 0 (q - hi)):=fun h=>by
  have:=ox h;have:=op h
  rw[r1]
  exact wrap64 (n:=(max 0 (lo - x)+max 0 (y - hi)) - (max 0 (lo - p)+max 0 (q - hi))) (by omega) (by omega)
 clear hX hst i2 hx hp
 cbv
 try simp only[nc_eq]at *
 rw[hll,f0,f1]
 dsimp only
 refine BR.lss r0 (fun h=>?_) (fun h=>⟨hse h,e3z.symm,trivial⟩)
 have hn1:=hnx h
 obtain ⟨s1,s2,s3,s4,s5,s6⟩:=sb1 h
 obtain ⟨a1,a2⟩:=ad1 h
 rw[hi1 h,s1,s2,s3,s4,s5,s6,m0,m0,m0,m0,a1,a2,dd1 h]
 obtain ⟨E1,hE1⟩:∃ z,z=max 0 (lo - x)+max 0 (y - hi):=⟨_,rfl⟩
 obtain ⟨E2,hE2⟩:∃ z,z=max 0 (lo - p)+max 0 (q - hi):=⟨_,rfl⟩
 rw[←hE1,←hE2]at hn1 ⊢
 clear hnx s1 s2 s3 s4 s5 s6 a1 a2 m0 ox op hse hi1 sb1 ad1 dd1 hE1 hE2
 refine ⟨(hix h).1,(hix h).2,BR.lss r0 (fun h5=>hn1 _ (by rw[if_pos (.inl (by omega))]) _) (fun h5=>BR.eql r0 (fun h6=>⟨(hix h).1,(hix h).2,BR.gtr r0 (fun h7=>hn1 _ (by rw[if_pos (.inr ⟨by omega,h7⟩)]) _) (fun h7=>hn1 _ (by rw[if_neg (by omega)]) _)⟩) (fun h6=>hn1 _ (by rw[if_neg (by omega)]) _))⟩
end Go.Ab
namespace Go.Ab
open Go.Proofs
def intT (n:Int):RT:=(ngI n,(none,absL n),(none,[]))
def rowL (l:List Int):List RT:=l.map intT
structure RWP (l:List Int):Prop where
 n:l.length≤2000
 h:∀ x∈l,I64 x
theorem cRow (nl:Option Bool) (l:List Int) (h:RWP l):PurS Tryz.prog 29 [injT (.sl tI) (nl,l)] (.tl none tR (rowL l)):=by
 refine PurS.of (S:=[(55,_)]) (T:=[]) (U:=[]) (tbl:=[]) (n:=20) hm31 cfg (.cons (spT1.ok (a:=(.int .i64)) fun x0 h=>cRRFrom x0 h) .nil) .nil .nil .nil 0 Tryz.call29 Tryz.func29 (ac29_ok (some (0,0))) (by rw[Tryz.ntmps29];exact Nat.le_refl _) rfl ⟨_,rfl⟩ ?_
 intro cmp ar cv tn ic ai mx an ad ml sb mn ln em gt up ap sc vw cp rp p1 p2 s1 s2 X Y hX hY r0 r1 r2 r3 r4 r5 r6 r7 r8 r9 r10 r11 r12 r13 r14 r15 r16 r17 r18 r19 r20 r21 r22 r23 r24
 generalize hg0:ngI=g0
 generalize hg1:absL=g1
 generalize hg2:rowL=g2
 cbv
 have hn:=h.n
 obtain ⟨N,hN⟩:∃ N:Int,N=l.length:=⟨_,rfl⟩
 have hll:ic (ln tI l)=N:=by rw[r4,r12,hN]
 have e2:g2 l=l.map intT:=by rw[←hg2];rfl
 refine LOOP.ind (σ:=List RT×Int) (fun (O,i)=>[(0,.tl nl tI l),(3,.og 0 tR O),(4,.p (iv i))]) (fun (O,_)=>⟨[],[(ml (ln tR O) 3,49)]⟩) (fun (_,i)=>(N - i).toNat)
  (fun (O,i)=>0≤i∧i≤N∧O.length=i∧O ++ (l.drop i.toNat).map intT=g2 l) ([],0) ⟨by omega,by show (0:Int)≤N;omega,rfl,by rw[e2];rfl⟩ (.inr ⟨[],[none],?_⟩) ?_
 ·rw[SIM_iff];cbv;simp[nlLe_self,lstEq]
 intro ⟨O,i⟩ ⟨i0,i1,i2,i3⟩ X' hX
 obtain ⟨x,hx⟩:∃ x:Int,x=gt tI l i:=⟨_,rfl⟩
 obtain ⟨y,hy⟩:∃ y:RT,y=(g0 x,(none,g1 x),(none,[])):=⟨_,rfl⟩
 have hy':y=intT x:=by rw[hy,←hg0,←hg1];rfl
 have hst:i<N→O ++ (y :: (l.drop (i+1).toNat).map intT)=g2 l:=fun h1=>by
  rw[gtR_drop (t:=tI) i0 (by omega),show gtR tI l i=x by rw[hx,r14],List.map_cons,←hy']at i3;exact i3
 have hse:¬ i<N→O=g2 l:=fun h1=>by rw[gtR_end (by omega),List.map_nil,List.append_nil]at i3;exact i3
 have hxi:i<N→I64 x:=fun h1=>h.h x (by rw[hx,r14];exact gtR_mem (t:=tI) i0 (by omega))
 have hi1:i<N→ar .add .i64 i 1=i+1:=fun h2=>by rw[r1];exact wrap64 (n:=i+1) (by omega) (by omega)
 have hap:ap tR O [y]=O ++ [y]:=by rw[r16]
 have had:ad (ln tR O) (ln tR [y])=O.length+1:=by rw[r8,r12];rfl
 have hnx:i<N→∀ O',O'=O ++ [y]→NEXT X' [(0,.tl nl tI l),(3,.og 0 tR O'),(4,.p (iv (i+1)))] ⟨[],[(ml (ln tR O') 3,49)]⟩:=fun h1 O' hO=>by
  have hl:O'.length=O.length+1:=by rw[hO,List.length_append];rfl
  refine NEXT.mk (hX (O',i+1) _ _ ⟨by omega,by show i+1≤N;omega,by show (O'.length:Int)=i+1;omega,?_⟩ (by show (N - (i+1)).toNat<(N - i).toNat;omega) (.inl ⟨rfl,rfl⟩))
  show O' ++ (l.drop (i+1).toNat).map intT=g2 l
  rw[hO,List.append_assoc];exact hst h1
 clear hX i3 hst hy'
 cbv
 try simp only[nc_eq]at *
 rw[hll,←hx,←hy,had,hap]
 refine BR.lss r0 (fun h1=>?_) (fun h1=>⟨nlLe_none.2 trivial,hse h1⟩)
 have hI:INB i N:=⟨i0,h1⟩
 rw[hi1 h1]
 exact ⟨hI,hI,hxi h1,⟨rfl⟩,LIM_iff.2 ⟨by omega,by omega⟩,hnx h1 _ rfl⟩
def bigR:List RT→Bool
 | []=>false
 | x :: r=>decide (x.2.1.2.length>8∨x.2.2.2.length>8) || bigR r
def bigRR:List RS→Bool
 | []=>false
 | r :: l=>bigR r.2 || decide (r.2.length>20) || bigRR l
def longB (l:List RS):Bool:=bigRR l || decide (l.length>12)
structure LGP (l:List RS):Prop where
 n:l.length≤9223372036854775807
 h:∀ r∈l,r.2.length≤9223372036854775807
theorem cLong (nl:Option Bool) (l:List RS) (h:LGP l):PurS Tryz.prog 10 [injT (.sl tRs) (nl,l)] (.sb (longB l)):=by
 refine PurS.of (S:=[]) (T:=[]) (U:=[]) (tbl:=[]) (n:=51) hm31 cfg .nil .nil .nil .nil 0 Tryz.call10 Tryz.func10 (ac10_ok (some (0,0))) (by rw[Tryz.ntmps10];exact Nat.le_refl _) rfl ⟨_,rfl⟩ ?_
 intro cmp ar cv tn ic ai mx an ad ml sb mn ln em gt up ap sc vw cp rp p1 p2 s1 s2 X Y hX hY r0 r1 r2 r3 r4 r5 r6 r7 r8 r9 r10 r11 r12 r13 r14 r15 r16 r17 r18 r19 r20 r21 r22 r23 r24
 generalize hg0:longB=g0
 cbv
 have hn:=h.n
 obtain ⟨N,hN⟩:∃ N:Int,N=l.length:=⟨_,rfl⟩
 have hll:ic (ln tRs l)=N:=by rw[r4,r12,hN]
 have e0:g0 l=(bigRR l || decide (l.length>12)):=by rw[←hg0];rfl
 obtain ⟨Z,hZ⟩:∃ Z,Z=g0 l:=⟨_,rfl⟩
 rw[←hZ]at e0 ⊢
 obtain ⟨D,hD⟩:∃ D,D=decide (l.length>12):=⟨_,rfl⟩
 rw[←hD]at e0
 refine LOOP.ind (σ:=Int) (fun i=>[(0,.tl nl tRs l),(3,.p (iv i))]) (fun _=>⟨[],[]⟩) (fun i=>(N - i).toNat) (fun i=>0≤i∧i≤N∧Z=(bigRR (l.drop i.toNat) || D)) 0 ⟨by omega,by omega,e0⟩ (.inl ⟨rfl,rfl⟩) ?_
 intro i ⟨i0,i1,i2⟩ X' hX
 obtain ⟨r,hr⟩:∃ r,r=s2 tR (gt tRs l i):=⟨_,rfl⟩
 obtain ⟨M,hM⟩:∃ M:Int,M=r.length:=⟨_,rfl⟩
 have hlr:ic (ln tR r)=M:=by rw[r4,r12,hM]
 have hr':r=(gtR tRs l i).2:=by rw[hr,r24,r14]
 obtain ⟨W,hW⟩:∃ W,W=(decide (r.length>20) || bigRR (l.drop (i+1).toNat) || D):=⟨_,rfl⟩
 have hst:i<N→Z=(bigR r || W):=fun h1=>by
  rw[i2,gtR_drop (t:=tRs) i0 (by omega),bigRR,←hr',hW,Bool.or_assoc,Bool.or_assoc,Bool.or_assoc]
 have hW2:r.length≤20→W=(bigRR (l.drop (i+1).toNat) || D):=fun h1=>by rw[hW,decide_eq_false (by omega),Bool.false_or]
 have hW1:r.length>20→W=true:=fun h1=>by rw[hW,decide_eq_true h1,Bool.true_or,Bool.true_or]
 have hse:¬ i<N→Z=D:=fun h1=>by rw[i2,gtR_end (by omega),bigRR,Bool.false_or]
 have hrl:i<N→r.length≤9223372036854775807:=fun h1=>by rw[hr'];exact h.h _ (gtR_mem (t:=tRs) i0 (by omega))
 have hi1:i<N→ar .add .i64 i 1=i+1:=fun h2=>by rw[r1];exact wrap64 (n:=i+1) (by omega) (by omega)
 have hnx:i<N→r.length≤20→Z=W→NEXT X' [(0,.tl nl tRs l),(3,.p (iv (i+1)))] ⟨[],[]⟩:=fun h1 h2 h3=>NEXT.mk (hX (i+1) _ _ ⟨by omega,by omega,by rw[h3,hW2 h2]⟩ (by show (N - (i+1)).toNat<(N - i).toNat;omega) (.inl ⟨rfl,rfl⟩))
 clear hX i2 hW hW2 hr'
 cbv
 try simp only[nc_eq]at *
 rw[hll]
 refine BR.lss r0 (fun h1=>?_) (fun h1=>?_)
 ·have hst:=hst h1
  have hn1:=hnx h1
  refine LOOP.ind (σ:=Int) (fun j=>[(0,.tl nl tRs l),(3,.p (iv i)),(4,.p (iv j))]) (fun _=>⟨[],[]⟩) (fun j=>(M - j).toNat) (fun j=>0≤j∧j≤M∧Z=(bigR (r.drop j.toNat) || W)) 0 ⟨by omega,by omega,hst⟩ (.inl ⟨rfl,rfl⟩) ?_
  intro j ⟨j0,j1,j2⟩ X2 hX2
  obtain ⟨x,hx⟩:∃ x:RT,x=gt tR r j:=⟨_,rfl⟩
  obtain ⟨nI,hnI⟩:∃ z:Int,z=x.2.1.2.length:=⟨_,rfl⟩
  obtain ⟨nB,hnB⟩:∃ z:Int,z=x.2.2.2.length:=⟨_,rfl⟩
  have hnI':ic (ln tW x.2.1.2)=nI:=by rw[r4,r12,hnI]
  have hnB':ic (ln tW x.2.2.2)=nB:=by rw[r4,r12,hnB]
  obtain ⟨R,hR⟩:∃ R,R=bigR (r.drop (j+1).toNat):=⟨_,rfl⟩
  have hst2:j<M→Z=(decide (nI>8∨nB>8) || (R || W)):=fun h2=>by
   rw[j2,gtR_drop (t:=tR) j0 (by omega),show gtR tR r j=x by rw[hx,r14],bigR,←hR,Bool.or_assoc,decide_eq_decide.2 (show (x.2.1.2.length>8∨x.2.2.2.length>8)↔(nI>8∨nB>8) by omega)]
  have hse2:¬ j<M→Z=W:=fun h2=>by rw[j2,gtR_end (by omega),bigR,Bool.false_or]
  have hj1:j<M→ar .add .i64 j 1=j+1:=fun h2=>by have:=hrl h1;rw[r1];exact wrap64 (n:=j+1) (by omega) (by omega)
  have hnx2:j<M→Z=(R || W)→NEXT X2 [(0,.tl nl tRs l),(3,.p (iv i)),(4,.p (iv (j+1)))] ⟨[],[]⟩:=fun h2 h3=>NEXT.mk (hX2 (j+1) _ _ ⟨by omega,by omega,by rw[h3,hR]⟩ (by show (M - (j+1)).toNat<(M - j).toNat;omega) (.inl ⟨rfl,rfl⟩))
  clear hX2 j2 hR hnI hnB
  obtain ⟨s,⟨na',a'⟩,⟨nb',b'⟩⟩:=x
  dsimp only at hnI' hnB'
  cbv
  try simp only[nc_eq]at *
  rw[hll,←hr,hlr,←hx]
  simp only[r21,r22,r23,r24]
  rw[hnI',hnB',hi1 h1]
  have hI:INB i N:=⟨i0,h1⟩
  refine ⟨hI,hI,BR.lss r0 (fun h2=>?_) (fun h2=>⟨hI,hI,BR.gtr r0 (fun h3=>?_) (fun h3=>?_)⟩)⟩
  ·have hJ:INB j M:=⟨j0,h2⟩
   have hs2:=hst2 h2
   rw[hj1 h2]
   refine ⟨hI,hI,hJ,hJ,BR.gtr r0 (fun h3=>?_) (fun h3=>⟨hI,hI,hJ,hJ,BR.gtr r0 (fun h4=>?_) (fun h4=>hnx2 h2 ?_)⟩)⟩
   ·rw[decide_eq_true (.inl h3),Bool.true_or]at hs2;exact hs2.symm
   ·rw[decide_eq_true (.inr h4),Bool.true_or]at hs2;exact hs2.symm
   ·rw[decide_eq_false (by omega),Bool.false_or]at hs2;exact hs2
  ·rw[hse2 h2,hW1 (by omega)]
  ·exact hn1 (by omega) (hse2 h2)
 ·rw[hse h1,hD]
  exact BR.gtr r0 (fun h2=>(decide_eq_true (by omega)).symm) (fun h2=>(decide_eq_false (by omega)).symm)
theorem cFive  : PurS Tryz.prog 34 [] (.tl none tA [(0,0,0),(1,10,100),(1,30,60),(2,-100,-10),(2,-5,20)]):=by
 refine PurS.of (S:=[]) (T:=[]) (U:=[]) (tbl:=[]) (n:=7) hm31 cfg .nil .nil .nil .nil 0 Tryz.call34 Tryz.func34 (ac34_ok (some (0,0))) (by rw[Tryz.ntmps34];exact Nat.le_refl _) rfl ⟨_,rfl⟩ ?_
 intro cmp ar cv tn ic ai mx an ad ml sb mn ln em gt up ap sc vw cp rp p1 p2 s1 s2 X Y hX hY r0 r1 r2 r3 r4 r5 r6 r7 r8 r9 r10 r11 r12 r13 r14 r15 r16 r17 r18 r19 r20 r21 r22 r23 r24
 cbv
 exact ⟨nlLe_none.2 trivial,rfl⟩
end Go.Ab
