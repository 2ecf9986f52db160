/- The overlap of advisories,and the one that fits it best. -/
import Derived.Test.YtlmdgmppeacobaaGreatLL
set_option linter.unusedSimpArgs false
set_option linter.unusedVariables false
set_option maxRecDepth 20000
set_option maxHeartbeats 4000000
namespace Go.Ab
open Go.Proofs
def okI (n:Nat):List Int→Bool
 | []=>true
 | x :: c=>decide (0≤x∧x<n) && okI n c
def bndE (l:List AT) (c:List Int):Int:=if advE l≠0 then advE l else if c.length=0 then 3 else if c.length>8 then 4 else if okI l.length c=true then 0 else 8
def loF (l:List AT):List Int→Int→Int
 | [],x=>x
 | y :: c,x=>loF l c (max x (ownA l y).1)
def hiF (l:List AT):List Int→Int→Int
 | [],x=>x
 | y :: c,x=>hiF l c (min x (ownA l y).2)
def bndLo (l:List AT) (c:List Int):Int:=if bndE l c=0 then loF l c (-100) else 0
def bndHi (l:List AT) (c:List Int):Int:=if bndE l c=0 then hiF l c 100 else 0
theorem okI_iff {n:Nat}:∀ {c:List Int},okI n c=true↔∀ x∈c,0≤x∧x<n
 | []=>by simp[okI]
 | x :: c=>by
  rw[okI,Bool.and_eq_true,decide_eq_true_eq,okI_iff]
  simp
theorem mniF_lt:∀ {c:List Int} {m:Int},mniF m c<0↔m<0∨∃ x∈c,x<0
 | [],m=>by simp[mniF]
 | x :: c,m=>by
  rw[mniF,mniF_lt]
  constructor
  ·rintro (h | ⟨y,hy,h⟩)
   ·by_cases hm:m<0
    ·exact .inl hm
    ·exact .inr ⟨x,by simp,by omega⟩
   ·exact .inr ⟨y,by simp[hy],h⟩
  ·rintro (h | ⟨y,hy,h⟩)
   ·exact .inl (by omega)
   ·rcases List.mem_cons.1 hy with rfl | hy
    ·exact .inl (by omega)
    ·exact .inr ⟨y,hy,h⟩
theorem mxiF_ge {n:Int}:∀ {c:List Int} {m:Int},mxiF m c≥n↔m≥n∨∃ x∈c,x≥n
 | [],m=>by simp[mxiF]
 | x :: c,m=>by
  rw[mxiF,mxiF_ge]
  constructor
  ·rintro (h | ⟨y,hy,h⟩)
   ·by_cases hm:m≥n
    ·exact .inl hm
    ·exact .inr ⟨x,by simp,by omega⟩
   ·exact .inr ⟨y,by simp[hy],h⟩
  ·rintro (h | ⟨y,hy,h⟩)
   ·exact .inl (by omega)
   ·rcases List.mem_cons.1 hy with rfl | hy
    ·exact .inl (by omega)
    ·exact .inr ⟨y,hy,h⟩
theorem mn_ok {n:Nat} {c:List Int} (h:c≠[]):okI n c=true↔¬ (mniL c<0)∧¬ (mxiL c≥n):=by
 obtain ⟨x,r,rfl⟩:=List.exists_cons_of_ne_nil h
 unfold mniL mxiL
 show _↔¬ (mniF x r<0)∧¬ (mxiF x r≥(n:Int))
 rw[okI_iff,mniF_lt,mxiF_ge]
 constructor
 ·intro h1
  refine ⟨?_,?_⟩
  ·rintro (h2 | ⟨y,hy,h2⟩)
   ·have:=(h1 x (by simp)).1;omega
   ·have:=(h1 y (by simp[hy])).1;omega
  ·rintro (h2 | ⟨y,hy,h2⟩)
   ·have:=(h1 x (by simp)).2;omega
   ·have:=(h1 y (by simp[hy])).2;omega
 ·rintro ⟨h1,h2⟩ y hy
  refine ⟨?_,?_⟩
  ·refine Int.not_lt.1 fun h3=>h1 ?_
   rcases List.mem_cons.1 hy with rfl | hy
   ·exact .inl h3
   ·exact .inr ⟨y,hy,h3⟩
  ·refine Int.not_le.1 fun h3=>h2 ?_
   rcases List.mem_cons.1 hy with rfl | hy
   ·exact .inl h3
   ·exact .inr ⟨y,hy,h3⟩
theorem feA_ok:∀ {l:List AT},feA l=0→∀ x∈l,-100≤(x.2.1:Int)∧(x.2.1:Int)≤x.2.2∧(x.2.2:Int)≤100
 | [],_,x,hx=>by cases hx
 | y :: l,h,x,hx=>by
  unfold feA at h
  by_cases h1:chkA y≠0
  ·rw[if_pos h1]at h;exact absurd h h1
  ·rw[if_neg h1]at h
   rcases List.mem_cons.1 hx with rfl | hx
   ·obtain ⟨a,b,c⟩:=x
    change Int at a b c
    have h1:(if a≠1∧a≠2 then 6 else if b>c∨b < -100∨c>100 then 1 else 0:Int)=0:=Classical.not_not.1 h1
    show -100≤b∧b≤c∧c≤100
    split at h1
    ·exact absurd h1 (by decide)
    ·split at h1
     ·exact absurd h1 (by decide)
     ·omega
   ·exact feA_ok h x hx
theorem own_ok {l:List AT} (h:advE l=0) {b:Int} (h0:0≤b) (h1:b<l.length) : -100≤(ownA l b).1∧(ownA l b).1≤(ownA l b).2∧(ownA l b).2≤100:=by
 unfold ownA
 by_cases hb:b=0
 ·rw[if_pos hb];decide
 ·rw[if_neg hb]
  unfold advE at h
  split at h
  ·exact absurd h (by decide)
  ·split at h
   ·exact absurd h (by decide)
   ·refine feA_ok h _ ?_
    have e:gtR tA l b=gtR tA (l.drop 1) (b - 1):=by
     unfold gtR
     rw[List.getD_eq_getElem?_getD,List.getD_eq_getElem?_getD,List.getElem?_drop,show 1+(b - 1).toNat=b.toNat by omega]
    rw[e]
    exact gtR_mem (t:=tA) (by omega) (by rw[List.length_drop];omega)
theorem lo_ok {l:List AT} (h:advE l=0):∀ {c:List Int} {x:Int},okI l.length c=true→-100≤x→x≤100→-100≤loF l c x∧loF l c x≤100
 | [],x,_,h1,h2=>⟨h1,h2⟩
 | y :: c,x,hc,h1,h2=>by
  rw[okI,Bool.and_eq_true,decide_eq_true_eq]at hc
  obtain ⟨k1,k2,k3⟩:=own_ok h hc.1.1 hc.1.2
  rw[loF]
  exact lo_ok h hc.2 (by omega) (by omega)
theorem hi_ok {l:List AT} (h:advE l=0):∀ {c:List Int} {x:Int},okI l.length c=true→-100≤x→x≤100→-100≤hiF l c x∧hiF l c x≤100
 | [],x,_,h1,h2=>⟨h1,h2⟩
 | y :: c,x,hc,h1,h2=>by
  rw[okI,Bool.and_eq_true,decide_eq_true_eq]at hc
  obtain ⟨k1,k2,k3⟩:=own_ok h hc.1.1 hc.1.2
  rw[hiF]
  exact hi_ok h hc.2 (by omega) (by omega)
theorem mx_t {mx:Bool→Int→Int→Int} (h:mx=mxR) (x y:Int):mx true x y=max x y:=by rw[h];unfold mxR;simp only[if_true];omega
theorem mx_f {mx:Bool→Int→Int→Int} (h:mx=mxR) (x y:Int):mx false x y=min x y:=by rw[h];unfold mxR;simp only[Bool.false_eq_true,if_false];omega
theorem cBound (nl:Option Bool) (l:List AT) (nc:Option Bool) (c:List Int):PurS Tryz.prog 24 [injT (.sl tA) (nl,l),injT (.sl tI) (nc,c)] (.tup [.p (iv (bndLo l c)),.p (iv (bndHi l c)),.p (iv (bndE l c))]):=by
 refine PurS.of (S:=[(30,_),(48,_),(49,_),(50,_)]) (T:=[]) (U:=[]) (tbl:=[]) (n:=55) hm31 cfg (.cons (spT1.ok (a:=(.sl (.pair (.int .u8) (.pair (.int .i64) (.int .i64))))) (pre:=fun _=>True) fun x0 _=>cAdv x0.1 x0.2) (.cons (spT1.ok (a:=(.sl (.int .i64))) fun x0 h=>cMin x0.1 x0.2 h) (.cons (spT1.ok (a:=(.sl (.int .i64))) fun x0 h=>cMax x0.1 x0.2 h) (.cons (spT2.ok (a:=(.sl (.pair (.int .u8) (.pair (.int .i64) (.int .i64))))) (b:=(.int .i64)) fun x0 x1 h=>cBnds x0.1 x0.2 x1 h) .nil)))) .nil .nil .nil 0 Tryz.call24 Tryz.func24 (ac24_ok (some (0,0))) (by rw[Tryz.ntmps24];exact Nat.le_refl _) rfl ⟨_,rfl⟩ ?_
 intro cmp ar cv tn ic ai mx an ad ml sb mn ln em gt up ap sc vw cp rp p1 p2 s1 s2 X Y hX hY r0 r1 r2 r3 r4 r5 r6 r7 r8 r9 r10 r11 r12 r13 r14 r15 r16 r17 r18 r19 r20 r21 r22 r23 r24
 generalize hg0:advE=g0
 generalize hg1:mniL=g1
 generalize hg2:mxiL=g2
 generalize hg3:bndS=g3
 generalize hg4:ownA=g4
 generalize hg5:bndLo=g5
 generalize hg6:bndHi=g6
 generalize hg7:bndE=g7
 cbv
 have hll:ic (ln tA l)=l.length:=by rw[r4,r12]
 obtain ⟨N,hN⟩:∃ N:Int,N=c.length:=⟨_,rfl⟩
 have hlc:ic (ln tI c)=N:=by rw[r4,r12,hN]
 have e0:g0 l=advE l:=by rw[←hg0]
 have e7:g7 l c=if advE l≠0 then advE l else if c.length=0 then 3 else if c.length>8 then 4 else if okI l.length c=true then 0 else 8:=by rw[←hg7];rfl
 have e5:g5 l c=if g7 l c=0 then loF l c (-100) else 0:=by rw[←hg5,←hg7];rfl
 have e6:g6 l c=if g7 l c=0 then hiF l c 100 else 0:=by rw[←hg6,←hg7];rfl
 have bad:∀ k,k≠0→g7 l c=k→0=g5 l c∧0=g6 l c∧k=g7 l c∧True:=fun k h1 h2=>by
  rw[h2,if_neg h1]at e5 e6
  exact ⟨e5.symm,e6.symm,h2.symm,trivial⟩
 rw[hll,hlc]
 refine BR.neq r0 (fun h1=>?_) (fun h1=>?_)
 ·rw[e0]at h1
  rw[if_pos h1]at e7
  rw[e7,if_neg h1]at e5 e6
  exact ⟨e5.symm,e6.symm,e0.trans e7.symm,trivial⟩
 have h1:advE l=0:=by rw[←e0];exact Classical.not_not.1 h1
 rw[if_neg (fun h=>h h1)]at e7
 refine BR.eql r0 (fun h2=>?_) (fun h2=>BR.gtr r0 (fun h3=>?_) (fun h3=>?_))
 ·rw[if_pos (by omega)]at e7;exact bad 3 (by decide) e7
 ·rw[if_neg (by omega),if_pos (by omega)]at e7;exact bad 4 (by decide) e7
 rw[if_neg (by omega),if_neg (by omega)]at e7
 have hc0:c≠[]:=fun e=>by rw[e]at hN;simp at hN;omega
 have hMN:MNK c:=⟨hc0,by omega⟩
 have hok:=mn_ok (n:=l.length) hc0
 rw[hg1,hg2]at hok
 refine ⟨hMN,BR.lss r0 (fun h4=>?_) (fun h4=>⟨hMN,BR.geq r0 (fun h5=>?_) (fun h5=>?_)⟩)⟩
 ·rw[if_neg (fun h=>(hok.1 h).1 h4)]at e7;exact bad 8 (by decide) e7
 ·rw[if_neg (fun h=>(hok.1 h).2 h5)]at e7;exact bad 8 (by decide) e7
 have hokc:=hok.2 ⟨h4,h5⟩
 rw[if_pos hokc]at e7
 rw[e7,if_pos rfl]at e5 e6
 have hix:=okI_iff.1 hokc
 refine LOOP.ind (σ:=Int×Int×Int) (fun (lo,hi,i)=>[(0,.tl nl tA l),(4,.p (iv lo)),(5,.p (iv hi)),(35,.tl nc tI c),(36,.p (iv N)),(37,.p (iv i))]) (fun _=>⟨[],[]⟩) (fun (_,_,i)=>(N - i).toNat)
  (fun (lo,hi,i)=>0≤i∧i≤N∧loF l (c.drop i.toNat) lo=g5 l c∧hiF l (c.drop i.toNat) hi=g6 l c) (-100,100,0) ⟨by omega,by show (0:Int)≤N;omega,e5.symm,e6.symm⟩ (.inl ⟨rfl,rfl⟩) ?_
 intro ⟨lo,hi,i⟩ ⟨i0,i1,i2,i3⟩ X' hX
 obtain ⟨x,hx⟩:∃ x:Int,x=gt tI c i:=⟨_,rfl⟩
 have hxi:i<N→IXP l x:=fun h6=>by
  have:=hix x (by rw[hx,r14];exact gtR_mem (t:=tI) i0 (by omega))
  exact ⟨this.1,.inr this.2⟩
 have hst:i<N→loF l (c.drop (i+1).toNat) (max lo (ownA l x).1)=g5 l c∧hiF l (c.drop (i+1).toNat) (min hi (ownA l x).2)=g6 l c:=fun h6=>by
  rw[gtR_drop (t:=tI) i0 (by omega),show gtR tI c i=x by rw[hx,r14]]at i2 i3
  exact ⟨i2,i3⟩
 have hse:¬ i<N→lo=g5 l c∧hi=g6 l c:=fun h6=>by
  rw[gtR_end (by omega)]at i2 i3;exact ⟨i2,i3⟩
 rw[hg4]at hst
 have hi1:i<N→ar .add .i64 i 1=i+1:=fun h2=>by rw[r1];exact wrap64 (n:=i+1) (by omega) (by omega)
 have m1:=mx_t r6 lo (g4 l x).1
 have m2:=mx_f r6 hi (g4 l x).2
 obtain ⟨u,hu⟩:∃ u,u=max lo (g4 l x).1:=⟨_,rfl⟩
 obtain ⟨v,hv⟩:∃ u,u=min hi (g4 l x).2:=⟨_,rfl⟩
 rw[←hu,←hv]at hst
 rw[←hu]at m1
 rw[←hv]at m2
 have hnx:i<N→∀ B,NEXT X' [(0,.tl nl tA l),(4,.p (iv u)),(5,.p (iv v)),(35,.tl nc tI c),(36,.p (iv N)),(37,.p (iv (i+1)))] ⟨[B],[]⟩:=fun h6 B=>NEXT.mk (hX (u,v,i+1) _ _ ⟨by omega,by show i+1≤N;omega,(hst h6).1,(hst h6).2⟩ (by show (N - (i+1)).toNat<(N - i).toNat;omega) (.inr ⟨[],[],by rw[SIM_iff];cbv;simp[nlLe_self]⟩))
 clear hX hst i2 i3 hu hv
 cbv
 try simp only[nc_eq]at *
 rw[hlc,←hx,m1,m2]
 refine BR.lss r0 (fun h6=>?_) (fun h6=>?_)
 ·have hI:INB i N:=⟨i0,h6⟩
  rw[hi1 h6]
  exact ⟨hI,hI,hxi h6,hnx h6 _⟩
 ·exact ⟨(hse h6).1,(hse h6).2,e7.symm,trivial⟩
theorem cRBound (nl:Option Bool) (l:List AT) (nc:Option Bool) (c:List Int):PurS Tryz.prog 25 [injT (.sl tA) (nl,l),injT (.sl tI) (nc,c)] (.tup [.p (iv (bndLo l c)),.p (iv (bndHi l c)),.p (iv (bndE l c))]):=by
 refine PurS.of (S:=[(51,_),(52,_)]) (T:=[]) (U:=[]) (tbl:=[]) (n:=61) hm31 cfg (.cons (spT1.ok (a:=(.sl (.pair (.int .u8) (.pair (.int .i64) (.int .i64))))) (pre:=fun _=>True) fun x0 _=>cRAdv x0.1 x0.2) (.cons (spT2.ok (a:=(.sl (.pair (.int .u8) (.pair (.int .i64) (.int .i64))))) (b:=(.int .i64)) fun x0 x1 h=>cOwn x0.1 x0.2 x1 h) .nil)) .nil .nil .nil 0 Tryz.call25 Tryz.func25 (ac25_ok (some (0,0))) (by rw[Tryz.ntmps25];exact Nat.le_refl _) rfl ⟨_,rfl⟩ ?_
 intro cmp ar cv tn ic ai mx an ad ml sb mn ln em gt up ap sc vw cp rp p1 p2 s1 s2 X Y hX hY r0 r1 r2 r3 r4 r5 r6 r7 r8 r9 r10 r11 r12 r13 r14 r15 r16 r17 r18 r19 r20 r21 r22 r23 r24
 generalize hg0:advE=g0
 generalize hg1:ownA=g1
 generalize hg2:bndLo=g2
 generalize hg3:bndHi=g3
 generalize hg4:bndE=g4
 cbv
 have hll:ic (ln tA l)=l.length:=by rw[r4,r12]
 obtain ⟨N,hN⟩:∃ N:Int,N=c.length:=⟨_,rfl⟩
 obtain ⟨A,hA⟩:∃ A:Int,A=l.length:=⟨_,rfl⟩
 have hlc:ic (ln tI c)=N:=by rw[r4,r12,hN]
 have e0:g0 l=advE l:=by rw[←hg0]
 have e7:g4 l c=if advE l≠0 then advE l else if c.length=0 then 3 else if c.length>8 then 4 else if okI l.length c=true then 0 else 8:=by rw[←hg4];rfl
 have e5:g2 l c=if g4 l c=0 then loF l c (-100) else 0:=by rw[←hg2,←hg4];rfl
 have e6:g3 l c=if g4 l c=0 then hiF l c 100 else 0:=by rw[←hg3,←hg4];rfl
 have bad:∀ k,k≠0→g4 l c=k→0=g2 l c∧0=g3 l c∧k=g4 l c∧True:=fun k h1 h2=>by
  rw[h2,if_neg h1]at e5 e6
  exact ⟨e5.symm,e6.symm,h2.symm,trivial⟩
 rw[←hA]at hll
 rw[hlc]
 refine BR.neq r0 (fun h1=>?_) (fun h1=>?_)
 ·rw[e0]at h1
  rw[if_pos h1]at e7
  rw[e7,if_neg h1]at e5 e6
  exact ⟨e5.symm,e6.symm,e0.trans e7.symm,trivial⟩
 have h1:advE l=0:=by rw[←e0];exact Classical.not_not.1 h1
 rw[if_neg (fun h=>h h1)]at e7
 refine BR.eql r0 (fun h2=>?_) (fun h2=>BR.gtr r0 (fun h3=>?_) (fun h3=>?_))
 ·rw[if_pos (by omega)]at e7;exact bad 3 (by decide) e7
 ·rw[if_neg (by omega),if_pos (by omega)]at e7;exact bad 4 (by decide) e7
 rw[if_neg (by omega),if_neg (by omega)]at e7
 obtain ⟨E,hE⟩:∃ E,E=g4 l c:=⟨_,rfl⟩
 rw[←hE]at e5 e6 e7 bad ⊢
 refine LOOP.ind (σ:=Int×Int×Int) (fun (lo,hi,i)=>[(0,.tl nl tA l),(1,.tl nc tI c),(8,.p (iv lo)),(9,.p (iv hi)),(10,.p (iv i))]) (fun _=>⟨[],[]⟩) (fun (_,_,i)=>(N - i).toNat)
  (fun (lo,hi,i)=>0≤i∧i≤N∧(E=0→loF l (c.drop i.toNat) lo=g2 l c∧hiF l (c.drop i.toNat) hi=g3 l c)∧E=if okI l.length (c.drop i.toNat)=true then 0 else 8) (-100,100,0) ⟨by omega,by show (0:Int)≤N;omega,fun h=>by rw[if_pos h]at e5 e6;exact ⟨e5.symm,e6.symm⟩,e7⟩ (.inl ⟨rfl,rfl⟩) ?_
 clear e5 e6 e7
 intro ⟨lo,hi,i⟩ ⟨i0,i1,i2,i3⟩ X' hX
 obtain ⟨x,hx⟩:∃ x:Int,x=gt tI c i:=⟨_,rfl⟩
 obtain ⟨z,hz⟩:∃ z,z=okI l.length (c.drop (i+1).toNat):=⟨_,rfl⟩
 have hst:i<N→(E=0→loF l (c.drop (i+1).toNat) (max lo (ownA l x).1)=g2 l c∧hiF l (c.drop (i+1).toNat) (min hi (ownA l x).2)=g3 l c)∧E=if 0≤x∧x<A∧z=true then 0 else 8:=fun h6=>by
  rw[gtR_drop (t:=tI) i0 (by omega),show gtR tI c i=x by rw[hx,r14]]at i2 i3
  refine ⟨i2,?_⟩
  rw[i3,okI,←hz]
  by_cases h7:0≤x∧x<A
  ·rw[decide_eq_true (by omega:0≤x∧x<(l.length:Int))];cases z <;> simp[h7]
  ·rw[decide_eq_false (by omega:¬ (0≤x∧x<(l.length:Int))),if_neg (by simp),if_neg (fun h=>h7 ⟨h.1,h.2.1⟩)]
 have hse:¬ i<N→lo=g2 l c∧hi=g3 l c∧0=E:=fun h6=>by
  rw[gtR_end (by omega)]at i2 i3
  have i3:E=0:=i3
  exact ⟨(i2 i3).1,(i2 i3).2,i3.symm⟩
 rw[hg1]at hst
 have hi1:i<N→ar .add .i64 i 1=i+1:=fun h2=>by rw[r1];exact wrap64 (n:=i+1) (by omega) (by omega)
 have m1:=mx_t r6 lo (g1 l x).1
 have m2:=mx_f r6 hi (g1 l x).2
 obtain ⟨u,hu⟩:∃ u,u=max lo (g1 l x).1:=⟨_,rfl⟩
 obtain ⟨v,hv⟩:∃ u,u=min hi (g1 l x).2:=⟨_,rfl⟩
 rw[←hu,←hv]at hst
 rw[←hu]at m1
 rw[←hv]at m2
 have hnx:i<N→0≤x→x<A→NEXT X' [(0,.tl nl tA l),(1,.tl nc tI c),(8,.p (iv u)),(9,.p (iv v)),(10,.p (iv (i+1)))] ⟨[],[]⟩:=fun h6 h7 h8=>NEXT.mk (hX (u,v,i+1) _ _ ⟨by omega,by show i+1≤N;omega,(hst h6).1,by show E=if okI l.length (c.drop (i+1).toNat)=true then 0 else 8;rw[(hst h6).2,←hz];simp[h7,h8]⟩ (by show (N - (i+1)).toNat<(N - i).toNat;omega) (.inl ⟨rfl,rfl⟩))
 have hbd:i<N→¬ (0≤x∧x<A)→E=8:=fun h6 h7=>by rw[(hst h6).2,if_neg (fun h=>h7 ⟨h.1,h.2.1⟩)]
 have hxi:0≤x→x<A→IXP l x:=fun h7 h8=>⟨h7,.inr (by omega)⟩
 have hb8:E=8→0=g2 l c∧0=g3 l c∧8=E∧True:=fun h=>bad 8 (by decide) h.symm.symm
 clear hX hst i2 i3 hu hv hz bad hE
 cbv
 try simp only[nc_eq]at *
 rw[hlc,←hx,m1,m2,hll]
 refine BR.lss r0 (fun h6=>?_) (fun h6=>⟨(hse h6).1,(hse h6).2.1,(hse h6).2.2,trivial⟩)
 have hI:INB i N:=⟨i0,h6⟩
 rw[hi1 h6]
 refine ⟨hI,hI,BR.lss r0 (fun h7=>hb8 (hbd h6 (by omega))) (fun h7=>⟨hI,hI,BR.geq r0 (fun h8=>hb8 (hbd h6 (by omega))) (fun h8=>⟨hI,hI,hxi (by omega) (by omega),hnx h6 (by omega) (by omega)⟩)⟩)⟩
end Go.Ab
