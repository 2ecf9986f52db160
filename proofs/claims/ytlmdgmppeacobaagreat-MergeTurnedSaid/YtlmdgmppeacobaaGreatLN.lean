/- The least profile,in the program and in the reference. -/
import Derived.Test.YtlmdgmppeacobaaGreatLK
set_option linter.unusedSimpArgs false
set_option linter.unusedVariables false
set_option maxRecDepth 20000
set_option maxHeartbeats 4000000
namespace Go.Ab
open Go.Proofs
structure BSA (A:List Bool):Prop where
 n:A.length≤100000
theorem cMBest (nl:Option Bool) (l:List RS) (na:Option Bool) (A:List Bool) (h:MC l):PurS Tryz.prog 19 [injT (.sl tRs) (nl,l),injT (.sl .bool) (na,A)] (.tup [.p (iv (bstN l A)),.p (iv (bstE l A))]):=by
 refine PurS.of (S:=[(43,_),(44,_),(45,_)]) (T:=[]) (U:=[]) (tbl:=[]) (n:=69) hm31 cfg (.cons (spT1.ok (a:=(.sl (.sl (.pair .bool (.pair (.sl (.int .u32)) (.sl (.int .u32))))))) fun x0 h=>cMChk x0.1 x0.2 h) (.cons (spT2.ok (a:=(.sl (.sl (.pair .bool (.pair (.sl (.int .u32)) (.sl (.int .u32))))))) (b:=(.int .i64)) fun x0 x1 h=>cProf x0.1 x0.2 x1 h) (.cons (spT2.ok (a:=(.pair .bool (.pair (.sl (.int .u32)) (.sl (.int .u32))))) (b:=(.pair .bool (.pair (.sl (.int .u32)) (.sl (.int .u32))))) fun x0 x1 h=>cCompare x0.1 x0.2.1.1 x0.2.1.2 x0.2.2.1 x0.2.2.2 x1.1 x1.2.1.1 x1.2.1.2 x1.2.2.1 x1.2.2.2 h) .nil))) .nil .nil .nil 0 Tryz.call19 Tryz.func19 (ac19_ok (some (0,0))) (by rw[Tryz.ntmps19];exact Nat.le_refl _) rfl ⟨_,rfl⟩ ?_
 intro cmp ar cv tn ic ai mx an ad ml sb mn ln em gt up ap sc vw cp rp p1 p2 s1 s2 X Y hX hY r0 r1 r2 r3 r4 r5 r6 r7 r8 r9 r10 r11 r12 r13 r14 r15 r16 r17 r18 r19 r20 r21 r22 r23 r24
 generalize hg0:mchk=g0
 generalize hg1:proL=g1
 generalize hg2:cmR=g2
 generalize hg3:bstN=g3
 generalize hg4:bstE=g4
 cbv
 have hll:ic (ln tRs l)=l.length:=by rw[r4,r12]
 obtain ⟨M,hM⟩:∃ M,M=ic (ln tR (s2 tR (gt tRs l 0))):=⟨_,rfl⟩
 have hM':M=(row0 l).length:=by rw[hM,r4,r12,r24,r14];rfl
 obtain ⟨N,hN⟩:∃ N:Int,N=A.length:=⟨_,rfl⟩
 have hla:ic (ln .bool A)=N:=by rw[r4,r12,hN]
 have e0:g0 l=mchk l:=by rw[←hg0]
 have e4:g4 l A=if mchk l≠0 then mchk l else if A.length≠(row0 l).length then 16 else if bst (valP l) A 0 (-1)<0 then 9 else 0:=by rw[←hg4];rfl
 have e3:g3 l A=if g4 l A=0 then bst (valP l) A 0 (-1) else 0:=by rw[←hg3,←hg4];rfl
 refine ⟨h,BR.neq r0 (fun h1=>?_) (fun h1=>?_)⟩
 ·rw[e0]at h1
  rw[if_pos h1]at e4
  rw[e4,if_neg h1]at e3
  exact ⟨e3.symm,e0.trans e4.symm,trivial⟩
 have h1:mchk l=0:=by rw[←e0];exact Classical.not_not.1 h1
 rw[if_neg (fun h=>h h1)]at e4
 have hC:=h.cost h1
 obtain ⟨n,hn⟩:∃ n:Nat,n=(row0 l).length:=⟨_,rfl⟩
 rw[←hn]at e4 hC hM'
 have hm6:=hC.m6
 have hn8:=hC.n8
 have hn0:=hC.n0
 have hI0:INB 0 l.length:=⟨Int.le_refl _,by omega⟩
 rw[hll,←hM,hla]
 refine ⟨hI0,hI0,BR.neq r0 (fun h2=>?_) (fun h2=>?_)⟩
 ·rw[if_pos (by omega)]at e4
  rw[e4,if_neg (by decide)]at e3
  exact ⟨e3.symm,e4.symm,trivial⟩
 rw[if_neg (by omega)]at e4
 obtain ⟨B,hB⟩:∃ B,B=bst (valP l) A 0 (-1):=⟨_,rfl⟩
 rw[←hB]at e3 e4
 refine LOOP.ind (σ:=Int×List RT×Int) (fun (best,L,i)=>[(0,.tl nl tRs l),(7,.p (iv best)),(8,.tl none tR L),(26,.tl na .bool A),(27,.p (iv N)),(28,.p (iv i))]) (fun _=>⟨[],[]⟩) (fun (_,_,i)=>(N - i).toNat)
  (fun (best,L,i)=>0≤i∧i≤N∧bst (valP l) (A.drop i.toNat) i best=B∧((best = -1∧L=[])∨(0≤best∧best<i∧L=proL l best))) (-1,[],0) ⟨by omega,by show (0:Int)≤N;omega,hB.symm,.inl ⟨rfl,rfl⟩⟩ (.inr ⟨[],[],?_⟩) ?_
 ·rw[SIM_iff];cbv;try simp[nlLe_self,lstEq,nlLe_none]
 intro ⟨best,L,i⟩ ⟨i0,i1,i2,i3⟩ X' hX
 obtain ⟨a,ha⟩:∃ a:Bool,a=gt .bool A i:=⟨_,rfl⟩
 obtain ⟨P,hP⟩:∃ P:List RT,P=g1 l i:=⟨_,rfl⟩
 have hP':P=proL l i:=by rw[hP,←hg1]
 obtain ⟨C,hCC⟩:∃ C,C=cmpV (P.map rvT) (L.map rvT):=⟨_,rfl⟩
 have hPl:P.length=l.length:=by rw[hP',proL_len]
 have hPv:i<N→∀ x∈P,VT x:=fun h3=>by rw[hP'];exact proL_VT (hC.col i0 (by omega))
 have hLl:L.length≤l.length∧(best<0→L.length=0):=by
  rcases i3 with ⟨h3,h4⟩ | ⟨h3,h4,h5⟩
  ·rw[h4];exact ⟨Nat.zero_le _,fun _=>rfl⟩
  ·exact ⟨by rw[h5,proL_len];exact Nat.le_refl _,fun h6=>absurd h6 (by omega)⟩
 have hLv:i<N→∀ x∈L,VT x:=fun h3=>by
  rcases i3 with ⟨_,h4⟩ | ⟨h5,h6,h4⟩
  ·rw[h4];intro x hx;cases hx
  ·rw[h4];exact proL_VT (hC.col h5 (by omega))
 have hstep:i<N→bst (valP l) (A.drop (i+1).toNat) (i+1) (if a=true∧(best<0∨C<0) then i else best)=B:=fun h3=>by
  have e:(a=true∧(best<0∨C<0))↔(gtR .bool A i=true∧(best<0∨cmpV (valP l i) (valP l best)<0)):=by
   rw[ha,r14,hCC,hP']
   rcases i3 with ⟨h5,_⟩ | ⟨_,_,h4⟩
   ·simp[h5]
   ·rw[h4];rfl
  rw[gtR_drop (t:=.bool) i0 (by omega),bst]at i2
  simp only[e]
  exact i2
 have hend:¬ i<N→best=B:=fun h3=>by rw[gtR_end (by omega),bst]at i2;exact i2
 have hi1:i<N→ar .add .i64 i 1=i+1:=fun h2=>by rw[r1];exact wrap64 (n:=i+1) (by omega) (by omega)
 have hnx:i<N→∀ (bb:Int) (LL:List RT),bb=(if a=true∧(best<0∨C<0) then i else best)→LL=(if a=true∧(best<0∨C<0) then P else L)→NEXT X' [(0,.tl nl tRs l),(7,.p (iv bb)),(8,.tl none tR LL),(26,.tl na .bool A),(27,.p (iv N)),(28,.p (iv (i+1)))] ⟨[],[]⟩:=fun h3 bb LL hb hL=>by
  refine NEXT.mk (hX (bb,LL,i+1) _ _ ⟨by omega,by show i+1≤N;omega,by show bst _ _ (i+1) bb=B;rw[hb];exact hstep h3,?_⟩ (by show (N - (i+1)).toNat<(N - i).toNat;omega) (.inl ⟨rfl,rfl⟩))
  show (bb = -1∧LL=[])∨(0≤bb∧bb<i+1∧LL=proL l bb)
  by_cases hc:a=true∧(best<0∨C<0)
  ·rw[if_pos hc]at hb hL
   exact .inr ⟨by omega,by omega,by rw[hL,hb,hP']⟩
  ·rw[if_neg hc]at hb hL
   rcases i3 with ⟨h5,h6⟩ | ⟨h5,h6,h7⟩
   ·exact .inl ⟨by omega,by rw[hL,h6]⟩
   ·exact .inr ⟨by omega,by omega,by rw[hL,hb,h7]⟩
 have hprf:i<N→PRF l i:=fun h3=>hC.prf i0 (by omega)
 obtain ⟨K,hK⟩:∃ K:Int,K=L.length:=⟨_,rfl⟩
 have hlL:ic (ln tR L)=K:=by rw[r4,r12,hK]
 have hlP:ic (ln tR P)=l.length:=by rw[r4,r12];show ((P.length:Nat):Int)=_;rw[hPl]
 have hB0:best<0∨0≤best:=by omega
 clear hX i2 i3 hstep hP' hC hB
 cbv
 try simp only[nc_eq]at *
 rw[hla,←ha,←hP,hlL]
 refine BR.lss r0 (fun h3=>?_) (fun h3=>?_)
 ·have hI:INB i N:=⟨i0,h3⟩
  have hn1:=hnx h3
  clear hnx
  rw[hi1 h3]
  refine ⟨hI,hI,BR.mk (fun h4=>⟨hprf h3,?_⟩) (fun h4=>hn1 _ _ (by rw[if_neg (fun h=>by rw[h4]at h;cases h.1)]) (by rw[if_neg (fun h=>by rw[h4]at h;cases h.1)]))⟩
  refine LOOP.ind (σ:=Int) (fun k=>[(0,.tl nl tRs l),(7,.p (iv best)),(8,.tl none tR L),(9,.p (iv i)),(11,.tl none tR P),(26,.tl na .bool A),(27,.p (iv N)),(28,.p (iv i)),(39,.p (iv K)),(40,.p (iv k))]) (fun _=>⟨[],[]⟩) (fun k=>(K - k).toNat)
   (fun k=>0≤k∧k≤K∧cmpV ((P.drop k.toNat).map rvT) ((L.drop k.toNat).map rvT)=C) 0 ⟨by omega,by omega,hCC.symm⟩ (.inl ⟨rfl,rfl⟩) ?_
  intro k ⟨k0,k1,k2⟩ X2 hX2
  obtain ⟨x,hx⟩:∃ x:RT,x=gt tR P k:=⟨_,rfl⟩
  obtain ⟨y,hy⟩:∃ y:RT,y=gt tR L k:=⟨_,rfl⟩
  obtain ⟨q,hq⟩:∃ q,q=cmQ (rvT x) (rvT y):=⟨_,rfl⟩
  obtain ⟨w,hw⟩:∃ w,w=cmpV ((P.drop (k+1).toNat).map rvT) ((L.drop (k+1).toNat).map rvT):=⟨_,rfl⟩
  have hxv:k<K→VT x∧VT y:=fun h5=>⟨hPv h3 x (by rw[hx,r14];exact gtR_mem (t:=tR) k0 (by omega)),hLv h3 y (by rw[hy,r14];exact gtR_mem (t:=tR) k0 (by omega))⟩
  have hst:k<K→C=if q≠0 then q else w:=fun h5=>by
   rw[←k2,gtR_drop (t:=tR) k0 (by omega),gtR_drop (t:=tR) (l:=L) k0 (by omega),hq,hx,hy,hw,r14];rfl
  have hse:¬ k<K→C=0:=fun h5=>by
   rw[←k2,gtR_end (l:=L) (by omega)];cases P.drop k.toNat <;> rfl
  have hq2:k<K→g2 x.1 x.2.1.2 x.2.2.2 y.1 y.2.1.2 y.2.2.2=q:=fun h5=>by rw[←hg2,hq];exact (hxv h5).1.cm (hxv h5).2
  have hck:k<K→CK2 x.2.1.2 x.2.2.2 y.2.1.2 y.2.2.2:=fun h5=>⟨(hxv h5).1.ckp,(hxv h5).2.ckp⟩
  have hk1:k<K→ar .add .i64 k 1=k+1:=fun h2=>by rw[r1];exact wrap64 (n:=k+1) (by omega) (by omega)
  have hnk:k<K→w=C→NEXT X2 [(0,.tl nl tRs l),(7,.p (iv best)),(8,.tl none tR L),(9,.p (iv i)),(11,.tl none tR P),(26,.tl na .bool A),(27,.p (iv N)),(28,.p (iv i)),(39,.p (iv K)),(40,.p (iv (k+1)))] ⟨[],[]⟩:=fun h5 h6=>NEXT.mk (hX2 (k+1) _ _ ⟨by omega,by omega,by rw[←hw];exact h6⟩ (by show (K - (k+1)).toNat<(K - k).toNat;omega) (.inl ⟨rfl,rfl⟩))
  clear hX2 k2 hw hq hxv hPv hLv hCC
  obtain ⟨s,⟨na',a'⟩,⟨nb',b'⟩⟩:=x
  obtain ⟨s',⟨nc',c'⟩,⟨nd',d'⟩⟩:=y
  dsimp only at hck hq2
  cbv
  try simp only[nc_eq]at *
  rw[hlP,hlL,←hx,←hy]
  simp only[r21,r22,r23,r24]
  refine BR.lss r0 (fun h5=>?_) (fun h5=>?_)
  ·have hKI:INB k K:=⟨k0,h5⟩
   have hKN:INB k l.length:=⟨k0,by omega⟩
   have hst:=hst h5
   have hb0:¬ best<0:=fun h6=>by have:=hLl.2 h6;omega
   rw[hk1 h5,hi1 h3,hq2 h5]
   refine ⟨hKN,hKN,hKI,hKI,hck h5,BR.gtr r0 (fun h6=>?_) (fun h6=>BR.lss r0 (fun h7=>?_) (fun h7=>hnk h5 ?_))⟩
   ·rw[if_pos (by omega)]at hst
    exact hn1 _ _ (by rw[if_neg (fun h=>by omega)]) (by rw[if_neg (fun h=>by omega)])
   ·rw[if_pos (by omega)]at hst
    exact hn1 _ _ (by rw[if_pos ⟨h4,.inr (by omega)⟩]) (by rw[if_pos ⟨h4,.inr (by omega)⟩])
   ·rw[if_neg (by omega)]at hst;exact hst.symm
  ·have hC0:=hse h5
   rw[hi1 h3]
   refine BR.lss r0 (fun h6=>?_) (fun h6=>?_)
   ·exact hn1 _ _ (by rw[if_pos ⟨h4,.inl h6⟩]) (by rw[if_pos ⟨h4,.inl h6⟩])
   ·exact hn1 _ _ (by rw[if_neg (fun h=>by omega)]) (by rw[if_neg (fun h=>by omega)])
 ·have hbB:=hend h3
  rw[hbB]
  refine BR.lss r0 (fun h4=>?_) (fun h4=>?_)
  ·rw[if_pos h4]at e4
   rw[e4,if_neg (by decide)]at e3
   exact ⟨e3.symm,e4.symm,trivial⟩
  ·rw[if_neg h4]at e4
   rw[e4,if_pos rfl]at e3
   exact ⟨e3.symm,e4.symm,trivial⟩
end Go.Ab
namespace Go.Ab
open Go.Proofs
def okI (n:Nat):List Int→Bool
 | []=>true
 | x :: c=>decide (0≤x∧x<n) && okI n c
def bndE (l:List AT) (c:List Int):Int:=if advE l≠0 then advE l else if c.length=0 then 3 else if c.length>8 then 4 else if okI l.length c=true then 0 else 8
def loF (l:List AT):List Int→Int→Int
 | [],x=>x
 | y :: c,x=>loF l c (max x (ownA l y).1)
def hiF (l:List AT):List Int→Int→Int
 | [],x=>x
 | y :: c,x=>hiF l c (min x (ownA l y).2)
def bndLo (l:List AT) (c:List Int):Int:=if bndE l c=0 then loF l c (-100) else 0
def bndHi (l:List AT) (c:List Int):Int:=if bndE l c=0 then hiF l c 100 else 0
theorem okI_iff {n:Nat}:∀ {c:List Int},okI n c=true↔∀ x∈c,0≤x∧x<n
 | []=>by simp[okI]
 | x :: c=>by
  rw[okI,Bool.and_eq_true,decide_eq_true_eq,okI_iff]
  simp
theorem mniF_lt:∀ {c:List Int} {m:Int},mniF m c<0↔m<0∨∃ x∈c,x<0
 | [],m=>by simp[mniF]
 | x :: c,m=>by
  rw[mniF,mniF_lt]
  constructor
  ·rintro (h | ⟨y,hy,h⟩)
   ·by_cases hm:m<0
    ·exact .inl hm
    ·exact .inr ⟨x,by simp,by omega⟩
   ·exact .inr ⟨y,by simp[hy],h⟩
  ·rintro (h | ⟨y,hy,h⟩)
   ·exact .inl (by omega)
   ·rcases List.mem_cons.1 hy with rfl | hy
    ·exact .inl (by omega)
    ·exact .inr ⟨y,hy,h⟩
theorem mxiF_ge {n:Int}:∀ {c:List Int} {m:Int},mxiF m c≥n↔m≥n∨∃ x∈c,x≥n
 | [],m=>by simp[mxiF]
 | x :: c,m=>by
  rw[mxiF,mxiF_ge]
  constructor
  ·rintro (h | ⟨y,hy,h⟩)
   ·by_cases hm:m≥n
    ·exact .inl hm
    ·exact .inr ⟨x,by simp,by omega⟩
   ·exact .inr ⟨y,by simp[hy],h⟩
  ·rintro (h | ⟨y,hy,h⟩)
   ·exact .inl (by omega)
   ·rcases List.mem_cons.1 hy with rfl | hy
    ·exact .inl (by omega)
    ·exact .inr ⟨y,hy,h⟩
theorem mn_ok {n:Nat} {c:List Int} (h:c≠[]):okI n c=true↔¬ (mniL c<0)∧¬ (mxiL c≥n):=by
 obtain ⟨x,r,rfl⟩:=List.exists_cons_of_ne_nil h
 unfold mniL mxiL
 show _↔¬ (mniF x r<0)∧¬ (mxiF x r≥(n:Int))
 rw[okI_iff,mniF_lt,mxiF_ge]
 constructor
 ·intro h1
  refine ⟨?_,?_⟩
  ·rintro (h2 | ⟨y,hy,h2⟩)
   ·have:=(h1 x (by simp)).1;omega
   ·have:=(h1 y (by simp[hy])).1;omega
  ·rintro (h2 | ⟨y,hy,h2⟩)
   ·have:=(h1 x (by simp)).2;omega
   ·have:=(h1 y (by simp[hy])).2;omega
 ·rintro ⟨h1,h2⟩ y hy
  refine ⟨?_,?_⟩
  ·refine Int.not_lt.1 fun h3=>h1 ?_
   rcases List.mem_cons.1 hy with rfl | hy
   ·exact .inl h3
   ·exact .inr ⟨y,hy,h3⟩
  ·refine Int.not_le.1 fun h3=>h2 ?_
   rcases List.mem_cons.1 hy with rfl | hy
   ·exact .inl h3
   ·exact .inr ⟨y,hy,h3⟩
theorem feA_ok:∀ {l:List AT},feA l=0→∀ x∈l,-100≤(x.2.1:Int)∧(x.2.1:Int)≤x.2.2∧(x.2.2:Int)≤100
 | [],_,x,hx=>by cases hx
 | y :: l,h,x,hx=>by
  unfold feA at h
  by_cases h1:chkA y≠0
  ·rw[if_pos h1]at h;exact absurd h h1
  ·rw[if_neg h1]at h
   rcases List.mem_cons.1 hx with rfl | hx
   ·obtain ⟨a,b,c⟩:=x
    change Int at a b c
    have h1:(if a≠1∧a≠2 then 6 else if b>c∨b < -100∨c>100 then 1 else 0:Int)=0:=Classical.not_not.1 h1
    show -100≤b∧b≤c∧c≤100
    split at h1
    ·exact absurd h1 (by decide)
    ·split at h1
     ·exact absurd h1 (by decide)
     ·omega
   ·exact feA_ok h x hx
theorem own_ok {l:List AT} (h:advE l=0) {b:Int} (h0:0≤b) (h1:b<l.length) : -100≤(ownA l b).1∧(ownA l b).1≤(ownA l b).2∧(ownA l b).2≤100:=by
 unfold ownA
 by_cases hb:b=0
 ·rw[if_pos hb];decide
 ·rw[if_neg hb]
  unfold advE at h
  split at h
  ·exact absurd h (by decide)
  ·split at h
   ·exact absurd h (by decide)
   ·refine feA_ok h _ ?_
    have e:gtR tA l b=gtR tA (l.drop 1) (b - 1):=by
     unfold gtR
     rw[List.getD_eq_getElem?_getD,List.getD_eq_getElem?_getD,List.getElem?_drop,show 1+(b - 1).toNat=b.toNat by omega]
    rw[e]
    exact gtR_mem (t:=tA) (by omega) (by rw[List.length_drop];omega)
theorem lo_ok {l:List AT} (h:advE l=0):∀ {c:List Int} {x:Int},okI l.length c=true→-100≤x→x≤100→-100≤loF l c x∧loF l c x≤100
 | [],x,_,h1,h2=>⟨h1,h2⟩
 | y :: c,x,hc,h1,h2=>by
  rw[okI,Bool.and_eq_true,decide_eq_true_eq]at hc
  obtain ⟨k1,k2,k3⟩:=own_ok h hc.1.1 hc.1.2
  rw[loF]
  exact lo_ok h hc.2 (by omega) (by omega)
theorem hi_ok {l:List AT} (h:advE l=0):∀ {c:List Int} {x:Int},okI l.length c=true→-100≤x→x≤100→-100≤hiF l c x∧hiF l c x≤100
 | [],x,_,h1,h2=>⟨h1,h2⟩
 | y :: c,x,hc,h1,h2=>by
  rw[okI,Bool.and_eq_true,decide_eq_true_eq]at hc
  obtain ⟨k1,k2,k3⟩:=own_ok h hc.1.1 hc.1.2
  rw[hiF]
  exact hi_ok h hc.2 (by omega) (by omega)
theorem mx_t {mx:Bool→Int→Int→Int} (h:mx=mxR) (x y:Int):mx true x y=max x y:=by rw[h];unfold mxR;simp only[if_true];omega
theorem mx_f {mx:Bool→Int→Int→Int} (h:mx=mxR) (x y:Int):mx false x y=min x y:=by rw[h];unfold mxR;simp only[Bool.false_eq_true,if_false];omega
theorem cBound (nl:Option Bool) (l:List AT) (nc:Option Bool) (c:List Int):PurS Tryz.prog 24 [injT (.sl tA) (nl,l),injT (.sl tI) (nc,c)] (.tup [.p (iv (bndLo l c)),.p (iv (bndHi l c)),.p (iv (bndE l c))]):=by
 refine PurS.of (S:=[(30,_),(48,_),(49,_),(50,_)]) (T:=[]) (U:=[]) (tbl:=[]) (n:=55) hm31 cfg (.cons (spT1.ok (a:=(.sl (.pair (.int .u8) (.pair (.int .i64) (.int .i64))))) (pre:=fun _=>True) fun x0 _=>cAdv x0.1 x0.2) (.cons (spT1.ok (a:=(.sl (.int .i64))) fun x0 h=>cMin x0.1 x0.2 h) (.cons (spT1.ok (a:=(.sl (.int .i64))) fun x0 h=>cMax x0.1 x0.2 h) (.cons (spT2.ok (a:=(.sl (.pair (.int .u8) (.pair (.int .i64) (.int .i64))))) (b:=(.int .i64)) fun x0 x1 h=>cBnds x0.1 x0.2 x1 h) .nil)))) .nil .nil .nil 0 Tryz.call24 Tryz.func24 (ac24_ok (some (0,0))) (by rw[Tryz.ntmps24];exact Nat.le_refl _) rfl ⟨_,rfl⟩ ?_
 intro cmp ar cv tn ic ai mx an ad ml sb mn ln em gt up ap sc vw cp rp p1 p2 s1 s2 X Y hX hY r0 r1 r2 r3 r4 r5 r6 r7 r8 r9 r10 r11 r12 r13 r14 r15 r16 r17 r18 r19 r20 r21 r22 r23 r24
 generalize hg0:advE=g0
 generalize hg1:mniL=g1
 generalize hg2:mxiL=g2
 generalize hg3:bndS=g3
 generalize hg4:ownA=g4
 generalize hg5:bndLo=g5
 generalize hg6:bndHi=g6
 generalize hg7:bndE=g7
 cbv
 have hll:ic (ln tA l)=l.length:=by rw[r4,r12]
 obtain ⟨N,hN⟩:∃ N:Int,N=c.length:=⟨_,rfl⟩
 have hlc:ic (ln tI c)=N:=by rw[r4,r12,hN]
 have e0:g0 l=advE l:=by rw[←hg0]
 have e7:g7 l c=if advE l≠0 then advE l else if c.length=0 then 3 else if c.length>8 then 4 else if okI l.length c=true then 0 else 8:=by rw[←hg7];rfl
 have e5:g5 l c=if g7 l c=0 then loF l c (-100) else 0:=by rw[←hg5,←hg7];rfl
 have e6:g6 l c=if g7 l c=0 then hiF l c 100 else 0:=by rw[←hg6,←hg7];rfl
 have bad:∀ k,k≠0→g7 l c=k→0=g5 l c∧0=g6 l c∧k=g7 l c∧True:=fun k h1 h2=>by
  rw[h2,if_neg h1]at e5 e6
  exact ⟨e5.symm,e6.symm,h2.symm,trivial⟩
 rw[hll,hlc]
 refine BR.neq r0 (fun h1=>?_) (fun h1=>?_)
 ·rw[e0]at h1
  rw[if_pos h1]at e7
  rw[e7,if_neg h1]at e5 e6
  exact ⟨e5.symm,e6.symm,e0.trans e7.symm,trivial⟩
 have h1:advE l=0:=by rw[←e0];exact Classical.not_not.1 h1
 rw[if_neg (fun h=>h h1)]at e7
 refine BR.eql r0 (fun h2=>?_) (fun h2=>BR.gtr r0 (fun h3=>?_) (fun h3=>?_))
 ·rw[if_pos (by omega)]at e7;exact bad 3 (by decide) e7
 ·rw[if_neg (by omega),if_pos (by omega)]at e7;exact bad 4 (by decide) e7
 rw[if_neg (by omega),if_neg (by omega)]at e7
 have hc0:c≠[]:=fun e=>by rw[e]at hN;simp at hN;omega
 have hMN:MNK c:=⟨hc0,by omega⟩
 have hok:=mn_ok (n:=l.length) hc0
 rw[hg1,hg2]at hok
 refine ⟨hMN,BR.lss r0 (fun h4=>?_) (fun h4=>⟨hMN,BR.geq r0 (fun h5=>?_) (fun h5=>?_)⟩)⟩
 ·rw[if_neg (fun h=>(hok.1 h).1 h4)]at e7;exact bad 8 (by decide) e7
 ·rw[if_neg (fun h=>(hok.1 h).2 h5)]at e7;exact bad 8 (by decide) e7
 have hokc:=hok.2 ⟨h4,h5⟩
 rw[if_pos hokc]at e7
 rw[e7,if_pos rfl]at e5 e6
 have hix:=okI_iff.1 hokc
 refine LOOP.ind (σ:=Int×Int×Int) (fun (lo,hi,i)=>[(0,.tl nl tA l),(4,.p (iv lo)),(5,.p (iv hi)),(35,.tl nc tI c),(36,.p (iv N)),(37,.p (iv i))]) (fun _=>⟨[],[]⟩) (fun (_,_,i)=>(N - i).toNat)
  (fun (lo,hi,i)=>0≤i∧i≤N∧loF l (c.drop i.toNat) lo=g5 l c∧hiF l (c.drop i.toNat) hi=g6 l c) (-100,100,0) ⟨by omega,by show (0:Int)≤N;omega,e5.symm,e6.symm⟩ (.inl ⟨rfl,rfl⟩) ?_
 intro ⟨lo,hi,i⟩ ⟨i0,i1,i2,i3⟩ X' hX
 obtain ⟨x,hx⟩:∃ x:Int,x=gt tI c i:=⟨_,rfl⟩
 have hxi:i<N→IXP l x:=fun h6=>by
  have:=hix x (by rw[hx,r14];exact gtR_mem (t:=tI) i0 (by omega))
  exact ⟨this.1,.inr this.2⟩
 have hst:i<N→loF l (c.drop (i+1).toNat) (max lo (ownA l x).1)=g5 l c∧hiF l (c.drop (i+1).toNat) (min hi (ownA l x).2)=g6 l c:=fun h6=>by
  rw[gtR_drop (t:=tI) i0 (by omega),show gtR tI c i=x by rw[hx,r14]]at i2 i3
  exact ⟨i2,i3⟩
 have hse:¬ i<N→lo=g5 l c∧hi=g6 l c:=fun h6=>by
  rw[gtR_end (by omega)]at i2 i3;exact ⟨i2,i3⟩
 rw[hg4]at hst
 have hi1:i<N→ar .add .i64 i 1=i+1:=fun h2=>by rw[r1];exact wrap64 (n:=i+1) (by omega) (by omega)
 have m1:=mx_t r6 lo (g4 l x).1
 have m2:=mx_f r6 hi (g4 l x).2
 obtain ⟨u,hu⟩:∃ u,u=max lo (g4 l x).1:=⟨_,rfl⟩
 obtain ⟨v,hv⟩:∃ u,u=min hi (g4 l x).2:=⟨_,rfl⟩
 rw[←hu,←hv]at hst
 rw[←hu]at m1
 rw[←hv]at m2
 have hnx:i<N→∀ B,NEXT X' [(0,.tl nl tA l),(4,.p (iv u)),(5,.p (iv v)),(35,.tl nc tI c),(36,.p (iv N)),(37,.p (iv (i+1)))] ⟨[B],[]⟩:=fun h6 B=>NEXT.mk (hX (u,v,i+1) _ _ ⟨by omega,by show i+1≤N;omega,(hst h6).1,(hst h6).2⟩ (by show (N - (i+1)).toNat<(N - i).toNat;omega) (.inr ⟨[],[],by rw[SIM_iff];cbv;simp[nlLe_self]⟩))
 clear hX hst i2 i3 hu hv
 cbv
 try simp only[nc_eq]at *
 rw[hlc,←hx,m1,m2]
 refine BR.lss r0 (fun h6=>?_) (fun h6=>?_)
 ·have hI:INB i N:=⟨i0,h6⟩
  rw[hi1 h6]
  exact ⟨hI,hI,hxi h6,hnx h6 _⟩
 ·exact ⟨(hse h6).1,(hse h6).2,e7.symm,trivial⟩
end Go.Ab
namespace Go.Ab
open Go.Proofs
def excA (l:List AT) (lo hi b:Int):Int:=max 0 (lo - (ownA l b).1)+max 0 ((ownA l b).2 - hi)
def widA (l:List AT) (b:Int):Int:=(ownA l b).2 - (ownA l b).1
def jnF (l:List AT) (lo hi:Int):Nat→Int→Int→Int
 | 0,_,best=>best
 | n+1,b,best=>jnF l lo hi n (b+1) (if excA l lo hi b<excA l lo hi best∨(excA l lo hi b=excA l lo hi best∧widA l b>widA l best) then b else best)
def joinN (l:List AT) (c:List Int):Int:=if bndE l c=0 then jnF l (bndLo l c) (bndHi l c) (l.length - 1) 1 0 else 0
theorem bnd_ok {l:List AT} {c:List Int} (h:bndE l c=0):advE l=0∧0<l.length∧l.length≤6∧(-100≤bndLo l c∧bndLo l c≤100)∧(-100≤bndHi l c∧bndHi l c≤100)∧c≠[]∧c.length≤8∧okI l.length c=true:=by
 have h0:=h
 unfold bndE at h
 by_cases h1:advE l≠0
 ·rw[if_pos h1]at h;exact absurd h h1
 rw[if_neg h1]at h
 have h1:=Classical.not_not.1 h1
 split at h
 ·exact absurd h (by decide)
 split at h
 ·exact absurd h (by decide)
 split at h
 ·rename_i h2 h3 h4
  unfold bndLo bndHi
  rw[if_pos h0,if_pos h0]
  have h5:0<l.length∧l.length≤6:=by
   have h6:=h1
   unfold advE at h6
   split at h6
   ·exact absurd h6 (by decide)
   ·split at h6
    ·exact absurd h6 (by decide)
    ·omega
  exact ⟨h1,h5.1,h5.2,lo_ok h1 h4 (by decide) (by decide),hi_ok h1 h4 (by decide) (by decide),fun e=>by rw[e]at h2;exact h2 rfl,by omega,h4⟩
 ·exact absurd h (by decide)
theorem cJoin (nl:Option Bool) (l:List AT) (nc:Option Bool) (c:List Int):PurS Tryz.prog 26 [injT (.sl tA) (nl,l),injT (.sl tI) (nc,c)] (.tup [.p (iv (joinN l c)),.p (iv (bndE l c))]):=by
 refine PurS.of (S:=[(24,_),(50,_)]) (T:=[]) (U:=[]) (tbl:=[(53,ac53 none,[.tmp 5],21),(54,ac54 none,[.tmp 3],13)]) (n:=56) hm31 cfg (.cons (spT2.ok (a:=(.sl (.pair (.int .u8) (.pair (.int .i64) (.int .i64))))) (b:=(.sl (.int .i64))) (pre:=fun _ _=>True) fun x0 x1 _=>cBound x0.1 x0.2 x1.1 x1.2) (.cons (spT2.ok (a:=(.sl (.pair (.int .u8) (.pair (.int .i64) (.int .i64))))) (b:=(.int .i64)) fun x0 x1 h=>cBnds x0.1 x0.2 x1 h) .nil)) .nil .nil (.cons Tryz.call53 Tryz.func53 (ac53_ok none) (by rw[Tryz.ntmps53];exact Nat.le_refl _) (.cons Tryz.call54 Tryz.func54 (ac54_ok none) (by rw[Tryz.ntmps54];exact Nat.le_refl _) .nil)) 6 Tryz.call26 Tryz.func26 (ac26_ok (some (0,0))) (by rw[Tryz.ntmps26];exact Nat.le_refl _) rfl ⟨_,rfl⟩ ?_
 intro cmp ar cv tn ic ai mx an ad ml sb mn ln em gt up ap sc vw cp rp p1 p2 s1 s2 X Y hX hY r0 r1 r2 r3 r4 r5 r6 r7 r8 r9 r10 r11 r12 r13 r14 r15 r16 r17 r18 r19 r20 r21 r22 r23 r24
 generalize hg0:bndS=g0
 generalize hg1:ownA=g1
 generalize hg2:bndLo=g2
 generalize hg3:bndHi=g3
 generalize hg4:bndE=g4
 generalize hg5:joinN=g5
 cbv
 have e4:g5 l c=if bndE l c=0 then jnF l (bndLo l c) (bndHi l c) (l.length - 1) 1 0 else 0:=by rw[←hg5];rfl
 have e3:g4 l c=bndE l c:=by rw[←hg4]
 refine BR.neq r0 (fun h1=>?_) (fun h1=>?_)
 ·rw[←e3,if_neg h1]at e4
  exact ⟨e4.symm,rfl,trivial⟩
 have h1':bndE l c=0:=by rw[←e3];exact Classical.not_not.1 h1
 have e3z:g4 l c=0:=Classical.not_not.1 h1
 obtain ⟨k1,k2,k3,k4,k5,_⟩:=bnd_ok h1'
 rw[if_pos h1']at e4
 obtain ⟨lo,hlo⟩:∃ x,x=bndLo l c:=⟨_,rfl⟩
 obtain ⟨hi,hhi⟩:∃ x,x=bndHi l c:=⟨_,rfl⟩
 have e1:g2 l c=lo:=by rw[←hg2,hlo]
 have e2:g3 l c=hi:=by rw[←hg3,hhi]
 rw[←hlo,←hhi]at e4
 rw[←hlo]at k4
 rw[←hhi]at k5
 obtain ⟨N,hN⟩:∃ N:Int,N=l.length:=⟨_,rfl⟩
 have hll:ic (ln tA l)=N:=by rw[r4,r12,hN]
 have e1':g2 (nl,l).2 (nc,c).2=lo:=e1
 have e2':g3 (nl,l).2 (nc,c).2=hi:=e2
 rw[e1',e2']
 refine LOOP.ind (σ:=Int×Int) (fun (best,b)=>[(2,.ptr 0 0),(9,.fn (.func 53) [] [.ptr 0 0,.ptr 1 0,.ptr 2 0]),(10,.fn (.func 54) [] [.ptr 0 0]),(11,.p (iv best)),(12,.p (iv b))]) (fun _=>⟨[{ cells:=[.tl nl tA l],e:=38,fz:=false },{ cells:=[.p (iv lo)],e:=3,fz:=false },{ cells:=[.p (iv hi)],e:=3,fz:=false }],[]⟩) (fun (_,b)=>(N - b).toNat)
  (fun (best,b)=>1≤b∧b≤N∧jnF l lo hi (N - b).toNat b best=g5 l c∧0≤best∧best<b) (0,1) ⟨by omega,by show (1:Int)≤N;omega,by rw[e4];show jnF l lo hi (N - 1).toNat 1 0=_;rw[show (N - 1).toNat=l.length - 1 by omega],by show (0:Int)≤0;omega,by show (0:Int)<1;omega⟩ (.inl ⟨rfl,rfl⟩) ?_
 intro ⟨best,b⟩ ⟨i0,i1,i2,i3,i4⟩ X' hX
 obtain ⟨⟨x,y⟩,hx⟩:∃ x,x=ownA l b:=⟨_,rfl⟩
 obtain ⟨⟨p,q⟩,hp⟩:∃ x,x=ownA l best:=⟨_,rfl⟩
 have ox:b<N→-100≤x∧x≤y∧y≤100:=fun h=>by have:=own_ok k1 (b:=b) (by omega) (by omega);rw[←hx]at this;exact this
 have op:b<N→-100≤p∧p≤q∧q≤100:=fun h=>by have:=own_ok k1 (b:=best) (by omega) (by omega);rw[←hp]at this;exact this
 have f0:g1 l b=(x,y):=by rw[←hg1,hx]
 have f1:g1 l best=(p,q):=by rw[←hg1,hp]
 have hst:b<N→jnF l lo hi (N - (b+1)).toNat (b+1) (if max 0 (lo - x)+max 0 (y - hi)<max 0 (lo - p)+max 0 (q - hi)∨(max 0 (lo - x)+max 0 (y - hi)=max 0 (lo - p)+max 0 (q - hi)∧y - x>q - p) then b else best)=g5 l c:=fun h=>by
  rw[show (N - b).toNat=(N - (b+1)).toNat+1 by omega,jnF]at i2
  unfold excA widA at i2
  rw[←hx,←hp]at i2
  exact i2
 have hse:¬ b<N→best=g5 l c:=fun h=>by rw[show (N - b).toNat=0 by omega,jnF]at i2;exact i2
 have hi1:b<N→ar .add .i64 b 1=b+1:=fun h2=>by rw[r1];exact wrap64 (n:=b+1) (by omega) (by omega)
 have hnx:b<N→∀ bb:Int,bb=(if max 0 (lo - x)+max 0 (y - hi)<max 0 (lo - p)+max 0 (q - hi)∨(max 0 (lo - x)+max 0 (y - hi)=max 0 (lo - p)+max 0 (q - hi)∧y - x>q - p) then b else best)→∀ B,NEXT X' [(2,.ptr 0 0),(9,.fn (.func 53) [] [.ptr 0 0,.ptr 1 0,.ptr 2 0]),(10,.fn (.func 54) [] [.ptr 0 0]),(11,.p (iv bb)),(12,.p (iv (b+1)))] ⟨{ cells:=[.tl nl tA l],e:=38,fz:=false } :: { cells:=[.p (iv lo)],e:=3,fz:=false } :: { cells:=[.p (iv hi)],e:=3,fz:=false } :: B,[]⟩:=fun h bb hb B=>NEXT.mk (hX (bb,b+1) _ _ ⟨by omega,by show b+1≤N;omega,by show jnF l lo hi (N - (b+1)).toNat (b+1) bb=_;rw[hb];exact hst h,by show 0≤bb;rw[hb];split <;> omega,by show bb<b+1;rw[hb];split <;> omega⟩ (by show (N - (b+1)).toNat<(N - b).toNat;omega) (.inr ⟨[some 0,some 1,some 2],[],by rw[SIM_iff];cbv;simp[nlLe_self]⟩))
 have hix:b<N→IXP l b∧IXP l best:=fun h=>⟨⟨by omega,.inr (by omega)⟩,⟨by omega,.inr (by omega)⟩⟩
 have sb1:b<N→ar .sub .i64 lo x=lo - x∧ar .sub .i64 y hi=y - hi∧ar .sub .i64 lo p=lo - p∧ar .sub .i64 q hi=q - hi∧ar .sub .i64 y x=y - x∧ar .sub .i64 q p=q - p:=fun h=>by
  have:=ox h;have:=op h
  rw[r1]
  exact ⟨wrap64 (n:=lo - x) (by omega) (by omega),wrap64 (n:=y - hi) (by omega) (by omega),wrap64 (n:=lo - p) (by omega) (by omega),wrap64 (n:=q - hi) (by omega) (by omega),wrap64 (n:=y - x) (by omega) (by omega),wrap64 (n:=q - p) (by omega) (by omega)⟩
 have m0:=fun x y=>mx_t r6 x y
 have ad1:b<N→ar .add .i64 (max 0 (lo - x)) (max 0 (y - hi))=max 0 (lo - x)+max 0 (y - hi)∧ar .add .i64 (max 0 (lo - p)) (max 0 (q - hi))=max 0 (lo - p)+max 0 (q - hi):=fun h=>by
  have:=ox h;have:=op h
  rw[r1]
  exact ⟨wrap64 (n:=max 0 (lo - x)+max 0 (y - hi)) (by omega) (by omega),wrap64 (n:=max 0 (lo - p)+max 0 (q - hi)) (by omega) (by omega)⟩
 have dd1:b<N→ar .sub .i64 (max 0 (lo - x)+max 0 (y - hi)) (max 0 (lo - p)+max 0 (q - hi))=(max 0 (lo - x)+max 0 (y - hi)) - (max 0 (lo - p)+max 0 (q - hi)):=fun h=>by
  have:=ox h;have:=op h
  rw[r1]
  exact wrap64 (n:=(max 0 (lo - x)+max 0 (y - hi)) - (max 0 (lo - p)+max 0 (q - hi))) (by omega) (by omega)
 clear hX hst i2 hx hp
 cbv
 try simp only[nc_eq]at *
 rw[hll,f0,f1]
 dsimp only
 refine BR.lss r0 (fun h=>?_) (fun h=>⟨hse h,e3z.symm,trivial⟩)
 have hn1:=hnx h
 obtain ⟨s1,s2,s3,s4,s5,s6⟩:=sb1 h
 obtain ⟨a1,a2⟩:=ad1 h
 rw[hi1 h,s1,s2,s3,s4,s5,s6,m0,m0,m0,m0,a1,a2,dd1 h]
 obtain ⟨E1,hE1⟩:∃ z,z=max 0 (lo - x)+max 0 (y - hi):=⟨_,rfl⟩
 obtain ⟨E2,hE2⟩:∃ z,z=max 0 (lo - p)+max 0 (q - hi):=⟨_,rfl⟩
 rw[←hE1,←hE2]at hn1 ⊢
 clear hnx s1 s2 s3 s4 s5 s6 a1 a2 m0 ox op hse hi1 sb1 ad1 dd1 hE1 hE2
 refine ⟨(hix h).1,(hix h).2,BR.lss r0 (fun h5=>hn1 _ (by rw[if_pos (.inl (by omega))]) _) (fun h5=>BR.eql r0 (fun h6=>⟨(hix h).1,(hix h).2,BR.gtr r0 (fun h7=>hn1 _ (by rw[if_pos (.inr ⟨by omega,h7⟩)]) _) (fun h7=>hn1 _ (by rw[if_neg (by omega)]) _)⟩) (fun h6=>hn1 _ (by rw[if_neg (by omega)]) _))⟩
end Go.Ab
