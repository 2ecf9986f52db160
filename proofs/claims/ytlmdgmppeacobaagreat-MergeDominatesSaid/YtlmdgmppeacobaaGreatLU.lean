/- MergeDominates. -/
import Derived.Test.YtlmdgmppeacobaaGreatLT
set_option linter.unusedSimpArgs false
set_option linter.unusedVariables false
set_option maxRecDepth 20000
set_option maxHeartbeats 4000000
namespace Go.Ab
open Go.Proofs
theorem VT.cmE {x y:RT} (hx:VT x) (hy:VT y):cmE x.1 x.2.1.2 x.2.2.2 y.1 y.2.1.2 y.2.2.2=0:=by
 have h1:=hx.chk
 have h2:=hy.chk
 unfold rck at h1 h2
 unfold Ab.cmE
 rw[h1,h2];rfl
theorem MC.worAt {l:List RS} (h:MC l) (hc:mchk l=0):(worL l).length=(row0 l).length∧∀ b:Int,0≤b→b<(row0 l).length→gtR tR (worL l) b=clR (mxF l b):=by
 obtain ⟨_,h2⟩:=h.wor
 rw[if_pos hc]at h2
 refine ⟨by rw[h2];simp,fun b b0 b1=>?_⟩
 have hb:b.toNat<(row0 l).length:=by omega
 rw[h2]
 unfold gtR
 rw[List.getD_eq_getElem?_getD,List.getElem?_map,List.getElem?_range hb]
 show clR (mxF l (b.toNat:Int))=_
 rw[show ((b.toNat:Nat):Int)=b by omega]
theorem cDom (nl:Option Bool) (l:List RS) (na:Option Bool) (A:List Bool) (h:ARGR l):PurS Tryz.prog 8 [injT (.sl tRs) (nl,l),injT (.sl .bool) (na,A)] (.sb true):=by
 refine PurS.of (S:=[(11,_),(10,_),(19,_),(18,_),(32,_)]) (T:=[]) (U:=[]) (tbl:=[]) (n:=154) hm31 cfg (.cons (spT0.ok cAwake) (.cons (spT1.ok (a:=(.sl (.sl (.pair .bool (.pair (.sl (.int .u32)) (.sl (.int .u32))))))) fun x0 h=>cLong x0.1 x0.2 h) (.cons (spT2.ok (a:=(.sl (.sl (.pair .bool (.pair (.sl (.int .u32)) (.sl (.int .u32))))))) (b:=(.sl .bool)) fun x0 x1 h=>cMBest x0.1 x0.2 x1.1 x1.2 h) (.cons (spT1.ok (a:=(.sl (.sl (.pair .bool (.pair (.sl (.int .u32)) (.sl (.int .u32))))))) fun x0 h=>cMWorst x0.1 x0.2 h) (.cons (spT2.ok (a:=(.pair .bool (.pair (.sl (.int .u32)) (.sl (.int .u32))))) (b:=(.pair .bool (.pair (.sl (.int .u32)) (.sl (.int .u32))))) fun x0 x1 h=>cRCmp x0.1 x0.2.1.1 x0.2.1.2 x0.2.2.1 x0.2.2.2 x1.1 x1.2.1.1 x1.2.1.2 x1.2.2.1 x1.2.2.2 h) .nil))))) .nil .nil .nil 0 Tryz.call8 Tryz.func8 (ac8_ok (some (0,0))) (by rw[Tryz.ntmps8];exact Nat.le_refl _) rfl ⟨_,rfl⟩ ?_
 intro cmp ar cv tn ic ai mx an ad ml sb mn ln em gt up ap sc vw cp rp p1 p2 s1 s2 X Y hX hY r0 r1 r2 r3 r4 r5 r6 r7 r8 r9 r10 r11 r12 r13 r14 r15 r16 r17 r18 r19 r20 r21 r22 r23 r24
 generalize hg0:longB=g0
 generalize hg1:bstN=g1
 generalize hg2:bstE=g2
 generalize hg3:worL=g3
 generalize hg4:worE=g4
 generalize hg5:cmR=g5
 generalize hg6:cmE=g6
 cbv
 have kT:BR true True (false=true):=BR.mk (fun _=>trivial) (fun h=>by cases h)
 dsimp only
 refine ⟨h.g,BR.mk (fun _=>kT) (fun h1=>BR.mk (fun _=>?_) (fun h=>by cases h))⟩
 have h1':longB l=false:=by rw[hg0];exact h1
 obtain ⟨hM,hn12⟩:=h.mc h1'
 obtain ⟨L,hL⟩:∃ L:Int,L=l.length:=⟨_,rfl⟩
 have hll:ic (ln tRs l)=L:=by rw[r4,r12,hL]
 obtain ⟨N,hN⟩:∃ N:Int,N=A.length:=⟨_,rfl⟩
 have hla:ic (ln .bool A)=N:=by rw[r4,r12,hN]
 refine ⟨hM,BR.neq r0 (fun h2=>?_) (fun h2=>⟨hM,?_⟩)⟩
 ·have:bstN l A=0:=by unfold bstN;rw[hg2,if_neg h2]
  rw[hg1]at this
  rw[this];exact BR.eql r0 (fun _=>trivial) (fun h=>absurd rfl h)
 have hE:bstE l A=0:=by rw[hg2];exact Classical.not_not.1 h2
 obtain ⟨k1,k2,k3,k4,k5,k6⟩:=best_ok hE
 have hC:=hM.cost k1
 have e4:g4 l=0:=by rw[←hg4,(hM.wor).1];exact k1
 obtain ⟨n,hn⟩:∃ n,n=bstN l A:=⟨_,rfl⟩
 have e1:g1 l A=n:=by rw[←hg1,hn]
 rw[←hn]at k3 k4 k5 k6
 obtain ⟨W,hW⟩:∃ W,W=worL l:=⟨_,rfl⟩
 have e3:g3 l=W:=by rw[←hg3,hW]
 obtain ⟨w1,w2⟩:=hM.worAt k1
 rw[←hW]at w1 w2
 rw[←k2]at hC w1 w2
 have hlW:ic (ln tR W)=N:=by rw[r4,r12,hN];show ((W.length:Nat):Int)=_;rw[w1]
 have hgn:gt .bool A n=true:=by rw[r14];exact k5
 have hnI:INB n N:=⟨k3,by omega⟩
 have hrow:∀ (j b:Int),0≤j→j<L→0≤b→b<N→(gtR tRs l j).2.length=A.length∧gtR tR (gtR tRs l j).2 b=gtR tR (colL l b) j∧VT (gtR tR (colL l b) j):=fun j b j0 j1 b0 b1=>by
  have hj:j.toNat<l.length:=by omega
  have hr:=gtR_mem (t:=tRs) (l:=l) j0 (by omega)
  have e:gtR tR (gtR tRs l j).2 b=gtR tR (colL l b) j:=by simp[colL,gtR,hj]
  have hl:=hC.row _ hr
  exact ⟨hl,e,by rw[←e];exact hC.v _ hr _ (gtR_mem (t:=tR) b0 (by rw[hl];omega))⟩
 have hWv:∀ b:Int,0≤b→b<N→VT (gtR tR W b)∧rvT (gtR tR W b)=rvT (mxF l b):=fun b b0 b1=>by
  rw[w2 b b0 (by omega)];exact ⟨(hC.mx b0 (by omega)).1.cl,rfl⟩
 have hdom:∀ b:Int,0≤b→b<N→gt .bool A b=true→¬ rvT (mxF l b)<rvT (mxF l n)∧((∀ j:Int,0≤j→j<L→rvT (gtR tR (colL l b) j)≤rvT (gtR tR (colL l n) j))→¬ ∃ j:Int,0≤j∧j<L∧rvT (gtR tR (colL l b) j)<rvT (gtR tR (colL l n) j)):=fun b b0 b1 ha=>by
  rw[r14]at ha
  have hk:=k6 b b0 (by omega) ha
  refine ⟨fun hlt=>hk ?_,fun hp=>?_⟩
  ·obtain ⟨u,hu⟩:=valP_head hC b0 (by omega)
   obtain ⟨v,hv⟩:=valP_head hC k3 (by omega)
   rw[hu,hv,cmpV_cons];exact .inl hlt
  ·rintro ⟨j,j0,j1,j2⟩
   have hcl:=colL_len l b
   have hp2:=PLE.of (a:=colL l b) (b:=colL l n) (by rw[hcl,colL_len]) (fun j j0 j1=>hp j j0 (by omega))
   exact hk (dominates hp2 (PLE.lt j j0 (by omega) j2 hp2))
 rw[e1,e3,e4,hlW,hla,hgn,BR_true]
 have hN6:N≤6:=by have:=hC.m6;omega
 clear hC hM k6 w2 hW hn k5
 refine BR.nn r0 (BR.lss r0 (fun h=>absurd h (by omega)) (fun _=>BR.geq r0 (fun h=>absurd h (by omega)) (fun _=>BR.nn r0 ⟨hnI,hnI,?_⟩)))
 refine LOOP.ind (σ:=Int) (fun i=>[(0,.tl nl tRs l),(1,.tl na .bool A),(5,.p (iv n)),(7,.tl none tR W),(9,.p (iv i))]) (fun _=>⟨[],[]⟩) (fun i=>(L - i).toNat) (fun i=>0≤i∧i≤L) 0 ⟨by omega,by omega⟩ (.inl ⟨rfl,rfl⟩) ?_
 intro i ⟨i0,i1⟩ X1 hX1
 have hnx1:i<L→NEXT X1 [(0,.tl nl tRs l),(1,.tl na .bool A),(5,.p (iv n)),(7,.tl none tR W),(9,.p (iv (i+1)))] ⟨[],[]⟩:=fun h=>NEXT.mk (hX1 (i+1) _ _ ⟨by omega,by omega⟩ (by show (L - (i+1)).toNat<(L - i).toNat;omega) (.inl ⟨rfl,rfl⟩))
 have hi1:i<L→ar .add .i64 i 1=i+1:=fun h2=>by rw[r1];exact wrap64 (n:=i+1) (by omega) (by omega)
 have hrl:i<L→ic (ln tR (s2 tR (gt tRs l i)))=N:=fun h=>by
  rw[r24,r14,r4,r12,hN]
  show (((gtR tRs l i).2.length:Nat):Int)=_
  rw[(hrow i n i0 h k3 (by omega)).1]
 clear hX1
 cbv
 try simp only[nc_eq]at *
 rw[hll,hlW]
 refine BR.lss r0 (fun h=>?_) (fun _=>?_)
 ·have hI:INB i L:=⟨i0,h⟩
  rw[hrl h,hi1 h]
  exact ⟨hI,hI,BR.nn r0 (hnx1 h)⟩
 clear hnx1 hi1 hrl i0 i1
 refine LOOP.ind (σ:=Int) (fun b=>[(0,.tl nl tRs l),(1,.tl na .bool A),(5,.p (iv n)),(7,.tl none tR W),(10,.p (iv b))]) (fun _=>⟨[],[]⟩) (fun b=>(N - b).toNat) (fun b=>0≤b∧b≤N) 0 ⟨by omega,by omega⟩ (.inl ⟨rfl,rfl⟩) ?_
 intro b ⟨b0,b1⟩ X' hX
 obtain ⟨a,ha⟩:∃ a:Bool,a=gt .bool A b:=⟨_,rfl⟩
 obtain ⟨x,hx⟩:∃ x:RT,x=gt tR W b:=⟨_,rfl⟩
 obtain ⟨y,hy⟩:∃ y:RT,y=gt tR W n:=⟨_,rfl⟩
 have hxv:b<N→VT x∧rvT x=rvT (mxF l b):=fun h=>by rw[hx,r14];exact hWv b b0 h
 have hyv:VT y∧rvT y=rvT (mxF l n):=by rw[hy,r14];exact hWv n k3 (by omega)
 obtain ⟨q,hq⟩:∃ q,q=cmQ (rvT x) (rvT y):=⟨_,rfl⟩
 have f5:b<N→g5 x.1 x.2.1.2 x.2.2.2 y.1 y.2.1.2 y.2.2.2=q∧g6 x.1 x.2.1.2 x.2.2.2 y.1 y.2.1.2 y.2.2.2=0∧CK2 x.2.1.2 x.2.2.2 y.2.1.2 y.2.2.2:=fun h=>by
  rw[←hg5,←hg6,hq];exact ⟨(hxv h).1.cm hyv.1,(hxv h).1.cmE hyv.1,⟨(hxv h).1.ckp,hyv.1.ckp⟩⟩
 have hd:b<N→a=true→¬ q<0∧((∀ j:Int,0≤j→j<L→rvT (gtR tR (colL l b) j)≤rvT (gtR tR (colL l n) j))→¬ ∃ j:Int,0≤j∧j<L∧rvT (gtR tR (colL l b) j)<rvT (gtR tR (colL l n) j)):=fun h h1=>by
  have:=hdom b b0 h (by rw[←ha];exact h1)
  rw[hq,cmQ_lt,(hxv h).2,hyv.2];exact this
 have hrw:b<N→∀ j:Int,0≤j→j<L→(gtR tRs l j).2.length=A.length∧gtR tR (gtR tRs l j).2 b=gtR tR (colL l b) j∧VT (gtR tR (colL l b) j):=fun h j j0 j1=>hrow j b j0 j1 b0 h
 have hrn:∀ j:Int,0≤j→j<L→(gtR tRs l j).2.length=A.length∧gtR tR (gtR tRs l j).2 n=gtR tR (colL l n) j∧VT (gtR tR (colL l n) j):=fun j j0 j1=>hrow j n j0 j1 k3 (by omega)
 have hb1:b<N→ar .add .i64 b 1=b+1:=fun h2=>by
  rw[r1];exact wrap64 (n:=b+1) (by omega) (by omega)
 have hnx:b<N→NEXT X' [(0,.tl nl tRs l),(1,.tl na .bool A),(5,.p (iv n)),(7,.tl none tR W),(10,.p (iv (b+1)))] ⟨[],[]⟩:=fun h=>NEXT.mk (hX (b+1) _ _ ⟨by omega,by omega⟩ (by show (N - (b+1)).toNat<(N - b).toNat;omega) (.inl ⟨rfl,rfl⟩))
 clear hX hdom hrow hWv hxv hyv hq
 obtain ⟨s,⟨na',a'⟩,⟨nb',b'⟩⟩:=x
 obtain ⟨s',⟨nc',c'⟩,⟨nd',d'⟩⟩:=y
 have f1:p1 .bool (.pair tN tN) (s,(na',a'),(nb',b'))=s:=by rw[r21]
 have f2:p2 .bool (.pair tN tN) (s,(na',a'),(nb',b'))=((na',a'),(nb',b')):=by rw[r22]
 have f3:p1 tN tN ((na',a'),(nb',b'))=(na',a'):=by rw[r21]
 have f4:p2 tN tN ((na',a'),(nb',b'))=(nb',b'):=by rw[r22]
 have f6:s2 tW (na',a')=a':=by rw[r24]
 have f8:s2 tW (nb',b')=b':=by rw[r24]
 have f1':p1 .bool (.pair tN tN) (s',(nc',c'),(nd',d'))=s':=by rw[r21]
 have f2':p2 .bool (.pair tN tN) (s',(nc',c'),(nd',d'))=((nc',c'),(nd',d')):=by rw[r22]
 have f3':p1 tN tN ((nc',c'),(nd',d'))=(nc',c'):=by rw[r21]
 have f4':p2 tN tN ((nc',c'),(nd',d'))=(nd',d'):=by rw[r22]
 have f6':s2 tW (nc',c')=c':=by rw[r24]
 have f8':s2 tW (nd',d')=d':=by rw[r24]
 dsimp only at f5
 cbv
 try simp only[nc_eq]at *
 rw[hlW,hla,←ha,←hx,←hy]
 simp only[f1,f2,f3,f4,f6,f8,f1',f2',f3',f4',f6',f8']
 clear f1 f2 f3 f4 f6 f8 f1' f2' f3' f4' f6' f8'
 refine BR.lss r0 (fun hbN=>?_) (fun _=>trivial)
 have hI:INB b N:=⟨b0,hbN⟩
 obtain ⟨t1,t2,t3⟩:=f5 hbN
 have hn1:=hnx hbN
 have hr1:=hrw hbN
 have hb2:=hb1 hbN
 rw[t1,t2,hb2]
 refine ⟨hI,hI,BR.mk (fun hat=>BR.eql r0 (fun _=>hn1) (fun hbn=>?_)) (fun _=>hn1)⟩
 obtain ⟨d1,d2⟩:=hd hbN hat
 refine ⟨hI,hI,hnI,hnI,t3,BR.nn r0 (BR.lss r0 (fun h=>absurd h d1) (fun _=>?_))⟩
 clear hnx hb1 hrw f5 hd
 refine LOOP.ind (σ:=Bool×Bool×Int) (fun (no,so,i)=>[(0,.tl nl tRs l),(1,.tl na .bool A),(5,.p (iv n)),(7,.tl none tR W),(10,.p (iv b)),(13,.p (.v (.bool no))),(14,.p (.v (.bool so))),(15,.p (iv i))]) (fun _=>⟨[],[]⟩) (fun (_,_,i)=>(L - i).toNat)
  (fun (no,so,i)=>0≤i∧i≤L∧(no=true→∀ j:Int,0≤j→j<i→rvT (gtR tR (colL l b) j)≤rvT (gtR tR (colL l n) j))∧(so=true→∃ j:Int,0≤j∧j<i∧rvT (gtR tR (colL l b) j)<rvT (gtR tR (colL l n) j))) (true,false,0) ⟨by omega,by show (0:Int)≤L;omega,fun _ j j0 j1=>absurd j1 (by show ¬ j<0;omega),fun h=>by cases h⟩ (.inl ⟨rfl,rfl⟩) ?_
 intro ⟨no,so,i⟩ ⟨i0,i1,i2,i3⟩ X2 hX2
 obtain ⟨ri,hri⟩:∃ r,r=s2 tR (gt tRs l i):=⟨_,rfl⟩
 have hri':ri=(gtR tRs l i).2:=by rw[hri,r24,r14]
 have hrl:i<L→ic (ln tR ri)=N:=fun h=>by rw[r4,r12,hri',hN];show (((gtR tRs l i).2.length:Nat):Int)=_;rw[(hr1 i i0 h).1]
 obtain ⟨x,hx⟩:∃ x:RT,x=gt tR ri b:=⟨_,rfl⟩
 obtain ⟨y,hy⟩:∃ y:RT,y=gt tR ri n:=⟨_,rfl⟩
 have hxe:i<L→x=gtR tR (colL l b) i∧VT x:=fun h=>by
  obtain ⟨_,u2,u3⟩:=hr1 i i0 h
  rw[hx,r14,hri',u2];exact ⟨rfl,u3⟩
 have hye:i<L→y=gtR tR (colL l n) i∧VT y:=fun h=>by
  obtain ⟨_,u2,u3⟩:=hrn i i0 h
  rw[hy,r14,hri',u2];exact ⟨rfl,u3⟩
 obtain ⟨c,hc⟩:∃ c,c=cmQ (rvT x) (rvT y):=⟨_,rfl⟩
 have f5:i<L→g5 x.1 x.2.1.2 x.2.2.2 y.1 y.2.1.2 y.2.2.2=c∧g6 x.1 x.2.1.2 x.2.2.2 y.1 y.2.1.2 y.2.2.2=0∧CK2 x.2.1.2 x.2.2.2 y.2.1.2 y.2.2.2:=fun h=>by
  rw[←hg5,←hg6,hc];exact ⟨(hxe h).2.cm (hye h).2,(hxe h).2.cmE (hye h).2,⟨(hxe h).2.ckp,(hye h).2.ckp⟩⟩
 have hi1:i<L→ar .add .i64 i 1=i+1:=fun h2=>by rw[r1];exact wrap64 (n:=i+1) (by omega) (by omega)
 have hnx2:i<L→∀ no' so',(no'=true→no=true∧c≤0)→(so'=true→so=true∨c<0)→NEXT X2 [(0,.tl nl tRs l),(1,.tl na .bool A),(5,.p (iv n)),(7,.tl none tR W),(10,.p (iv b)),(13,.p (.v (.bool no'))),(14,.p (.v (.bool so'))),(15,.p (iv (i+1)))] ⟨[],[]⟩:=fun h no' so' h1 h2=>by
  refine NEXT.mk (hX2 (no',so',i+1) _ _ ⟨by omega,by show i+1≤L;omega,fun h3 j j0 j1=>?_,fun h3=>?_⟩ (by show (L - (i+1)).toNat<(L - i).toNat;omega) (.inl ⟨rfl,rfl⟩))
  ·obtain ⟨u1,u2⟩:=h1 h3
   by_cases hj:j=i
   ·subst hj
    rw[←(hxe h).1,←(hye h).1]
    refine Rat.not_lt.1 fun h4=>?_
    have:=cmQ_gt.2 h4
    omega
   ·exact i2 u1 j j0 (by have:j<i+1:=j1;omega)
  ·rcases h2 h3 with h4 | h4
   ·obtain ⟨j,j0,j1,j2⟩:=i3 h4
    exact ⟨j,j0,by show j<i+1;omega,j2⟩
   ·refine ⟨i,i0,by show i<i+1;omega,?_⟩
    rw[←(hxe h).1,←(hye h).1]
    rw[hc]at h4;exact cmQ_lt.1 h4
 have hend:¬ i<L→¬ (no=true∧so=true):=fun h h1=>by
  obtain ⟨j,j0,j1,j2⟩:=i3 h1.2
  exact d2 (fun k k0 k1=>i2 h1.1 k k0 (by omega)) ⟨j,j0,by omega,j2⟩
 clear hX2 i2 i3 hr1 hrn d2 hxe hye hc
 obtain ⟨s,⟨na',a'⟩,⟨nb',b'⟩⟩:=x
 obtain ⟨s',⟨nc',c'⟩,⟨nd',d'⟩⟩:=y
 dsimp only at f5
 cases no <;> cases so
 all_goals
  cbv
  try simp only[nc_eq]at *
  rw[hll,←hri,←hx,←hy]
  simp only[r21,r22,r23,r24]
  refine BR.lss r0 (fun h=>?_) (fun h=>?_)
 all_goals try (rw[hb2];exact hn1)
 all_goals try exact absurd (by simp) (hend h)
 all_goals
  have hI:INB i L:=⟨i0,h⟩
  obtain ⟨t1,t2,t3⟩:=f5 h
  have hn2:=hnx2 h
  rw[hrl h,t2,hi1 h]
  try rw[t1]
  clear hnx2 f5 hend
  refine ⟨hI,hI,‹INB b N›,‹INB b N›,hI,hI,hnI,hnI,t3,BR.nn r0 ?_⟩
  repeat' (first | (refine BR.leq r0 (fun hc=>?_) (fun hc=>?_)) | (refine BR.lss r0 (fun hc2=>?_) (fun hc2=>?_)))
  all_goals refine hn2 _ _ (fun h=>?_) (fun h=>?_)
  all_goals first | (cases h;done) | exact .inl rfl | exact .inl trivial | exact .inr ‹_› | exact ⟨rfl,‹_›⟩ | exact ⟨trivial,‹_›⟩
theorem dom_typed:∀ xs,TyVs Tryz.prog [22,23] xs→PurFn Tryz.prog 8 (xs.map .p) (.v (.bool true)):=law2 (P:=Tryz.prog) (f:=8) (t1:=22) (t2:=23) (T1:=.sl tRs) (T2:=.sl .bool) (by kernel_rfl) fun l A hl _=>cDom l.1 l.2 A.1 A.2 (ARGR.of hl)
end Go.Ab
