/- The order of the threats: plain laws. -/
import Derived.Test.YtlmdgmppeacobaaGreatLV
set_option linter.unusedSimpArgs false
set_option linter.unusedVariables false
set_option maxRecDepth 20000
set_option maxHeartbeats 4000000
namespace Go.Ab
open Go.Proofs
theorem sameL_iff {n:Nat}:∀ {l:List RS},sameL n l=true↔∀ r∈l,r.2.length=n
 | []=>⟨fun _ r hr=>(by cases hr),fun _=>rfl⟩
 | x :: l=>by
  simp only[sameL,Bool.and_eq_true,decide_eq_true_eq,List.mem_cons,forall_eq_or_imp,sameL_iff (l:=l)]
theorem fe_zero:∀ {l:List RT},(∀ x∈l,rck x=0)→fe l=0
 | [],_=>rfl
 | x :: l,h=>by
  unfold fe
  rw[if_neg (fun h1=>h1 (h x (by simp)))]
  exact fe_zero fun y hy=>h y (List.mem_cons_of_mem _ hy)
theorem mem_cat_inv:∀ {l:List RS} {x:RT},x∈cat l→∃ r∈l,x∈r.2
 | s :: l,x,h=>by
  unfold cat at h
  rcases List.mem_append.1 h with h | h
  ·exact ⟨s,by simp,h⟩
  ·obtain ⟨r,hr,hx⟩:=mem_cat_inv h
   exact ⟨r,List.mem_cons_of_mem _ hr,hx⟩
theorem row0_mem {l:List RS} (h:0<l.length):∃ r∈l,r.2=row0 l:=⟨_,gtR_mem (t:=tRs) (Int.le_refl 0) (by omega),rfl⟩
theorem COST.chk {l:List RS} {m:Nat} (h:COST l m):mchk l=0∧(row0 l).length=m:=by
 have h0:(row0 l).length=m:=by
  obtain ⟨r,hr,e⟩:=row0_mem h.n0
  rw[←e];exact h.row r hr
 refine ⟨?_,h0⟩
 have a1:=h.n0;have a2:=h.n8;have a3:=h.m0;have a4:=h.m6
 unfold mchk
 rw[if_neg (by omega),if_neg (by omega),h0,if_neg (by omega),if_neg (by omega),if_pos (sameL_iff.2 h.row)]
 refine fe_zero fun x hx=>?_
 obtain ⟨r,hr,hx⟩:=mem_cat_inv hx
 exact (h.v r hr x hx).chk
theorem COST.of {l l':List RS} {m:Nat} (h:COST l m) (hm:∀ r,r∈l'→r∈l) (h0:0<l'.length) (h8:l'.length≤8):COST l' m:=
 ⟨h0,h8,h.m0,h.m6,fun r hr=>h.row r (hm r hr),fun r hr=>h.v r (hm r hr)⟩
theorem MC.sub {l l':List RS} (h:MC l) (hm:∀ r,r∈l'→r∈l) (h1:l'.length≤2000):MC l':=⟨⟨h1⟩,⟨fun r hr=>h.b.h r (hm r hr)⟩⟩
theorem chk_same {l l':List RS} (h:MC l) (hm:∀ r,r∈l'↔r∈l) (h0:0<l.length) (h1:0<l'.length) (h8:l'.length≤8) (h7:l.length≤8):mchk l'=0↔mchk l=0:=
 ⟨fun h2=>(((h.sub (fun r hr=>(hm r).1 hr) (by omega)).cost h2).of (fun r hr=>(hm r).2 hr) h0 h7).chk.1,fun h2=>((h.cost h2).of (fun r hr=>(hm r).1 hr) h1 h8).chk.1⟩
theorem mkRat_bound (n:Int) {d:Nat} (hd:0<d):(mkRat n d).num.natAbs≤n.natAbs∧(mkRat n d).den≤d:=by
 have e:mkRat n d=Rat.normalize n d (by omega):=by rw[mkRat,dif_neg (by omega)]
 rw[e,Rat.normalize_eq]
 refine ⟨?_,Nat.div_le_self _ _⟩
 show (n / _).natAbs≤_
 rw[Int.natAbs_ediv_of_dvd (Int.ofNat_dvd_left.2 (Nat.gcd_dvd_left ..))]
 exact Nat.div_le_self _ _
theorem add_bound (a b:Rat):(a+b).num.natAbs≤a.num.natAbs*b.den+b.num.natAbs*a.den∧(a+b).den≤a.den*b.den:=by
 rw[Rat.add_def',]
 obtain ⟨h1,h2⟩:=mkRat_bound (a.num*b.den+b.num*a.den) (d:=a.den*b.den) (Nat.mul_pos a.den_pos b.den_pos)
 refine ⟨Nat.le_trans h1 ?_,h2⟩
 refine Nat.le_trans (Int.natAbs_add_le _ _) ?_
 rw[Int.natAbs_mul,Int.natAbs_mul];exact Nat.le_refl _
abbrev B8:Nat:=4294967296 ^ 8
structure BD (n:Nat) (q:Rat):Prop where
 un:q.num.natAbs≤n*B8 ^ n
 ud:q.den≤B8 ^ n
theorem BD.add' {B n:Nat} {x y u v p q s t:Nat} (h1:x≤u*t+v*s) (h2:y≤s*t) (a1:u≤n*B ^ n) (a2:s≤B ^ n) (b1:v≤B) (b2:t≤B):x≤(n+1)*B ^ (n+1)∧y≤B ^ (n+1):=by
 rw[Nat.pow_succ B n]
 refine ⟨Nat.le_trans h1 ?_,Nat.le_trans h2 (Nat.mul_le_mul a2 b2)⟩
 refine Nat.le_trans (Nat.add_le_add (Nat.mul_le_mul a1 b2) (Nat.mul_le_mul b1 a2)) (Nat.le_of_eq ?_)
 rw[Nat.add_mul,Nat.one_mul,Nat.mul_assoc,Nat.mul_comm B (B ^ n)]
theorem BD.add {n:Nat} {q r:Rat} (h:BD n q) (k:BD 1 r):BD (n+1) (q+r):=by
 obtain ⟨h1,h2⟩:=add_bound q r
 obtain ⟨a1,a2⟩:=h
 obtain ⟨b1,b2⟩:=k
 rw[Nat.pow_one]at b1 b2
 rw[Nat.one_mul]at b1
 have:=BD.add' (p:=0) (q:=0) h1 h2 a1 a2 b1 b2
 exact ⟨this.1,this.2⟩
theorem BD.small {n:Nat} {q:Rat} (h:BD n q) (hn:n≤8):(qN q).length≤128∧(qD q).length≤128:=by
 obtain ⟨a1,a2⟩:=h
 have h1:B8 ^ n≤4294967296 ^ 64:=by
  show (4294967296 ^ 8) ^ n≤4294967296 ^ 64
  rw[←Nat.pow_mul]
  exact powW_le (8*n) 64 (by omega)
 have h2:4294967296 ^ 64<4294967296 ^ 65:=by
  rw[powW_mul 1 64 65 rfl,Nat.pow_one]
  have h:=Nat.mul_lt_mul_of_pos_right (show 1<4294967296 by decide) (Nat.pow_pos (n:=64) (show 0<4294967296 by decide))
  rwa [Nat.one_mul]at h
 have h3:8*4294967296 ^ 64<4294967296 ^ 65:=by
  rw[powW_mul 1 64 65 rfl,Nat.pow_one]
  exact Nat.mul_lt_mul_of_pos_right (show 8<4294967296 by decide) (Nat.pow_pos (show 0<4294967296 by decide))
 have h4:=powW_le 65 128 (by decide)
 have h5:n*B8 ^ n≤8*4294967296 ^ 64:=Nat.mul_le_mul hn h1
 refine ⟨(lm_len _ _).2 (Nat.lt_of_le_of_lt a1 (Nat.lt_of_le_of_lt h5 (Nat.lt_of_lt_of_le h3 h4))),?_⟩
 unfold qD
 split
 ·exact Nat.zero_le _
 ·exact (lm_len _ _).2 (Nat.lt_of_le_of_lt (Nat.le_trans a2 h1) (Nat.lt_of_lt_of_le h2 h4))
theorem VT.bd {x:RT} (h:VT x) (h1:x.2.1.2.length≤8) (h2:x.2.2.2.length≤8):BD 1 (rvT x):=by
 obtain ⟨a1,a2,a3⟩:=h.k.back
 have e1:qN (rvT x)=x.2.1.2:=a2
 have e2:qD (rvT x)=x.2.2.2:=a3
 refine ⟨?_,?_⟩ <;> rw[Nat.pow_one]
 ·rw[Nat.one_mul]
  have:(lm (rvT x).num.natAbs).length≤8:=by
   have:lm (rvT x).num.natAbs=x.2.1.2:=e1
   rw[this];exact h1
  exact Nat.le_of_lt ((lm_len _ _).1 this)
 ·by_cases h3:(rvT x).den=1
  ·rw[h3];exact Nat.pow_pos (by decide)
  ·have:lm (rvT x).den=x.2.2.2:=by unfold qD at e2;rw[if_neg h3]at e2;exact e2
   have:(lm (rvT x).den).length≤8:=by rw[this];exact h2
   exact Nat.le_of_lt ((lm_len _ _).1 this)
def shR (x:RT):Prop:=x.2.1.2.length≤8∧x.2.2.2.length≤8
theorem fld_small:∀ {l:List RT} {x:RT} {n:Nat},VT x→BD n (rvT x)→(∀ y∈l,VT y∧shR y)→n+l.length≤8→fldE x l=0
 | [],_,_,_,_,_,_=>rfl
 | y :: l,x,n,hx,hb,hl,hn=>by
  obtain ⟨hy,hs⟩:=hl y (by simp)
  rw[List.length_cons]at hn
  have hbd:=hb.add (hy.bd hs.1 hs.2)
  obtain ⟨k1,k2⟩:=hbd.small (by omega)
  have h0:addE x y=0:=by rw[addE_eq hx hy,if_neg (by omega)]
  unfold fldE
  rw[if_neg (fun h=>h h0)]
  exact fld_small (hx.add hy h0) (by rw[rvT_add h0];exact hbd) (fun z hz=>hl z (List.mem_cons_of_mem _ hz)) (by omega)
theorem COST.cmz {l:List RS} {m:Nat} (h:COST l m) (hs:∀ r∈l,∀ x∈r.2,shR x) {b:Int} (h0:0≤b) (h1:b<m):cmG l b=0:=by
 obtain ⟨x,r,e,e1,e2⟩:=h.c0 b
 have hv:∀ y∈colL l b,VT y∧shR y:=fun y hy=>⟨h.col h0 h1 y hy,by
  obtain ⟨r,hr,rfl⟩:=List.mem_map.1 hy
  exact hs r hr _ (gtR_mem (t:=tR) h0 (by rw[h.row r hr];exact h1))⟩
 have hl:=colL_len l b
 rw[e]at hv hl
 unfold cmG
 rw[e1,e2]
 obtain ⟨a1,a2⟩:=hv x (by simp)
 refine fld_small a1 (a1.bd a2.1 a2.2) (fun y hy=>hv y (List.mem_cons_of_mem _ hy)) ?_
 have:=h.n8
 rw[List.length_cons]at hl
 omega
theorem COST.sums {l:List RS} {m:Nat} (h:COST l m) (hs:∀ r∈l,∀ x∈r.2,shR x):∀ (n:Nat) (i:Int),0≤i→i+n≤m→rsE l n i=0∧cpRs (rsL l n i)=(List.range n).map fun k:Nat=>canon (sumQ ((colL l (i+(k:Int))).map rvT))
 | 0,_,_,_=>⟨rfl,rfl⟩
 | n+1,i,h0,h1=>by
  obtain ⟨k1,k2⟩:=COST.sums h hs n (i+1) (by omega) (by omega)
  have hz:=h.cmz hs h0 (b:=i) (by omega)
  obtain ⟨v,_,e⟩:=(h.cm h0 (b:=i) (by omega)).2 hz
  refine ⟨by unfold rsE;rw[if_neg (fun h2=>h2 hz)];exact k1,?_⟩
  unfold rsL
  show clR (cmF l i) :: cpRs (rsL l n (i+1))=_
  rw[k2,←v.back,e,List.range_succ_eq_map,List.map_cons,List.map_map]
  congr 1
  ·rw[Int.natCast_zero,Int.add_zero]
  ·refine List.map_congr_left fun k _=>?_
   show canon (sumQ ((colL l (i+1+k)).map rvT))=canon (sumQ ((colL l (i+(k+1:Nat))).map rvT))
   rw[show i+1+(k:Int)=i+(k+1:Nat) by omega]
theorem colL_perm {l l':List RS} (h:l'.Perm l) (b:Int):(colL l' b).Perm (colL l b):=h.map _
theorem colL_same {l l':List RS} (h:∀ r,r∈l'↔r∈l) (b:Int) (x:RT):x∈colL l' b↔x∈colL l b:=by
 unfold colL
 simp only[List.mem_map,h]
theorem sum_turn {l l':List RS} (h:MC l) (hp:l'.Perm l) (hs:∀ r∈l,∀ x∈r.2,shR x) (h0:0<l.length) (h8:l.length≤8):(sumE l'=0↔sumE l=0)∧sumL l'=sumL l:=by
 have hm:∀ r,r∈l'↔r∈l:=fun r=>hp.mem_iff
 have hl:=hp.length_eq
 have h':MC l':=h.sub (fun r hr=>(hm r).1 hr) (by omega)
 have hc:=chk_same h hm h0 (by omega) (by omega) h8
 have key:∀ {k:List RS},MC k→(∀ r∈k,∀ x∈r.2,shR x)→sumE k=mchk k∧sumL k=if mchk k=0 then (List.range (row0 k).length).map fun j:Nat=>canon (sumQ ((colL k (j:Int)).map rvT)) else []:=fun {k} hk hks=>by
  obtain ⟨e1,e2⟩:=hk.sum
  rw[e1,e2]
  unfold rsumL rsumE
  by_cases hz:mchk k=0
  ·obtain ⟨q1,q2⟩:=(hk.cost hz).sums hks (row0 k).length 0 (Int.le_refl _) (by omega)
   rw[if_neg (fun h=>h hz),q1,if_pos rfl,if_pos hz,q2,hz]
   refine ⟨rfl,List.map_congr_left fun j _=>?_⟩
   rw[Int.zero_add]
  ·rw[if_pos hz,if_neg hz,if_neg hz];exact ⟨rfl,rfl⟩
 obtain ⟨a1,a2⟩:=key h hs
 obtain ⟨b1,b2⟩:=key h' (fun r hr=>hs r ((hm r).1 hr))
 rw[a1,a2,b1,b2]
 refine ⟨hc,?_⟩
 by_cases hz:mchk l=0
 ·have hz':=hc.2 hz
  have hr:(row0 l').length=(row0 l).length:=by
   have hC:=h.cost hz
   exact (hC.of (fun r hr=>(hm r).1 hr) (by omega) (by omega)).chk.2
  rw[if_pos hz,if_pos hz',hr]
  refine List.map_congr_left fun j _=>?_
  rw[sumQ_perm ((colL_perm hp _).map rvT)]
 ·rw[if_neg hz,if_neg (fun h=>hz (hc.1 h))]
theorem wor_turn {l l':List RS} (h:MC l) (hm:∀ r,r∈l'↔r∈l) (h0:0<l.length) (h8:l.length≤8) (h0':0<l'.length) (h8':l'.length≤8):(worE l'=0↔worE l=0)∧worL l'=worL l:=by
 have h':MC l':=h.sub (fun r hr=>(hm r).1 hr) (by omega)
 have hc:=chk_same h hm h0 h0' h8' h8
 obtain ⟨a1,a2⟩:=h.wor
 obtain ⟨b1,b2⟩:=h'.wor
 rw[a1,a2,b1,b2]
 refine ⟨hc,?_⟩
 by_cases hz:mchk l=0
 ·have hz':=hc.2 hz
  have hC:=h.cost hz
  have hC':=h'.cost hz'
  have hr:(row0 l').length=(row0 l).length:=(hC.of (fun r hr=>(hm r).1 hr) h0' h8').chk.2
  rw[if_pos hz,if_pos hz',hr]
  refine List.map_congr_left fun j hj=>?_
  have hj:=List.mem_range.1 hj
  obtain ⟨u1,_,_,⟨z,uz,u4⟩,u5⟩:=hC.mx (b:=(j:Int)) (by omega) (by omega)
  obtain ⟨v1,_,_,⟨y,vy,v4⟩,v5⟩:=hC'.mx (b:=(j:Int)) (by omega) (by omega)
  have e1:rvT (mxF l (j:Int))=rvT z:=by rw[←rvT_cl,u4,rvT_cl]
  have e2:rvT (mxF l' (j:Int))=rvT y:=by rw[←rvT_cl,v4,rvT_cl]
  have q1:=u5 y ((colL_same hm _ y).1 vy)
  have q2:=v5 z ((colL_same hm _ z).2 uz)
  rw[←u1.back,←v1.back]
  congr 1
  rw[e1]at q1 ⊢;rw[e2]at q2 ⊢
  exact Rat.le_antisymm q1 q2
 ·rw[if_neg hz,if_neg (fun h=>hz (hc.1 h))]
theorem val_turn {l l':List RS} {m:Nat} (h:COST l m) (hp:l'.Perm l) {b:Int} (h0:0≤b) (h1:b<m):valP l' b=valP l b:=by
 have hv:=h.col h0 h1
 have hpc:=colL_perm hp b
 have e:proL l' b=proL l b:=by
  unfold proL
  refine (srtD_uniq (fun x hx=>?_) ?_ ?_)
  ·obtain ⟨y,hy,rfl⟩:=List.mem_map.1 hx
   exact ⟨(hv y hy).cl,rfl⟩
  ·exact ((srtD_perm _).trans (hpc.map clR))
  ·exact srtD_sorted _
 unfold valP
 rw[e]
theorem best_turn {l l':List RS} (h:MC l) (hp:l'.Perm l) (h0:0<l.length) (h8:l.length≤8) (A:List Bool):(bstE l' A=0↔bstE l A=0)∧bstN l' A=bstN l A:=by
 have hm:∀ r,r∈l'↔r∈l:=fun r=>hp.mem_iff
 have hl:=hp.length_eq
 have h':MC l':=h.sub (fun r hr=>(hm r).1 hr) (by omega)
 have hc:=chk_same h hm h0 (by omega) (by omega) h8
 by_cases hz:mchk l=0
 ·have hz':=hc.2 hz
  have hC:=h.cost hz
  have hr:(row0 l').length=(row0 l).length:=(hC.of (fun r hr=>(hm r).1 hr) (by omega) (by omega)).chk.2
  by_cases hA:A.length≠(row0 l).length
  ·have e1:bstE l A=16:=by unfold bstE;rw[if_neg (fun h=>h hz),if_pos hA]
   have e2:bstE l' A=16:=by unfold bstE;rw[if_neg (fun h=>h hz'),hr,if_pos hA]
   unfold bstN
   rw[e1,e2];exact ⟨Iff.rfl,rfl⟩
  ·have hA:A.length=(row0 l).length:=Classical.not_not.1 hA
   have e:bst (valP l') A 0 (-1)=bst (valP l) A 0 (-1):=bst_congr A 0 (-1) (.inl (by decide)) fun j j0 j1=>val_turn hC hp j0 (by omega)
   have e3:bstE l' A=bstE l A:=by unfold bstE;rw[hz,hz',hr,e]
   unfold bstN
   rw[e3,e];exact ⟨Iff.rfl,rfl⟩
 ·have hz':¬ mchk l'=0:=fun h=>hz (hc.1 h)
  have e1:bstE l A=mchk l:=by unfold bstE;rw[if_pos hz]
  have e2:bstE l' A=mchk l':=by unfold bstE;rw[if_pos hz']
  unfold bstN
  rw[e1,e2,if_neg hz,if_neg hz'];exact ⟨hc,rfl⟩
theorem loF_same {l:List AT} {c c':List Int} (hm:∀ x,x∈c'↔x∈c) (x:Int):loF l c' x=loF l c x:=by
 obtain ⟨a1,a2,a3⟩:=loF_spec (l:=l) (c:=c) (x:=x)
 obtain ⟨b1,b2,b3⟩:=loF_spec (l:=l) (c:=c') (x:=x)
 have h1:loF l c' x≤loF l c x:=by
  rcases b3 with h | ⟨y,hy,h⟩
  ·rw[h];exact a1
  ·rw[←h];exact a2 y ((hm y).1 hy)
 have h2:loF l c x≤loF l c' x:=by
  rcases a3 with h | ⟨y,hy,h⟩
  ·rw[h];exact b1
  ·rw[←h];exact b2 y ((hm y).2 hy)
 omega
theorem hiF_same {l:List AT} {c c':List Int} (hm:∀ x,x∈c'↔x∈c) (x:Int):hiF l c' x=hiF l c x:=by
 obtain ⟨a1,a2,a3⟩:=hiF_spec (l:=l) (c:=c) (x:=x)
 obtain ⟨b1,b2,b3⟩:=hiF_spec (l:=l) (c:=c') (x:=x)
 have h1:hiF l c x≤hiF l c' x:=by
  rcases b3 with h | ⟨y,hy,h⟩
  ·rw[h];exact a1
  ·rw[←h];exact a2 y ((hm y).1 hy)
 have h2:hiF l c' x≤hiF l c x:=by
  rcases a3 with h | ⟨y,hy,h⟩
  ·rw[h];exact b1
  ·rw[←h];exact b2 y ((hm y).2 hy)
 omega
theorem bnd_same {l:List AT} {c c':List Int} (h:bndE l c=0) (hm:∀ x,x∈c'↔x∈c) (h0:c'≠[]) (h8:c'.length≤8):bndE l c'=0∧bndLo l c'=bndLo l c∧bndHi l c'=bndHi l c∧joinN l c'=joinN l c:=by
 obtain ⟨k1,_,_,_,_,k6,_,k7⟩:=bnd_ok h
 have hl:c'.length≠0:=fun h=>h0 (List.eq_nil_of_length_eq_zero h)
 have e:bndE l c'=0:=by
  unfold bndE
  rw[if_neg (fun h=>h k1),if_neg hl,if_neg (by omega),if_pos (okI_iff.2 fun x hx=>okI_iff.1 k7 x ((hm x).1 hx))]
 have e1:bndLo l c'=bndLo l c:=by unfold bndLo;rw[if_pos e,if_pos h,loF_same hm]
 have e2:bndHi l c'=bndHi l c:=by unfold bndHi;rw[if_pos e,if_pos h,hiF_same hm]
 refine ⟨e,e1,e2,?_⟩
 unfold joinN
 rw[if_pos e,if_pos h,e1,e2]
theorem turn_perm {α:Type} (l:List α) (k:Nat):(l.drop k ++ l.take k).Perm l:=by
 have h:=List.perm_append_comm (l₁:=l.drop k) (l₂:=l.take k)
 rwa [List.take_append_drop]at h
theorem twice_mem {α:Type} {l:List α} {x:α} (h:x∈l) (r:α):r∈l ++ [x]↔r∈l:=by
 rw[List.mem_append,List.mem_singleton]
 exact ⟨fun h1=>h1.elim id fun h2=>by rw[h2];exact h,.inl⟩
def turnC (c:List Int) (k:Nat):List Int:=c.drop k ++ c.take k ++ [c.getD k 0]
theorem turnC_mem {c:List Int} {k:Nat} (h:k<c.length) (x:Int):x∈turnC c k↔x∈c:=by
 unfold turnC
 rw[twice_mem ((turn_perm c k).mem_iff.2 (by rw[List.getD_eq_getElem?_getD,List.getElem?_eq_getElem h];exact List.getElem_mem h))]
 exact (turn_perm c k).mem_iff
theorem not_long {l:List RS} (h:longB l=false):l.length≤12∧(∀ r∈l,r.2.length≤20)∧∀ r∈l,∀ x∈r.2,shR x:=by
 unfold longB at h
 rw[Bool.or_eq_false_iff]at h
 obtain ⟨h1,h2⟩:=h
 have h2:l.length≤12:=by simpa using h2
 have hR:∀ {r:List RT},bigR r=false→∀ x∈r,shR x:=fun {r}=>by
  induction r with
  | nil=>intro _ x hx;cases hx
  | cons y r ih=>
   intro h x hx
   simp only[bigR,Bool.or_eq_false_iff,decide_eq_false_iff_not]at h
   rcases List.mem_cons.1 hx with rfl | hx
   ·exact ⟨by omega,by omega⟩
   ·exact ih h.2 x hx
 have hRR:∀ {l:List RS},bigRR l=false→∀ r∈l,r.2.length≤20∧∀ x∈r.2,shR x:=fun {l}=>by
  induction l with
  | nil=>intro _ x hx;cases hx
  | cons y r ih=>
   intro h x hx
   simp only[bigRR,Bool.or_eq_false_iff,decide_eq_false_iff_not]at h
   rcases List.mem_cons.1 hx with rfl | hx
   ·exact ⟨by omega,hR h.1.1⟩
   ·exact ih h.2 x hx
 exact ⟨h2,fun r hr=>(hRR h1 r hr).1,fun r hr=>(hRR h1 r hr).2⟩
theorem sum_VT {l:List RS} (h:MC l) (hs:∀ r∈l,∀ x∈r.2,shR x):∀ x∈sumL l,VT x:=by
 rw[h.sum.2]
 unfold rsumL
 by_cases hz:rsumE l=0
 ·rw[if_pos hz]
  have hm:mchk l=0:=by
   unfold rsumE at hz
   by_cases hm:mchk l=0
   ·exact hm
   ·rw[if_pos hm]at hz;exact hz
  have hC:=h.cost hm
  have key:∀ (n:Nat) (i:Int),0≤i→i+n≤(row0 l).length→∀ x∈cpRs (rsL l n i),VT x:=fun n=>by
   induction n with
   | zero=>intro i _ _ x hx;cases hx
   | succ n ih=>
    intro i h0 h1 x hx
    unfold rsL at hx
    rcases List.mem_cons.1 (show x∈clR (cmF l i) :: cpRs (rsL l n (i+1)) from hx) with rfl | hx
    ·exact ((hC.cm h0 (b:=i) (by omega)).2 (hC.cmz hs h0 (by omega))).1.cl
    ·exact ih (i+1) (by omega) (by omega) x hx
  exact key _ 0 (Int.le_refl _) (by omega)
 ·rw[if_neg hz];intro x hx;cases hx
theorem wor_VT {l:List RS} (h:MC l):∀ x∈worL l,VT x:=by
 rw[h.wor.2]
 by_cases hm:mchk l=0
 ·rw[if_pos hm]
  have hC:=h.cost hm
  intro x hx
  obtain ⟨k,hk,rfl⟩:=List.mem_map.1 hx
  have hk:=List.mem_range.1 hk
  exact (hC.mx (b:=(k:Int)) (by omega) (by omega)).1.cl
 ·rw[if_neg hm];intro x hx;cases hx
theorem rsL_len (l:List RS):∀ (n:Nat) (i:Int),(rsL l n i).length=n
 | 0,_=>rfl
 | n+1,i=>by unfold rsL;rw[List.length_cons,rsL_len l n]
theorem sum_len {l:List RS} (h:MC l):(sumL l).length≤2000:=by
 rw[h.sum.2]
 unfold rsumL cpRs
 rw[List.length_map]
 split
 ·rename_i hz
  rw[rsL_len]
  have hm:mchk l=0:=by
   unfold rsumE at hz
   by_cases hm:mchk l=0
   ·exact hm
   ·rw[if_pos hm]at hz;exact hz
  have:=(h.cost hm).m6;omega
 ·exact Nat.zero_le _
theorem wor_len {l:List RS} (h:MC l):(worL l).length≤2000:=by
 rw[h.wor.2]
 split
 ·rename_i hm
  rw[List.length_map,List.length_range]
  have:=(h.cost hm).m6;omega
 ·exact Nat.zero_le _
theorem BR.same {cmp:BinOp→Int→Int→Bool} (h:cmp=cmpR) {a b:Int} {P Q R:Prop} (hab:b=0↔a=0) (k:P):BR (cmp .eql a 0) (BR (cmp .eql b 0) P Q) (BR (cmp .eql b 0) R P):=
 BR.eql h (fun h1=>BR.eql h (fun _=>k) (fun h2=>absurd (hab.2 h1) h2)) (fun h1=>BR.eql h (fun h2=>absurd (hab.1 h2) h1) (fun _=>k))
end Go.Ab
