/- Plain laws: canonical numbers,sums,greatest costs. -/
import Derived.Test.YtlmdgmppeacobaaGreatLF
set_option linter.unusedSimpArgs false
set_option linter.unusedVariables false
set_option maxRecDepth 20000
set_option maxHeartbeats 4000000
namespace Go.Ab
open Go.Proofs
theorem RK.of_q {q:Rat} (h1:(qN q).length≤128) (h2:(qD q).length≤128):RK (qS q) (qN q) (qD q):=by
 refine ⟨CN_lm _,?_,h1,h2,?_,?_,?_⟩
 ·unfold qD;split
  ·exact CN.nil
  ·exact CN_lm _
 ·unfold qD;split
  ·intro h;cases h
  ·rename_i h;exact fun h3=>h (lm_one.1 h3)
 ·intro h
  have:=qN_nil.1 h;subst this
  exact ⟨by unfold qS;decide,by unfold qD;rfl⟩
 ·intro h
  have hd:q.den≠1:=fun h3=>h (by unfold qD;rw[if_pos h3])
  have:qD q=lm q.den:=by unfold qD;rw[if_neg hd]
  rw[this];unfold qN;rw[vl_lm,vl_lm];exact q.reduced
theorem rv_q (q:Rat):rv (qS q) (qN q) (qD q)=q:=by
 have hd:dn (qD q)=q.den:=by
  unfold dn qD
  by_cases h:q.den=1
  ·rw[if_pos h,if_pos rfl,h]
  ·rw[if_neg h,if_neg (fun h2=>q.den_nz (lm_eq_nil.1 h2)),vl_lm]
 unfold rv rnum
 rw[hd];unfold qN;rw[vl_lm]
 have:(if qS q=true then -(q.num.natAbs:Int) else q.num.natAbs)=q.num:=by
  unfold qS;by_cases h:q.num<0 <;> simp[h] <;> omega
 rw[this];exact Rat.mkRat_self q
def canon (q:Rat):RT:=(qS q,(none,qN q),(none,qD q))
theorem rvT_canon (q:Rat):rvT (canon q)=q:=rv_q q
theorem VT.back {x:RT} (h:VT x):canon (rvT x)=clR x:=by
 obtain ⟨a1,a2,a3⟩:=h.k.back
 unfold canon clR rvT
 rw[a1,a2,a3]
theorem rvT_cl (x:RT):rvT (clR x)=rvT x:=rfl
theorem VT.small {x:RT} (h:VT x):(qN (rvT x)).length≤128∧(qD (rvT x)).length≤128:=by
 obtain ⟨a1,a2,a3⟩:=h.k.back
 unfold rvT
 rw[a2,a3];exact ⟨h.k.la,h.k.lb⟩
theorem addE_eq {x y:RT} (hx:VT x) (hy:VT y):addE x y=if (qN (rvT x+rvT y)).length>128∨(qD (rvT x+rvT y)).length>128 then 4 else 0:=by
 have h1:=hx.chk
 have h2:=hy.chk
 unfold rck at h1 h2
 unfold addE adE
 rw[h1,h2,if_neg (fun h=>h (by rfl))];rfl
theorem addT_eq {x y:RT} (h:addE x y=0):addT x y=canon (rvT x+rvT y):=by
 unfold addE at h
 unfold addT adS adN adD canon
 rw[h];rfl
theorem VT.add {x y:RT} (hx:VT x) (hy:VT y) (h:addE x y=0):VT (addT x y):=by
 rw[addT_eq h]
 rw[addE_eq hx hy]at h
 have:¬ ((qN (rvT x+rvT y)).length>128∨(qD (rvT x+rvT y)).length>128):=fun h1=>by rw[if_pos h1]at h;exact absurd h (by decide)
 exact ⟨RK.of_q (by omega) (by omega)⟩
theorem rvT_add {x y:RT} (h:addE x y=0):rvT (addT x y)=rvT x+rvT y:=by rw[addT_eq h,rvT_canon]
theorem VT.z:VT zT:=⟨⟨.nil,.nil,by decide,by decide,by decide,fun _=>⟨rfl,rfl⟩,fun h=>absurd rfl h⟩⟩
theorem rvT_z:rvT zT=0:=by
 show rv false [] []=0
 unfold rv;rw[vl_nil,rnum_zero]
theorem VT.addz {x:RT} (h:VT x):addE x zT=0∧addT x zT=clR x:=by
 have h1:addE x zT=0:=by
  rw[addE_eq h .z,rvT_z,Rat.add_zero]
  have:=h.small
  exact if_neg (by omega)
 refine ⟨h1,?_⟩
 rw[addT_eq h1,rvT_z,Rat.add_zero,h.back]
def sumQ:List Rat→Rat
 | []=>0
 | x :: l=>x+sumQ l
theorem fld_ok:∀ {l:List RT} {x:RT},VT x→(∀ y∈l,VT y)→fldE x l=0→VT (fldT x l)∧rvT (fldT x l)=rvT x+sumQ (l.map rvT)
 | [],x,h,_,_=>⟨h,by show rvT x=rvT x+0;rw[Rat.add_zero]⟩
 | y :: l,x,h,hl,he=>by
  unfold fldE at he
  by_cases h1:addE x y≠0
  ·rw[if_pos h1]at he;exact absurd he h1
  ·rw[if_neg h1]at he
   have h1':=Classical.not_not.1 h1
   obtain ⟨k1,k2⟩:=fld_ok (h.add (hl y List.mem_cons_self) h1') (fun z hz=>hl z (List.mem_cons_of_mem _ hz)) he
   unfold fldT
   rw[if_neg h1]
   refine ⟨k1,?_⟩
   rw[k2,rvT_add h1',List.map_cons]
   show _=rvT x+(rvT y+sumQ (l.map rvT))
   rw[Rat.add_assoc]
theorem fe_ok:∀ {l:List RT},fe l=0→∀ x∈l,rck x=0
 | [],_,x,hx=>by cases hx
 | y :: l,h,x,hx=>by
  unfold fe at h
  by_cases h1:rck y≠0
  ·rw[if_pos h1]at h;exact absurd h h1
  ·rw[if_neg h1]at h
   rcases List.mem_cons.1 hx with rfl | hx
   ·exact Classical.not_not.1 h1
   ·exact fe_ok h x hx
theorem mem_cat:∀ {l:List RS} {r:RS} {x:RT},r∈l→x∈r.2→x∈cat l
 | s :: l,r,x,h,hx=>by
  unfold cat
  rcases List.mem_cons.1 h with rfl | h
  ·exact List.mem_append_left _ hx
  ·exact List.mem_append_right _ (mem_cat h hx)
structure COST (l:List RS) (m:Nat):Prop where
 n0:0<l.length
 n8:l.length≤8
 m0:0<m
 m6:m≤6
 row:∀ r∈l,r.2.length=m
 v:∀ r∈l,∀ x∈r.2,VT x
theorem MC.cost {l:List RS} (h:MC l) (hc:mchk l=0):COST l (row0 l).length:=by
 obtain ⟨k1,k2,k3,k4,k5⟩:=mchk_ok hc
 refine ⟨k1,k2,?_,k4,k3,fun r hr x hx=>?_⟩
 ·unfold mchk at hc
  rw[if_neg (by omega),if_neg (by omega)]at hc
  by_cases h0:(row0 l).length=0
  ·rw[if_pos h0]at hc;exact absurd hc (by decide)
  ·omega
 ·have h1:=fe_ok k5 x (mem_cat hr hx)
  obtain ⟨a,b,_,_⟩:=(h.b.h r hr).2.h x hx
  exact ⟨(rchk_ok a b).1 h1⟩
section
variable {l:List RS} {m:Nat}
theorem COST.ne (h:COST l m):l≠[]:=fun e=>by have:=h.n0;rw[e]at this;exact absurd this (by decide)
theorem COST.col (h:COST l m) {b:Int} (h0:0≤b) (h1:b<m):∀ x∈colL l b,VT x:=fun x hx=>by
 obtain ⟨r,hr,rfl⟩:=List.mem_map.1 hx
 exact h.v r hr _ (gtR_mem (t:=tR) h0 (by rw[h.row r hr];exact h1))
theorem COST.prf (h:COST l m) {b:Int} (h0:0≤b) (h1:b<m):PRF l b:=⟨⟨h0,by have:=h.n8;omega,fun r hr=>by rw[h.row r hr];exact h1⟩,h.ne,h.col h0 h1⟩
theorem COST.c0 (h:COST l m) (b:Int):∃ x r,colL l b=x :: r∧gtR tR (colL l b) 0=x∧(colL l b).drop 1=r:=by
 obtain ⟨x,r,e⟩:=List.exists_cons_of_ne_nil (l:=colL l b) (fun e=>by have:=colL_len l b;rw[e]at this;have:=h.n0;simp at *;omega)
 exact ⟨x,r,e,by rw[e];rfl,by rw[e];rfl⟩
theorem COST.cm (h:COST l m) {b:Int} (h0:0≤b) (h1:b<m):cmE1 l b=cmG l b∧(cmG l b=0→VT (cmF l b)∧cmT1 l b=clR (cmF l b)∧rvT (cmF l b)=sumQ ((colL l b).map rvT)):=by
 obtain ⟨x,r,e,e1,e2⟩:=h.c0 b
 have hv:=h.col h0 h1
 rw[e]at hv
 have key:cmG l b=0→VT (cmF l b)∧rvT (cmF l b)=sumQ ((colL l b).map rvT):=fun hg=>by
  unfold cmG at hg
  unfold cmF
  rw[e1,e2]at *
  rw[e]
  exact fld_ok (hv x List.mem_cons_self) (fun y hy=>hv y (List.mem_cons_of_mem _ hy)) hg
 refine ⟨?_,fun hg=>⟨(key hg).1,(key hg).1.addz.2,(key hg).2⟩⟩
 unfold cmE1
 by_cases hg:cmG l b=0
 ·rw[if_pos hg,hg];exact (key hg).1.addz.1
 ·rw[if_neg hg]
theorem gr_ok {x y:RT} (hx:VT x) (hy:VT y):∃ z:RT,z=(grS x.1 x.2.1.2 x.2.2.2 y.1 y.2.1.2 y.2.2.2,(none,grN x.1 x.2.1.2 x.2.2.2 y.1 y.2.1.2 y.2.2.2),(none,grD x.1 x.2.1.2 x.2.2.2 y.1 y.2.1.2 y.2.2.2))∧VT z∧(z=clR x∨z=clR y)∧rvT x≤rvT z∧rvT y≤rvT z:=by
 refine ⟨_,rfl,?_⟩
 have hc:=hx.cm hy
 unfold grS grN grD
 by_cases h:cmR x.1 x.2.1.2 x.2.2.2 y.1 y.2.1.2 y.2.2.2<0
 ·rw[if_pos h,if_pos h,if_pos h]
  rw[hc,cmQ_lt]at h
  exact ⟨hy.cl,.inr rfl,Rat.le_of_lt h,Rat.le_refl⟩
 ·rw[if_neg h,if_neg h,if_neg h]
  rw[hc,cmQ_lt,Rat.not_lt]at h
  exact ⟨hx.cl,.inl rfl,Rat.le_refl,h⟩
theorem mx_ok:∀ {l:List RT} {x:RT},VT x→(∀ y∈l,VT y)→VT (mxT x l)∧(∃ z∈x :: l,clR (mxT x l)=clR z)∧∀ z∈x :: l,rvT z≤rvT (mxT x l)
 | [],x,h,_=>⟨h,⟨x,List.mem_cons_self,rfl⟩,fun z hz=>by simp at hz;subst hz;exact Rat.le_refl⟩
 | y :: l,x,h,hl=>by
  obtain ⟨z,hz,hv,he,h1,h2⟩:=gr_ok h (hl y List.mem_cons_self)
  obtain ⟨k1,⟨u,hu,k2⟩,k3⟩:=mx_ok hv (fun z hz=>hl z (List.mem_cons_of_mem _ hz))
  unfold mxT
  rw[←hz]
  refine ⟨k1,?_,fun v hv=>?_⟩
  ·rcases List.mem_cons.1 hu with rfl | hu
   ·rcases he with rfl | rfl
    ·exact ⟨x,by simp,k2⟩
    ·exact ⟨y,by simp,k2⟩
   ·exact ⟨u,by simp[hu],k2⟩
  ·rcases List.mem_cons.1 hv with rfl | hv
   ·exact Rat.le_trans h1 (k3 z List.mem_cons_self)
   ·rcases List.mem_cons.1 hv with rfl | hv
    ·exact Rat.le_trans h2 (k3 z List.mem_cons_self)
    ·exact k3 v (List.mem_cons_of_mem _ hv)
theorem COST.mx (h:COST l m) {b:Int} (h0:0≤b) (h1:b<m):VT (mxF l b)∧wmE1 l b=0∧wmT1 l b=clR (mxF l b)∧(∃ z∈colL l b,clR (mxF l b)=clR z)∧∀ z∈colL l b,rvT z≤rvT (mxF l b):=by
 obtain ⟨x,r,e,e1,e2⟩:=h.c0 b
 have hv:=h.col h0 h1
 rw[e]at hv
 have e3:mxF l b=mxT x r:=by unfold mxF;rw[e1,e2]
 obtain ⟨k1,k2,k3⟩:=mx_ok (hv x List.mem_cons_self) (fun y hy=>hv y (List.mem_cons_of_mem _ hy))
 unfold wmE1 wmT1
 rw[e3,e]
 exact ⟨k1,k1.addz.1,k1.addz.2,k2,k3⟩
def rsE (l:List RS):Nat→Int→Int
 | 0,_=>0
 | n+1,i=>if cmG l i≠0 then cmG l i else rsE l n (i+1)
def rsL (l:List RS):Nat→Int→List RT
 | 0,_=>[]
 | n+1,i=>cmF l i :: rsL l n (i+1)
theorem COST.rsEq (h:COST l m):∀ (n:Nat) (i:Int),0≤i→i+n≤m→cbE l n i=rsE l n i
 | 0,_,_,_=>rfl
 | n+1,i,h0,h1=>by
  unfold cbE rsE
  rw[(h.cm h0 (by omega)).1,COST.rsEq h n (i+1) (by omega) (by omega)]
theorem COST.rsLq (h:COST l m):∀ (n:Nat) (i:Int),0≤i→i+n≤m→rsE l n i=0→cbL l n i=cpRs (rsL l n i)
 | 0,_,_,_,_=>rfl
 | n+1,i,h0,h1,h2=>by
  unfold rsE at h2
  by_cases h3:cmG l i≠0
  ·rw[if_pos h3]at h2;exact absurd h2 h3
  rw[if_neg h3]at h2
  unfold cbL rsL
  rw[((h.cm h0 (by omega)).2 (Classical.not_not.1 h3)).2.1,COST.rsLq h n (i+1) (by omega) (by omega) h2];rfl
theorem COST.wbE (h:COST l m):∀ (n:Nat) (i:Int),0≤i→i+n≤m→wbE l n i=0
 | 0,_,_,_=>rfl
 | n+1,i,h0,h1=>by
  unfold Ab.wbE
  rw[if_neg (fun h2=>h2 (h.mx h0 (by omega)).2.1),COST.wbE h n (i+1) (by omega) (by omega)]
theorem COST.wbL (h:COST l m):∀ (n:Nat) (i:Int),0≤i→i+n≤m→wbL l n i=(List.range n).map fun k:Nat=>clR (mxF l (i+(k:Int)))
 | 0,_,_,_=>rfl
 | n+1,i,h0,h1=>by
  unfold Ab.wbL
  rw[(h.mx h0 (by omega)).2.2.1,COST.wbL h n (i+1) (by omega) (by omega),List.range_succ_eq_map,List.map_cons,List.map_map]
  congr 1
  ·show _=clR (mxF l (i+(0:Nat)));rw[Int.natCast_zero,Int.add_zero]
  ·refine List.map_congr_left fun k _=>?_
   show clR (mxF l (i+1+k))=clR (mxF l (i+(k+1:Nat)))
   rw[show i+1+(k:Int)=i+(k+1:Nat) by omega]
end
theorem MC.wor {l:List RS} (h:MC l):worE l=mchk l∧worL l=if mchk l=0 then (List.range (row0 l).length).map fun k:Nat=>clR (mxF l (k:Int)) else []:=by
 have e:worE l=mchk l:=by
  unfold worE
  by_cases hc:mchk l≠0
  ·rw[if_pos hc]
  ·rw[if_neg hc,(h.cost (Classical.not_not.1 hc)).wbE _ _ (Int.le_refl _) (by omega)];exact (Classical.not_not.1 hc).symm
 refine ⟨e,?_⟩
 unfold worL
 rw[e]
 by_cases hc:mchk l=0
 ·rw[if_pos hc,if_pos hc,(h.cost hc).wbL _ _ (Int.le_refl _) (by omega)]
  refine List.map_congr_left fun k _=>?_
  rw[Int.zero_add]
 ·rw[if_neg hc,if_neg hc]
def rsumE (l:List RS):Int:=if mchk l≠0 then mchk l else rsE l (row0 l).length 0
def rsumL (l:List RS):List RT:=if rsumE l=0 then rsL l (row0 l).length 0 else []
theorem MC.sum {l:List RS} (h:MC l):sumE l=rsumE l∧sumL l=cpRs (rsumL l):=by
 have e:sumE l=rsumE l:=by
  unfold sumE rsumE
  by_cases hc:mchk l≠0
  ·rw[if_pos hc,if_pos hc]
  ·rw[if_neg hc,if_neg hc,(h.cost (Classical.not_not.1 hc)).rsEq _ _ (Int.le_refl _) (by omega)]
 refine ⟨e,?_⟩
 unfold sumL rsumL
 rw[e]
 by_cases hc:rsumE l=0
 ·rw[if_pos hc,if_pos hc]
  unfold rsumE at hc
  by_cases hm:mchk l≠0
  ·rw[if_pos hm]at hc;exact absurd hc hm
  ·rw[if_neg hm]at hc
   exact (h.cost (Classical.not_not.1 hm)).rsLq _ _ (Int.le_refl _) (by omega) hc
 ·rw[if_neg hc,if_neg hc];rfl
def cmpV:List Rat→List Rat→Int
 | x :: a,y :: b=>if cmQ x y≠0 then cmQ x y else cmpV a b
 | _,_=>0
def valP (l:List RS) (b:Int):List Rat:=(proL l b).map rvT
def bst (f:Int→List Rat):List Bool→Int→Int→Int
 | [],_,best=>best
 | a :: r,i,best=>bst f r (i+1) (if a=true∧(best<0∨cmpV (f i) (f best)<0) then i else best)
theorem proL_VT {l:List RS} {b:Int} (h:∀ x∈colL l b,VT x):∀ x∈proL l b,VT x:=fun x hx=>by
 unfold proL at hx
 have:=(srtD_perm _).mem_iff.1 hx
 obtain ⟨y,hy,rfl⟩:=List.mem_map.1 this
 exact (h y hy).cl
end Go.Ab
namespace Go.Ab
open Go.Proofs
def bsel (c:List RT) (T:List Bool):Nat→Int→Int→Int
 | 0,_,best=>best
 | n+1,i,best=>bsel c T n (i+1) (if gtR .bool T i=false∧(best<0∨cmQ (rvT (gtR tR c i)) (rvT (gtR tR c best))>0) then i else best)
def rpro (c:List RT):Nat→List Bool→List RT
 | 0,_=>[]
 | n+1,T=>gtR tR c (bsel c T c.length 0 (-1)) :: rpro c n (T.set (bsel c T c.length 0 (-1)).toNat true)
theorem cmQ_gt {a b:Rat}:cmQ a b>0↔b<a:=by
 unfold cmQ
 split
 ·rename_i h;exact ⟨fun h1=>absurd h1 (by decide),fun h1=>absurd h1 (Rat.not_lt.2 (Rat.le_of_lt h))⟩
 ·rename_i h
  split
  ·rename_i h1;subst h1;exact ⟨fun h1=>absurd h1 (by decide),fun h1=>absurd h1 Rat.lt_irrefl⟩
  ·rename_i h1
   exact ⟨fun _=>by
    rcases Rat.le_iff_lt_or_eq.1 (Rat.not_lt.1 h) with h2 | h2
    ·exact h2
    ·exact absurd h2.symm h1,fun _=>by decide⟩
theorem cmQ_zero {a b:Rat}:cmQ a b=0↔a=b:=by
 unfold cmQ
 split
 ·rename_i h;exact ⟨fun h1=>absurd h1 (by decide),fun h1=>by subst h1;exact absurd h Rat.lt_irrefl⟩
 ·split
  ·rename_i h1;exact ⟨fun _=>h1,fun _=>rfl⟩
  ·rename_i h1;exact ⟨fun h=>absurd h (by decide),fun h=>absurd h h1⟩
structure BSP (c:List RT) (T:List Bool) (i best:Int):Prop where
 h:(best = -1∧∀ j:Int,0≤j→j<i→gtR .bool T j=true) ∨
  (0≤best∧best<i∧gtR .bool T best=false∧∀ j:Int,0≤j→j<i→gtR .bool T j=false→rvT (gtR tR c j)≤rvT (gtR tR c best))
theorem BSP.step {c:List RT} {T:List Bool} {i best:Int} (h:BSP c T i best) (i0:0≤i):BSP c T (i+1) (if gtR .bool T i=false∧(best<0∨cmQ (rvT (gtR tR c i)) (rvT (gtR tR c best))>0) then i else best):=by
 by_cases hc:gtR .bool T i=false∧(best<0∨cmQ (rvT (gtR tR c i)) (rvT (gtR tR c best))>0)
 ·rw[if_pos hc]
  refine ⟨.inr ⟨i0,by omega,hc.1,fun j j0 j1 j2=>?_⟩⟩
  by_cases hj:j=i
  ·subst hj;exact Rat.le_refl
  ·rcases h.h with ⟨_,h1⟩ | ⟨h1,h2,h3,h4⟩
   ·rw[h1 j j0 (by omega)]at j2;cases j2
   ·rcases hc.2 with h5 | h5
    ·omega
    ·exact Rat.le_trans (h4 j j0 (by omega) j2) (Rat.le_of_lt (cmQ_gt.1 h5))
 ·rw[if_neg hc]
  rcases h.h with ⟨h0,h1⟩ | ⟨h1,h2,h3,h4⟩
  ·refine ⟨.inl ⟨h0,fun j j0 j1=>?_⟩⟩
   by_cases hj:j=i
   ·subst hj
    cases ht:gtR .bool T j with
    | true=>rfl
    | false=>exact absurd ⟨ht,.inl (by omega)⟩ hc
   ·exact h1 j j0 (by omega)
  ·refine ⟨.inr ⟨h1,by omega,h3,fun j j0 j1 j2=>?_⟩⟩
   by_cases hj:j=i
   ·subst hj
    refine Rat.not_lt.1 fun h5=>hc ⟨j2,.inr (cmQ_gt.2 h5)⟩
   ·exact h4 j j0 (by omega) j2
theorem bsel_ok (c:List RT) (T:List Bool):∀ (n:Nat) (i best:Int),0≤i→BSP c T i best→BSP c T (i+n) (bsel c T n i best)
 | 0,i,best,_,h=>by rw[show i+((0:Nat):Int)=i by omega];exact h
 | n+1,i,best,i0,h=>by
  rw[show i+((n+1:Nat):Int)=i+1+(n:Int) by omega]
  exact bsel_ok c T n (i+1) _ (by omega) (h.step i0)
def lefL:List RT→List Bool→List RT
 | x :: c,t :: T=>if t=true then lefL c T else x :: lefL c T
 | _,_=>[]
theorem lefL_set:∀ {c:List RT} {T:List Bool} {k:Nat},k<c.length→k<T.length→T.getD k false=false→(lefL c T).Perm (c.getD k tR.dflt :: lefL c (T.set k true))
 | x :: c,t :: T,0,_,_,h=>by
  have:t=false:=h
  subst this
  show (x :: lefL c T).Perm (x :: lefL c T)
  exact .refl _
 | x :: c,t :: T,k+1,h1,h2,h=>by
  have ih:=lefL_set (c:=c) (T:=T) (k:=k) (by simpa using h1) (by simpa using h2) (by simpa using h)
  have e:(x :: c).getD (k+1) tR.dflt=c.getD k tR.dflt:=rfl
  rw[e,List.set_cons_succ]
  unfold lefL
  cases t with
  | true=>exact ih
  | false=>exact (ih.cons x).trans (List.Perm.swap ..)
theorem lefL_mem:∀ {c:List RT} {T:List Bool} {x:RT},x∈lefL c T→∃ k:Nat,k<c.length∧k<T.length∧T.getD k false=false∧x=c.getD k tR.dflt
 | y :: c,t :: T,x,h=>by
  unfold lefL at h
  have key:x∈lefL c T→∃ k:Nat,k<(y :: c).length∧k<(t :: T).length∧(t :: T).getD k false=false∧x=(y :: c).getD k tR.dflt:=fun h=>by
   obtain ⟨k,k1,k2,k3,k4⟩:=lefL_mem h
   exact ⟨k+1,by simpa using k1,by simpa using k2,k3,k4⟩
  cases t with
  | true=>exact key h
  | false=>
   rcases List.mem_cons.1 h with rfl | h
   ·exact ⟨0,by simp,by simp,rfl,rfl⟩
   ·exact key h
 | [],T,x,h=>by cases T <;> cases h
 | _ :: _,[],x,h=>by cases h
theorem lefL_rep:∀ c:List RT,lefL c (List.replicate c.length false)=c
 | []=>rfl
 | x :: c=>by
  show lefL (x :: c) (false :: List.replicate c.length false)=_
  unfold lefL
  rw[if_neg (by decide),lefL_rep c]
theorem gtB (T:List Bool) (i:Int):gtR .bool T i=T.getD i.toNat false:=rfl
theorem gtT (T:List RT) (i:Int):gtR tR T i=T.getD i.toNat tR.dflt:=rfl
theorem bsel_at {c:List RT} {T:List Bool} (hT:T.length=c.length) (h:0<(lefL c T).length):∃ k:Nat,bsel c T c.length 0 (-1)=k∧k<c.length∧T.getD k false=false∧∀ x∈lefL c T,rvT x≤rvT (c.getD k tR.dflt):=by
 have hb:=bsel_ok c T c.length 0 (-1) (Int.le_refl _) ⟨.inl ⟨rfl,fun j h0 h1=>by omega⟩⟩
 obtain ⟨x,hx⟩:=List.exists_mem_of_length_pos h
 obtain ⟨k,k1,k2,k3,k4⟩:=lefL_mem hx
 rcases hb.h with ⟨_,h1⟩ | ⟨h1,h2,h3,h4⟩
 ·have:=h1 k (by omega) (by omega)
  rw[gtB,Int.toNat_natCast,k3]at this;cases this
 ·refine ⟨(bsel c T c.length 0 (-1)).toNat,by omega,by omega,h3,fun y hy=>?_⟩
  obtain ⟨j,j1,j2,j3,rfl⟩:=lefL_mem hy
  exact h4 j (by omega) (by omega) j3
theorem rpro_ok (c:List RT):∀ (n:Nat) (T:List Bool),T.length=c.length→(lefL c T).length=n→(rpro c n T).Perm (lefL c T)∧(rpro c n T).Pairwise fun x y=>rvT y≤rvT x
 | 0,T,hT,h=>by
  rw[List.eq_nil_of_length_eq_zero h]
  exact ⟨.nil,.nil⟩
 | n+1,T,hT,h=>by
  obtain ⟨k,e,k1,k2,k3⟩:=bsel_at hT (by omega)
  unfold rpro
  rw[e,gtT,Int.toNat_natCast]
  have hp:=lefL_set k1 (by omega) k2
  obtain ⟨q1,q2⟩:=rpro_ok c n (T.set k true) (by rw[List.length_set];exact hT) (by have:=hp.length_eq;rw[h]at this;simpa using this.symm)
  refine ⟨(q1.cons _).trans hp.symm,List.pairwise_cons.2 ⟨fun y hy=>?_,q2⟩⟩
  exact k3 y (hp.mem_iff.2 (List.mem_cons_of_mem _ (q1.mem_iff.1 hy)))
def rproL (l:List RS) (b:Int):List RT:=rpro (colL l b) l.length (List.replicate l.length false)
theorem rproL_eq {l:List RS} {b:Int} (h:∀ x∈colL l b,VT x):cpRs (rproL l b)=proL l b:=by
 unfold rproL
 have hl:=colL_len l b
 rw[←hl]
 obtain ⟨h1,h2⟩:=rpro_ok (colL l b) (colL l b).length (List.replicate (colL l b).length false) (by simp) (by rw[lefL_rep])
 rw[lefL_rep]at h1
 refine srtD_uniq (fun x hx=>?_) (h1.map clR) ?_
 ·obtain ⟨y,hy,rfl⟩:=List.mem_map.1 hx
  exact ⟨(h y hy).cl,rfl⟩
 ·unfold cpRs
  rw[List.pairwise_map]
  exact h2
theorem rproL_len {l:List RS} {b:Int} (h:∀ x∈colL l b,VT x):(rproL l b).length=l.length:=by
 have:=congrArg List.length (rproL_eq h)
 rw[proL_len]at this
 unfold cpRs at this
 rwa [List.length_map]at this
theorem rproL_val {l:List RS} {b:Int} (h:∀ x∈colL l b,VT x):(rproL l b).map rvT=valP l b:=by
 unfold valP
 rw[←rproL_eq h]
 unfold cpRs
 rw[List.map_map];rfl
theorem rproL_VT {l:List RS} {b:Int} (h:∀ x∈colL l b,VT x):∀ x∈rproL l b,VT x:=fun x hx=>by
 have h1:clR x∈proL l b:=by rw[←rproL_eq h];exact List.mem_map_of_mem hx
 exact ⟨(proL_VT h _ h1).k⟩
theorem COST.head {l:List RS} {m:Nat} (h:COST l m) {b:Int} (h0:0≤b) (h1:b<m):clR (gtR tR (rproL l b) 0)=clR (mxF l b):=by
 have hv:=h.col h0 h1
 obtain ⟨m1,_,_,⟨z,hz,hz2⟩,m3⟩:=h.mx h0 h1
 have hl:=rproL_len hv
 obtain ⟨x,r,e⟩:=List.exists_cons_of_ne_nil (l:=rproL l b) (fun e=>by rw[e]at hl;have:=h.n0;simp at hl;omega)
 have e1:gtR tR (rproL l b) 0=x:=by rw[e];rfl
 rw[e1]
 have hx:VT x:=rproL_VT hv x (by rw[e];simp)
 obtain ⟨p1,p2⟩:=rpro_ok (colL l b) (colL l b).length (List.replicate (colL l b).length false) (by simp) (by rw[lefL_rep])
 rw[lefL_rep]at p1
 have e2:rpro (colL l b) (colL l b).length (List.replicate (colL l b).length false)=x :: r:=by rw[←e];unfold rproL;rw[colL_len]
 rw[e2]at p1 p2
 refine hx.eq m1 (Rat.le_antisymm (m3 x (p1.mem_iff.1 List.mem_cons_self)) ?_)
 have hz3:rvT (mxF l b)=rvT z:=by rw[←rvT_cl,hz2,rvT_cl]
 rw[hz3]
 rcases List.mem_cons.1 (p1.mem_iff.2 hz) with rfl | hz
 ·exact Rat.le_refl
 ·exact (List.pairwise_cons.1 p2).1 z hz
def bstE (l:List RS) (A:List Bool):Int:=if mchk l≠0 then mchk l else if A.length≠(row0 l).length then 16 else if bst (valP l) A 0 (-1)<0 then 9 else 0
def bstN (l:List RS) (A:List Bool):Int:=if bstE l A=0 then bst (valP l) A 0 (-1) else 0
end Go.Ab
