/- Plain laws: canonical numbers,sums,greatest costs. -/
import Derived.Test.YtlmdgmppeacobaaGreatLF
set_option linter.unusedSimpArgs false
set_option linter.unusedVariables false
set_option maxRecDepth 20000
set_option maxHeartbeats 4000000
namespace Go.Ab
open Go.Proofs
theorem RK.of_q {q:Rat} (h1:(qN q).length≤128) (h2:(qD q).length≤128):RK (qS q) (qN q) (qD q):=by
 refine ⟨CN_lm _,?_,h1,h2,?_,?_,?_⟩
 ·unfold qD;split
  ·exact CN.nil
  ·exact CN_lm _
 ·unfold qD;split
  ·intro h;cases h
  ·rename_i h;exact fun h3=>h (lm_one.1 h3)
 ·intro h
  have:=qN_nil.1 h;subst this
  exact ⟨by unfold qS;decide,by unfold qD;rfl⟩
 ·intro h
  have hd:q.den≠1:=fun h3=>h (by unfold qD;rw[if_pos h3])
  have:qD q=lm q.den:=by unfold qD;rw[if_neg hd]
  rw[this];unfold qN;rw[vl_lm,vl_lm];exact q.reduced
theorem rv_q (q:Rat):rv (qS q) (qN q) (qD q)=q:=by
 have hd:dn (qD q)=q.den:=by
  unfold dn qD
  by_cases h:q.den=1
  ·rw[if_pos h,if_pos rfl,h]
  ·rw[if_neg h,if_neg (fun h2=>q.den_nz (lm_eq_nil.1 h2)),vl_lm]
 unfold rv rnum
 rw[hd];unfold qN;rw[vl_lm]
 have:(if qS q=true then -(q.num.natAbs:Int) else q.num.natAbs)=q.num:=by
  unfold qS;by_cases h:q.num<0 <;> simp[h] <;> omega
 rw[this];exact Rat.mkRat_self q
def canon (q:Rat):RT:=(qS q,(none,qN q),(none,qD q))
theorem rvT_canon (q:Rat):rvT (canon q)=q:=rv_q q
theorem VT.back {x:RT} (h:VT x):canon (rvT x)=clR x:=by
 obtain ⟨a1,a2,a3⟩:=h.k.back
 unfold canon clR rvT
 rw[a1,a2,a3]
theorem rvT_cl (x:RT):rvT (clR x)=rvT x:=rfl
theorem VT.small {x:RT} (h:VT x):(qN (rvT x)).length≤128∧(qD (rvT x)).length≤128:=by
 obtain ⟨a1,a2,a3⟩:=h.k.back
 unfold rvT
 rw[a2,a3];exact ⟨h.k.la,h.k.lb⟩
theorem addE_eq {x y:RT} (hx:VT x) (hy:VT y):addE x y=if (qN (rvT x+rvT y)).length>128∨(qD (rvT x+rvT y)).length>128 then 4 else 0:=by
 have h1:=hx.chk
 have h2:=hy.chk
 unfold rck at h1 h2
 unfold addE adE
 rw[h1,h2,if_neg (fun h=>h (by rfl))];rfl
theorem addT_eq {x y:RT} (h:addE x y=0):addT x y=canon (rvT x+rvT y):=by
 unfold addE at h
 unfold addT adS adN adD canon
 rw[h];rfl
theorem VT.add {x y:RT} (hx:VT x) (hy:VT y) (h:addE x y=0):VT (addT x y):=by
 rw[addT_eq h]
 rw[addE_eq hx hy]at h
 have:¬ ((qN (rvT x+rvT y)).length>128∨(qD (rvT x+rvT y)).length>128):=fun h1=>by rw[if_pos h1]at h;exact absurd h (by decide)
 exact ⟨RK.of_q (by omega) (by omega)⟩
theorem rvT_add {x y:RT} (h:addE x y=0):rvT (addT x y)=rvT x+rvT y:=by rw[addT_eq h,rvT_canon]
theorem VT.z:VT zT:=⟨⟨.nil,.nil,by decide,by decide,by decide,fun _=>⟨rfl,rfl⟩,fun h=>absurd rfl h⟩⟩
theorem rvT_z:rvT zT=0:=by
 show rv false [] []=0
 unfold rv;rw[vl_nil,rnum_zero]
theorem VT.addz {x:RT} (h:VT x):addE x zT=0∧addT x zT=clR x:=by
 have h1:addE x zT=0:=by
  rw[addE_eq h .z,rvT_z,Rat.add_zero]
  have:=h.small
  exact if_neg (by omega)
 refine ⟨h1,?_⟩
 rw[addT_eq h1,rvT_z,Rat.add_zero,h.back]
def sumQ:List Rat→Rat
 | []=>0
 | x :: l=>x+sumQ l
theorem fld_ok:∀ {l:List RT} {x:RT},VT x→(∀ y∈l,VT y)→fldE x l=0→VT (fldT x l)∧rvT (fldT x l)=rvT x+sumQ (l.map rvT)
 | [],x,h,_,_=>⟨h,by show rvT x=rvT x+0;rw[Rat.add_zero]⟩
 | y :: l,x,h,hl,he=>by
  unfold fldE at he
  by_cases h1:addE x y≠0
  ·rw[if_pos h1]at he;exact absurd he h1
  ·rw[if_neg h1]at he
   have h1':=Classical.not_not.1 h1
   obtain ⟨k1,k2⟩:=fld_ok (h.add (hl y List.mem_cons_self) h1') (fun z hz=>hl z (List.mem_cons_of_mem _ hz)) he
   unfold fldT
   rw[if_neg h1]
   refine ⟨k1,?_⟩
   rw[k2,rvT_add h1',List.map_cons]
   show _=rvT x+(rvT y+sumQ (l.map rvT))
   rw[Rat.add_assoc]
theorem fe_ok:∀ {l:List RT},fe l=0→∀ x∈l,rck x=0
 | [],_,x,hx=>by cases hx
 | y :: l,h,x,hx=>by
  unfold fe at h
  by_cases h1:rck y≠0
  ·rw[if_pos h1]at h;exact absurd h h1
  ·rw[if_neg h1]at h
   rcases List.mem_cons.1 hx with rfl | hx
   ·exact Classical.not_not.1 h1
   ·exact fe_ok h x hx
theorem mem_cat:∀ {l:List RS} {r:RS} {x:RT},r∈l→x∈r.2→x∈cat l
 | s :: l,r,x,h,hx=>by
  unfold cat
  rcases List.mem_cons.1 h with rfl | h
  ·exact List.mem_append_left _ hx
  ·exact List.mem_append_right _ (mem_cat h hx)
structure COST (l:List RS) (m:Nat):Prop where
 n0:0<l.length
 n8:l.length≤8
 m0:0<m
 m6:m≤6
 row:∀ r∈l,r.2.length=m
 v:∀ r∈l,∀ x∈r.2,VT x
theorem MC.cost {l:List RS} (h:MC l) (hc:mchk l=0):COST l (row0 l).length:=by
 obtain ⟨k1,k2,k3,k4,k5⟩:=mchk_ok hc
 refine ⟨k1,k2,?_,k4,k3,fun r hr x hx=>?_⟩
 ·unfold mchk at hc
  rw[if_neg (by omega),if_neg (by omega)]at hc
  by_cases h0:(row0 l).length=0
  ·rw[if_pos h0]at hc;exact absurd hc (by decide)
  ·omega
 ·have h1:=fe_ok k5 x (mem_cat hr hx)
  obtain ⟨a,b,_,_⟩:=(h.b.h r hr).2.h x hx
  exact ⟨(rchk_ok a b).1 h1⟩
section
variable {l:List RS} {m:Nat}
theorem COST.ne (h:COST l m):l≠[]:=fun e=>by have:=h.n0;rw[e]at this;exact absurd this (by decide)
theorem COST.col (h:COST l m) {b:Int} (h0:0≤b) (h1:b<m):∀ x∈colL l b,VT x:=fun x hx=>by
 obtain ⟨r,hr,rfl⟩:=List.mem_map.1 hx
 exact h.v r hr _ (gtR_mem (t:=tR) h0 (by rw[h.row r hr];exact h1))
theorem COST.prf (h:COST l m) {b:Int} (h0:0≤b) (h1:b<m):PRF l b:=⟨⟨h0,by have:=h.n8;omega,fun r hr=>by rw[h.row r hr];exact h1⟩,h.ne,h.col h0 h1⟩
theorem COST.c0 (h:COST l m) (b:Int):∃ x r,colL l b=x :: r∧gtR tR (colL l b) 0=x∧(colL l b).drop 1=r:=by
 obtain ⟨x,r,e⟩:=List.exists_cons_of_ne_nil (l:=colL l b) (fun e=>by have:=colL_len l b;rw[e]at this;have:=h.n0;simp at *;omega)
 exact ⟨x,r,e,by rw[e];rfl,by rw[e];rfl⟩
theorem COST.cm (h:COST l m) {b:Int} (h0:0≤b) (h1:b<m):cmE1 l b=cmG l b∧(cmG l b=0→VT (cmF l b)∧cmT1 l b=clR (cmF l b)∧rvT (cmF l b)=sumQ ((colL l b).map rvT)):=by
 obtain ⟨x,r,e,e1,e2⟩:=h.c0 b
 have hv:=h.col h0 h1
 rw[e]at hv
 have key:cmG l b=0→VT (cmF l b)∧rvT (cmF l b)=sumQ ((colL l b).map rvT):=fun hg=>by
  unfold cmG at hg
  unfold cmF
  rw[e1,e2]at *
  rw[e]
  exact fld_ok (hv x List.mem_cons_self) (fun y hy=>hv y (List.mem_cons_of_mem _ hy)) hg
 refine ⟨?_,fun hg=>⟨(key hg).1,(key hg).1.addz.2,(key hg).2⟩⟩
 unfold cmE1
 by_cases hg:cmG l b=0
 ·rw[if_pos hg,hg];exact (key hg).1.addz.1
 ·rw[if_neg hg]
theorem gr_ok {x y:RT} (hx:VT x) (hy:VT y):∃ z:RT,z=(grS x.1 x.2.1.2 x.2.2.2 y.1 y.2.1.2 y.2.2.2,(none,grN x.1 x.2.1.2 x.2.2.2 y.1 y.2.1.2 y.2.2.2),(none,grD x.1 x.2.1.2 x.2.2.2 y.1 y.2.1.2 y.2.2.2))∧VT z∧(z=clR x∨z=clR y)∧rvT x≤rvT z∧rvT y≤rvT z:=by
 refine ⟨_,rfl,?_⟩
 have hc:=hx.cm hy
 unfold grS grN grD
 by_cases h:cmR x.1 x.2.1.2 x.2.2.2 y.1 y.2.1.2 y.2.2.2<0
 ·rw[if_pos h,if_pos h,if_pos h]
  rw[hc,cmQ_lt]at h
  exact ⟨hy.cl,.inr rfl,Rat.le_of_lt h,Rat.le_refl⟩
 ·rw[if_neg h,if_neg h,if_neg h]
  rw[hc,cmQ_lt,Rat.not_lt]at h
  exact ⟨hx.cl,.inl rfl,Rat.le_refl,h⟩
theorem mx_ok:∀ {l:List RT} {x:RT},VT x→(∀ y∈l,VT y)→VT (mxT x l)∧(∃ z∈x :: l,clR (mxT x l)=clR z)∧∀ z∈x :: l,rvT z≤rvT (mxT x l)
 | [],x,h,_=>⟨h,⟨x,List.mem_cons_self,rfl⟩,fun z hz=>by simp at hz;subst hz;exact Rat.le_refl⟩
 | y :: l,x,h,hl=>by
  obtain ⟨z,hz,hv,he,h1,h2⟩:=gr_ok h (hl y List.mem_cons_self)
  obtain ⟨k1,⟨u,hu,k2⟩,k3⟩:=mx_ok hv (fun z hz=>hl z (List.mem_cons_of_mem _ hz))
  unfold mxT
  rw[←hz]
  refine ⟨k1,?_,fun v hv=>?_⟩
  ·rcases List.mem_cons.1 hu with rfl | hu
   ·rcases he with rfl | rfl
    ·exact ⟨x,by simp,k2⟩
    ·exact ⟨y,by simp,k2⟩
   ·exact ⟨u,by simp[hu],k2⟩
  ·rcases List.mem_cons.1 hv with rfl | hv
   ·exact Rat.le_trans h1 (k3 z List.mem_cons_self)
   ·rcases List.mem_cons.1 hv with rfl | hv
    ·exact Rat.le_trans h2 (k3 z List.mem_cons_self)
    ·exact k3 v (List.mem_cons_of_mem _ hv)
theorem COST.mx (h:COST l m) {b:Int} (h0:0≤b) (h1:b<m):VT (mxF l b)∧wmE1 l b=0∧wmT1 l b=clR (mxF l b)∧(∃ z∈colL l b,clR (mxF l b)=clR z)∧∀ z∈colL l b,rvT z≤rvT (mxF l b):=by
 obtain ⟨x,r,e,e1,e2⟩:=h.c0 b
 have hv:=h.col h0 h1
 rw[e]at hv
 have e3:mxF l b=mxT x r:=by unfold mxF;rw[e1,e2]
 obtain ⟨k1,k2,k3⟩:=mx_ok (hv x List.mem_cons_self) (fun y hy=>hv y (List.mem_cons_of_mem _ hy))
 unfold wmE1 wmT1
 rw[e3,e]
 exact ⟨k1,k1.addz.1,k1.addz.2,k2,k3⟩
def rsE (l:List RS):Nat→Int→Int
 | 0,_=>0
 | n+1,i=>if cmG l i≠0 then cmG l i else rsE l n (i+1)
def rsL (l:List RS):Nat→Int→List RT
 | 0,_=>[]
 | n+1,i=>cmF l i :: rsL l n (i+1)
theorem COST.rsEq (h:COST l m):∀ (n:Nat) (i:Int),0≤i→i+n≤m→cbE l n i=rsE l n i
 | 0,_,_,_=>rfl
 | n+1,i,h0,h1=>by
  unfold cbE rsE
  rw[(h.cm h0 (by omega)).1,COST.rsEq h n (i+1) (by omega) (by omega)]
theorem COST.rsLq (h:COST l m):∀ (n:Nat) (i:Int),0≤i→i+n≤m→rsE l n i=0→cbL l n i=cpRs (rsL l n i)
 | 0,_,_,_,_=>rfl
 | n+1,i,h0,h1,h2=>by
  unfold rsE at h2
  by_cases h3:cmG l i≠0
  ·rw[if_pos h3]at h2;exact absurd h2 h3
  rw[if_neg h3]at h2
  unfold cbL rsL
  rw[((h.cm h0 (by omega)).2 (Classical.not_not.1 h3)).2.1,COST.rsLq h n (i+1) (by omega) (by omega) h2];rfl
theorem COST.wbE (h:COST l m):∀ (n:Nat) (i:Int),0≤i→i+n≤m→wbE l n i=0
 | 0,_,_,_=>rfl
 | n+1,i,h0,h1=>by
  unfold Ab.wbE
  rw[if_neg (fun h2=>h2 (h.mx h0 (by omega)).2.1),COST.wbE h n (i+1) (by omega) (by omega)]
theorem COST.wbL (h:COST l m):∀ (n:Nat) (i:Int),0≤i→i+n≤m→wbL l n i=(List.range n).map fun k:Nat=>clR (mxF l (i+(k:Int)))
 | 0,_,_,_=>rfl
 | n+1,i,h0,h1=>by
  unfold Ab.wbL
  rw[(h.mx h0 (by omega)).2.2.1,COST.wbL h n (i+1) (by omega) (by omega),List.range_succ_eq_map,List.map_cons,List.map_map]
  congr 1
  ·show _=clR (mxF l (i+(0:Nat)));rw[Int.natCast_zero,Int.add_zero]
  ·refine List.map_congr_left fun k _=>?_
   show clR (mxF l (i+1+k))=clR (mxF l (i+(k+1:Nat)))
   rw[show i+1+(k:Int)=i+(k+1:Nat) by omega]
end
theorem MC.wor {l:List RS} (h:MC l):worE l=mchk l∧worL l=if mchk l=0 then (List.range (row0 l).length).map fun k:Nat=>clR (mxF l (k:Int)) else []:=by
 have e:worE l=mchk l:=by
  unfold worE
  by_cases hc:mchk l≠0
  ·rw[if_pos hc]
  ·rw[if_neg hc,(h.cost (Classical.not_not.1 hc)).wbE _ _ (Int.le_refl _) (by omega)];exact (Classical.not_not.1 hc).symm
 refine ⟨e,?_⟩
 unfold worL
 rw[e]
 by_cases hc:mchk l=0
 ·rw[if_pos hc,if_pos hc,(h.cost hc).wbL _ _ (Int.le_refl _) (by omega)]
  refine List.map_congr_left fun k _=>?_
  rw[Int.zero_add]
 ·rw[if_neg hc,if_neg hc]
def rsumE (l:List RS):Int:=if mchk l≠0 then mchk l else rsE l (row0 l).length 0
def rsumL (l:List RS):List RT:=if rsumE l=0 then rsL l (row0 l).length 0 else []
theorem MC.sum {l:List RS} (h:MC l):sumE l=rsumE l∧sumL l=cpRs (rsumL l):=by
 have e:sumE l=rsumE l:=by
  unfold sumE rsumE
  by_cases hc:mchk l≠0
  ·rw[if_pos hc,if_pos hc]
  ·rw[if_neg hc,if_neg hc,(h.cost (Classical.not_not.1 hc)).rsEq _ _ (Int.le_refl _) (by omega)]
 refine ⟨e,?_⟩
 unfold sumL rsumL
 rw[e]
 by_cases hc:rsumE l=0
 ·rw[if_pos hc,if_pos hc]
  unfold rsumE at hc
  by_cases hm:mchk l≠0
  ·rw[if_pos hm]at hc;exact absurd hc hm
  ·rw[if_neg hm]at hc
   exact (h.cost (Classical.not_not.1 hm)).rsLq _ _ (Int.le_refl _) (by omega) hc
 ·rw[if_neg hc,if_neg hc];rfl
def cmpV:List Rat→List Rat→Int
 | x :: a,y :: b=>if cmQ x y≠0 then cmQ x y else cmpV a b
 | _,_=>0
def valP (l:List RS) (b:Int):List Rat:=(proL l b).map rvT
def bst (f:Int→List Rat):List Bool→Int→Int→Int
 | [],_,best=>best
 | a :: r,i,best=>bst f r (i+1) (if a=true∧(best<0∨cmpV (f i) (f best)<0) then i else best)
theorem proL_VT {l:List RS} {b:Int} (h:∀ x∈colL l b,VT x):∀ x∈proL l b,VT x:=fun x hx=>by
 unfold proL at hx
 have:=(srtD_perm _).mem_iff.1 hx
 obtain ⟨y,hy,rfl⟩:=List.mem_map.1 this
 exact (h y hy).cl
end Go.Ab
