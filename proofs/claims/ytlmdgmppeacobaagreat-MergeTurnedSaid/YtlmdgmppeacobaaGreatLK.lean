/- Plain laws: canonical numbers,sums,greatest costs. -/
import Derived.Test.YtlmdgmppeacobaaGreatLF
set_option linter.unusedSimpArgs false
set_option linter.unusedVariables false
set_option maxRecDepth 20000
set_option maxHeartbeats 4000000
namespace Go.Ab
open Go.Proofs
theorem RK.of_q {q:Rat} (h1:(qN q).length≤128) (h2:(qD q).length≤128):RK (qS q) (qN q) (qD q):=by
 refine ⟨CN_lm _,?_,h1,h2,?_,?_,?_⟩
 ·unfold qD;split
  ·exact CN.nil
  ·exact CN_lm _
 ·unfold qD;split
  ·intro h;cases h
  ·rename_i h;exact fun h3=>h (lm_one.1 h3)
 ·intro h
  have:=qN_nil.1 h;subst this
  exact ⟨by unfold qS;decide,by unfold qD;rfl⟩
 ·intro h
  have hd:q.den≠1:=fun h3=>h (by unfold qD;rw[if_pos h3])
  have:qD q=lm q.den:=by unfold qD;rw[if_neg hd]
  rw[this];unfold qN;rw[vl_lm,vl_lm];exact q.reduced
theorem rv_q (q:Rat):rv (qS q) (qN q) (qD q)=q:=by
 have hd:dn (qD q)=q.den:=by
  unfold dn qD
  by_cases h:q.den=1
  ·rw[if_pos h,if_pos rfl,h]
  ·rw[if_neg h,if_neg (fun h2=>q.den_nz (lm_eq_nil.1 h2)),vl_lm]
 unfold rv rnum
 rw[hd];unfold qN;rw[vl_lm]
 have:(if qS q=true then -(q.num.natAbs:Int) else q.num.natAbs)=q.num:=by
  unfold qS;by_cases h:q.num<0 <;> simp[h] <;> omega
 rw[this];exact Rat.mkRat_self q
def canon (q:Rat):RT:=(qS q,(none,qN q),(none,qD q))
theorem rvT_canon (q:Rat):rvT (canon q)=q:=rv_q q
theorem VT.back {x:RT} (h:VT x):canon (rvT x)=clR x:=by
 obtain ⟨a1,a2,a3⟩:=h.k.back
 unfold canon clR rvT
 rw[a1,a2,a3]
theorem rvT_cl (x:RT):rvT (clR x)=rvT x:=rfl
theorem VT.small {x:RT} (h:VT x):(qN (rvT x)).length≤128∧(qD (rvT x)).length≤128:=by
 obtain ⟨a1,a2,a3⟩:=h.k.back
 unfold rvT
 rw[a2,a3];exact ⟨h.k.la,h.k.lb⟩
theorem addE_eq {x y:RT} (hx:VT x) (hy:VT y):addE x y=if (qN (rvT x+rvT y)).length>128∨(qD (rvT x+rvT y)).length>128 then 4 else 0:=by
 have h1:=hx.chk
 have h2:=hy.chk
 unfold rck at h1 h2
 unfold addE adE
 rw[h1,h2,if_neg (fun h=>h (by rfl))];rfl
theorem addT_eq {x y:RT} (h:addE x y=0):addT x y=canon (rvT x+rvT y):=by
 unfold addE at h
 unfold addT adS adN adD canon
 rw[h];rfl
theorem VT.add {x y:RT} (hx:VT x) (hy:VT y) (h:addE x y=0):VT (addT x y):=by
 rw[addT_eq h]
 rw[addE_eq hx hy]at h
 have:¬ ((qN (rvT x+rvT y)).length>128∨(qD (rvT x+rvT y)).length>128):=fun h1=>by rw[if_pos h1]at h;exact absurd h (by decide)
 exact ⟨RK.of_q (by omega) (by omega)⟩
theorem rvT_add {x y:RT} (h:addE x y=0):rvT (addT x y)=rvT x+rvT y:=by rw[addT_eq h,rvT_canon]
theorem VT.z:VT zT:=⟨⟨.nil,.nil,by decide,by decide,by decide,fun _=>⟨rfl,rfl⟩,fun h=>absurd rfl h⟩⟩
theorem rvT_z:rvT zT=0:=by
 show rv false [] []=0
 unfold rv;rw[vl_nil,rnum_zero]
theorem VT.addz {x:RT} (h:VT x):addE x zT=0∧addT x zT=clR x:=by
 have h1:addE x zT=0:=by
  rw[addE_eq h .z,rvT_z,Rat.add_zero]
  have:=h.small
  exact if_neg (by omega)
 refine ⟨h1,?_⟩
 rw[addT_eq h1,rvT_z,Rat.add_zero,h.back]
def sumQ:List Rat→Rat
 | []=>0
 | x :: l=>x+sumQ l
theorem fld_ok:∀ {l:List RT} {x:RT},VT x→(∀ y∈l,VT y)→fldE x l=0→VT (fldT x l)∧rvT (fldT x l)=rvT x+sumQ (l.map rvT)
 | [],x,h,_,_=>⟨h,by show rvT x=rvT x+0;rw[Rat.add_zero]⟩
 | y :: l,x,h,hl,he=>by
  unfold fldE at he
  by_cases h1:addE x y≠0
  ·rw[if_pos h1]at he;exact absurd he h1
  ·rw[if_neg h1]at he
   have h1':=Classical.not_not.1 h1
   obtain ⟨k1,k2⟩:=fld_ok (h.add (hl y List.mem_cons_self) h1') (fun z hz=>hl z (List.mem_cons_of_mem _ hz)) he
   unfold fldT
   rw[if_neg h1]
   refine ⟨k1,?_⟩
   rw[k2,rvT_add h1',List.map_cons]
   show _=rvT x+(rvT y+sumQ (l.map rvT))
   rw[Rat.add_assoc]
theorem fe_ok:∀ {l:List RT},fe l=0→∀ x∈l,rck x=0
 | [],_,x,hx=>by cases hx
 | y :: l,h,x,hx=>by
  unfold fe at h
  by_cases h1:rck y≠0
  ·rw[if_pos h1]at h;exact absurd h h1
  ·rw[if_neg h1]at h
   rcases List.mem_cons.1 hx with rfl | hx
   ·exact Classical.not_not.1 h1
   ·exact fe_ok h x hx
theorem mem_cat:∀ {l:List RS} {r:RS} {x:RT},r∈l→x∈r.2→x∈cat l
 | s :: l,r,x,h,hx=>by
  unfold cat
  rcases List.mem_cons.1 h with rfl | h
  ·exact List.mem_append_left _ hx
  ·exact List.mem_append_right _ (mem_cat h hx)
structure COST (l:List RS) (m:Nat):Prop where
 n0:0<l.length
 n8:l.length≤8
 m0:0<m
 m6:m≤6
 row:∀ r∈l,r.2.length=m
 v:∀ r∈l,∀ x∈r.2,VT x
theorem MC.cost {l:List RS} (h:MC l) (hc:mchk l=0):COST l (row0 l).length:=by
 obtain ⟨k1,k2,k3,k4,k5⟩:=mchk_ok hc
 refine ⟨k1,k2,?_,k4,k3,fun r hr x hx=>?_⟩
 ·unfold mchk at hc
  rw[if_neg (by omega),if_neg (by omega)]at hc
  by_cases h0:(row0 l).length=0
  ·rw[if_pos h0]at hc;exact absurd hc (by decide)
  ·omega
 ·have h1:=fe_ok k5 x (mem_cat hr hx)
  obtain ⟨a,b,_,_⟩:=(h.b.h r hr).2.h x hx
  exact ⟨(rchk_ok a b).1 h1⟩
section
variable {l:List RS} {m:Nat}
theorem COST.ne (h:COST l m):l≠[]:=fun e=>by have:=h.n0;rw[e]at this;exact absurd this (by decide)
theorem COST.col (h:COST l m) {b:Int} (h0:0≤b) (h1:b<m):∀ x∈colL l b,VT x:=fun x hx=>by
 obtain ⟨r,hr,rfl⟩:=List.mem_map.1 hx
 exact h.v r hr _ (gtR_mem (t:=tR) h0 (by rw[h.row r hr];exact h1))
theorem COST.prf (h:COST l m) {b:Int} (h0:0≤b) (h1:b<m):PRF l b:=⟨⟨h0,by have:=h.n8;omega,fun r hr=>by rw[h.row r hr];exact h1⟩,h.ne,h.col h0 h1⟩
theorem COST.c0 (h:COST l m) (b:Int):∃ x r,colL l b=x :: r∧gtR tR (colL l b) 0=x∧(colL l b).drop 1=r:=by
 obtain ⟨x,r,e⟩:=List.exists_cons_of_ne_nil (l:=colL l b) (fun e=>by have:=colL_len l b;rw[e]at this;have:=h.n0;simp at *;omega)
 exact ⟨x,r,e,by rw[e];rfl,by rw[e];rfl⟩
theorem COST.cm (h:COST l m) {b:Int} (h0:0≤b) (h1:b<m):cmE1 l b=cmG l b∧(cmG l b=0→VT (cmF l b)∧cmT1 l b=clR (cmF l b)∧rvT (cmF l b)=sumQ ((colL l b).map rvT)):=by
 obtain ⟨x,r,e,e1,e2⟩:=h.c0 b
 have hv:=h.col h0 h1
 rw[e]at hv
 have key:cmG l b=0→VT (cmF l b)∧rvT (cmF l b)=sumQ ((colL l b).map rvT):=fun hg=>by
  unfold cmG at hg
  unfold cmF
  rw[e1,e2]at *
  rw[e]
  exact fld_ok (hv x List.mem_cons_self) (fun y hy=>hv y (List.mem_cons_of_mem _ hy)) hg
 refine ⟨?_,fun hg=>⟨(key hg).1,(key hg).1.addz.2,(key hg).2⟩⟩
 unfold cmE1
 by_cases hg:cmG l b=0
 ·rw[if_pos hg,hg];exact (key hg).1.addz.1
 ·rw[if_neg hg]
theorem gr_ok {x y:RT} (hx:VT x) (hy:VT y):∃ z:RT,z=(grS x.1 x.2.1.2 x.2.2.2 y.1 y.2.1.2 y.2.2.2,(none,grN x.1 x.2.1.2 x.2.2.2 y.1 y.2.1.2 y.2.2.2),(none,grD x.1 x.2.1.2 x.2.2.2 y.1 y.2.1.2 y.2.2.2))∧VT z∧(z=clR x∨z=clR y)∧rvT x≤rvT z∧rvT y≤rvT z:=by
 refine ⟨_,rfl,?_⟩
 have hc:=hx.cm hy
 unfold grS grN grD
 by_cases h:cmR x.1 x.2.1.2 x.2.2.2 y.1 y.2.1.2 y.2.2.2<0
 ·rw[if_pos h,if_pos h,if_pos h]
  rw[hc,cmQ_lt]at h
  exact ⟨hy.cl,.inr rfl,Rat.le_of_lt h,Rat.le_refl⟩
 ·rw[if_neg h,if_neg h,if_neg h]
  rw[hc,cmQ_lt,Rat.not_lt]at h
  exact ⟨hx.cl,.inl rfl,Rat.le_refl,h⟩
theorem mx_ok:∀ {l:List RT} {x:RT},VT x→(∀ y∈l,VT y)→VT (mxT x l)∧(∃ z∈x :: l,clR (mxT x l)=clR z)∧∀ z∈x :: l,rvT z≤rvT (mxT x l)
 | [],x,h,_=>⟨h,⟨x,List.mem_cons_self,rfl⟩,fun z hz=>by simp at hz;subst hz;exact Rat.le_refl⟩
 | y :: l,x,h,hl=>by
  obtain ⟨z,hz,hv,he,h1,h2⟩:=gr_ok h (hl y List.mem_cons_self)
  obtain ⟨k1,⟨u,hu,k2⟩,k3⟩:=mx_ok hv (fun z hz=>hl z (List.mem_cons_of_mem _ hz))
  unfold mxT
  rw[←hz]
  refine ⟨k1,?_,fun v hv=>?_⟩
  ·rcases List.mem_cons.1 hu with rfl | hu
   ·rcases he with rfl | rfl
    ·exact ⟨x,by simp,k2⟩
    ·exact ⟨y,by simp,k2⟩
   ·exact ⟨u,by simp[hu],k2⟩
  ·rcases List.mem_cons.1 hv with rfl | hv
   ·exact Rat.le_trans h1 (k3 z List.mem_cons_self)
   ·rcases List.mem_cons.1 hv with rfl | hv
    ·exact Rat.le_trans h2 (k3 z List.mem_cons_self)
    ·exact k3 v (List.mem_cons_of_mem _ hv)
theorem COST.mx (h:COST l m) {b:Int} (h0:0≤b) (h1:b<m):VT (mxF l b)∧wmE1 l b=0∧wmT1 l b=clR (mxF l b)∧(∃ z∈colL l b,clR (mxF l b)=clR z)∧∀ z∈colL l b,rvT z≤rvT (mxF l b):=by
 obtain ⟨x,r,e,e1,e2⟩:=h.c0 b
 have hv:=h.col h0 h1
 rw[e]at hv
 have e3:mxF l b=mxT x r:=by unfold mxF;rw[e1,e2]
 obtain ⟨k1,k2,k3⟩:=mx_ok (hv x List.mem_cons_self) (fun y hy=>hv y (List.mem_cons_of_mem _ hy))
 unfold wmE1 wmT1
 rw[e3,e]
 exact ⟨k1,k1.addz.1,k1.addz.2,k2,k3⟩
def rsE (l:List RS):Nat→Int→Int
 | 0,_=>0
 | n+1,i=>if cmG l i≠0 then cmG l i else rsE l n (i+1)
def rsL (l:List RS):Nat→Int→List RT
 | 0,_=>[]
 | n+1,i=>cmF l i :: rsL l n (i+1)
theorem COST.rsEq (h:COST l m):∀ (n:Nat) (i:Int),0≤i→i+n≤m→cbE l n i=rsE l n i
 | 0,_,_,_=>rfl
 | n+1,i,h0,h1=>by
  unfold cbE rsE
  rw[(h.cm h0 (by omega)).1,COST.rsEq h n (i+1) (by omega) (by omega)]
theorem COST.rsLq (h:COST l m):∀ (n:Nat) (i:Int),0≤i→i+n≤m→rsE l n i=0→cbL l n i=cpRs (rsL l n i)
 | 0,_,_,_,_=>rfl
 | n+1,i,h0,h1,h2=>by
  unfold rsE at h2
  by_cases h3:cmG l i≠0
  ·rw[if_pos h3]at h2;exact absurd h2 h3
  rw[if_neg h3]at h2
  unfold cbL rsL
  rw[((h.cm h0 (by omega)).2 (Classical.not_not.1 h3)).2.1,COST.rsLq h n (i+1) (by omega) (by omega) h2];rfl
theorem COST.wbE (h:COST l m):∀ (n:Nat) (i:Int),0≤i→i+n≤m→wbE l n i=0
 | 0,_,_,_=>rfl
 | n+1,i,h0,h1=>by
  unfold Ab.wbE
  rw[if_neg (fun h2=>h2 (h.mx h0 (by omega)).2.1),COST.wbE h n (i+1) (by omega) (by omega)]
theorem COST.wbL (h:COST l m):∀ (n:Nat) (i:Int),0≤i→i+n≤m→wbL l n i=(List.range n).map fun k:Nat=>clR (mxF l (i+(k:Int)))
 | 0,_,_,_=>rfl
 | n+1,i,h0,h1=>by
  unfold Ab.wbL
  rw[(h.mx h0 (by omega)).2.2.1,COST.wbL h n (i+1) (by omega) (by omega),List.range_succ_eq_map,List.map_cons,List.map_map]
  congr 1
  ·show _=clR (mxF l (i+(0:Nat)));rw[Int.natCast_zero,Int.add_zero]
  ·refine List.map_congr_left fun k _=>?_
   show clR (mxF l (i+1+k))=clR (mxF l (i+(k+1:Nat)))
   rw[show i+1+(k:Int)=i+(k+1:Nat) by omega]
end
theorem MC.wor {l:List RS} (h:MC l):worE l=mchk l∧worL l=if mchk l=0 then (List.range (row0 l).length).map fun k:Nat=>clR (mxF l (k:Int)) else []:=by
 have e:worE l=mchk l:=by
  unfold worE
  by_cases hc:mchk l≠0
  ·rw[if_pos hc]
  ·rw[if_neg hc,(h.cost (Classical.not_not.1 hc)).wbE _ _ (Int.le_refl _) (by omega)];exact (Classical.not_not.1 hc).symm
 refine ⟨e,?_⟩
 unfold worL
 rw[e]
 by_cases hc:mchk l=0
 ·rw[if_pos hc,if_pos hc,(h.cost hc).wbL _ _ (Int.le_refl _) (by omega)]
  refine List.map_congr_left fun k _=>?_
  rw[Int.zero_add]
 ·rw[if_neg hc,if_neg hc]
def rsumE (l:List RS):Int:=if mchk l≠0 then mchk l else rsE l (row0 l).length 0
def rsumL (l:List RS):List RT:=if rsumE l=0 then rsL l (row0 l).length 0 else []
theorem MC.sum {l:List RS} (h:MC l):sumE l=rsumE l∧sumL l=cpRs (rsumL l):=by
 have e:sumE l=rsumE l:=by
  unfold sumE rsumE
  by_cases hc:mchk l≠0
  ·rw[if_pos hc,if_pos hc]
  ·rw[if_neg hc,if_neg hc,(h.cost (Classical.not_not.1 hc)).rsEq _ _ (Int.le_refl _) (by omega)]
 refine ⟨e,?_⟩
 unfold sumL rsumL
 rw[e]
 by_cases hc:rsumE l=0
 ·rw[if_pos hc,if_pos hc]
  unfold rsumE at hc
  by_cases hm:mchk l≠0
  ·rw[if_pos hm]at hc;exact absurd hc hm
  ·rw[if_neg hm]at hc
   exact (h.cost (Classical.not_not.1 hm)).rsLq _ _ (Int.le_refl _) (by omega) hc
 ·rw[if_neg hc,if_neg hc];rfl
def cmpV:List Rat→List Rat→Int
 | x :: a,y :: b=>if cmQ x y≠0 then cmQ x y else cmpV a b
 | _,_=>0
def valP (l:List RS) (b:Int):List Rat:=(proL l b).map rvT
def bst (f:Int→List Rat):List Bool→Int→Int→Int
 | [],_,best=>best
 | a :: r,i,best=>bst f r (i+1) (if a=true∧(best<0∨cmpV (f i) (f best)<0) then i else best)
theorem proL_VT {l:List RS} {b:Int} (h:∀ x∈colL l b,VT x):∀ x∈proL l b,VT x:=fun x hx=>by
 unfold proL at hx
 have:=(srtD_perm _).mem_iff.1 hx
 obtain ⟨y,hy,rfl⟩:=List.mem_map.1 this
 exact (h y hy).cl
end Go.Ab
namespace Go.Ab
open Go.Proofs
structure BSP (c:List RT) (T:List Bool) (i best:Int):Prop where
 h:(best = -1∧∀ j:Int,0≤j→j<i→gtR .bool T j=true) ∨
  (0≤best∧best<i∧gtR .bool T best=false∧∀ j:Int,0≤j→j<i→gtR .bool T j=false→rvT (gtR tR c j)≤rvT (gtR tR c best))
def bstE (l:List RS) (A:List Bool):Int:=if mchk l≠0 then mchk l else if A.length≠(row0 l).length then 16 else if bst (valP l) A 0 (-1)<0 then 9 else 0
def bstN (l:List RS) (A:List Bool):Int:=if bstE l A=0 then bst (valP l) A 0 (-1) else 0
end Go.Ab
namespace Go.Ab
open Go.Proofs
abbrev tA:Ty:=.pair tB (.pair tI tI)
abbrev AT:=tA.den
def chkA (x:AT):Int:=if (x.1:Int)≠1∧(x.1:Int)≠2 then 6 else if (x.2.1:Int)>x.2.2∨(x.2.1:Int) < -100∨(x.2.2:Int)>100 then 1 else 0
def feA:List AT→Int
 | []=>0
 | x :: l=>if chkA x≠0 then chkA x else feA l
def advE (l:List AT):Int:=if l.length=0 then 3 else if l.length>6 then 4 else feA (l.drop 1)
def mniF:Int→List Int→Int
 | m,[]=>m
 | m,x :: l=>mniF (min m x) l
def mxiF:Int→List Int→Int
 | m,[]=>m
 | m,x :: l=>mxiF (max m x) l
def mniL (l:List Int):Int:=mniF (gtR tI l 0) (l.drop 1)
def mxiL (l:List Int):Int:=mxiF (gtR tI l 0) (l.drop 1)
def bndS (l:List AT) (b:Int):Int:=if b=0 then 0 else (gtR tA l b).1
structure IXP (l:List AT) (b:Int):Prop where
 a:0≤b
 b:b=0∨b<l.length
structure MNK (l:List Int):Prop where
 ne:l≠[]
 s:l.length≤2000
def ownA (l:List AT) (b:Int):Int×Int:=if b=0 then (-100,100) else (gtR tA l b).2
theorem chkA_nz (a b c w:Int):(if chkA (a,b,c)≠0 then chkA (a,b,c) else w)=if a≠1∧a≠2 then 6 else if b>c∨b < -100∨c>100 then 1 else w:=by
 have hc:chkA (a,b,c)=if a≠1∧a≠2 then 6 else if b>c∨b < -100∨c>100 then 1 else 0:=rfl
 rw[hc]
 by_cases h1:a≠1∧a≠2
 ·simp only[if_pos h1];rfl
 ·simp only[if_neg h1]
  by_cases h2:b>c∨b < -100∨c>100
  ·simp only[if_pos h2];rfl
  ·simp only[if_neg h2];rfl
theorem cAdv (nl:Option Bool) (l:List AT):PurS Tryz.prog 30 [injT (.sl tA) (nl,l)] (.p (iv (advE l))):=by
 refine PurS.of (S:=[]) (T:=[]) (U:=[]) (tbl:=[]) (n:=46) hm31 cfg .nil .nil .nil .nil 0 Tryz.call30 Tryz.func30 (ac30_ok (some (0,0))) (by rw[Tryz.ntmps30];exact Nat.le_refl _) rfl ⟨_,rfl⟩ ?_
 intro cmp ar cv tn ic ai mx an ad ml sb mn ln em gt up ap sc vw cp rp p1 p2 s1 s2 X Y hX hY r0 r1 r2 r3 r4 r5 r6 r7 r8 r9 r10 r11 r12 r13 r14 r15 r16 r17 r18 r19 r20 r21 r22 r23 r24
 generalize hg0:advE=g0
 cbv
 have hll:ic (ln tA l)=l.length:=by rw[r4,r12]
 obtain ⟨r,hr⟩:∃ r,r=sc tA l 1 (ic (ln tA l)):=⟨_,rfl⟩
 have hr':r=l.drop 1:=by rw[hr,r17,hll];show (l.take (l.length:Int).toNat).drop 1=_;rw[List.take_of_length_le (by omega)]
 obtain ⟨N,hN⟩:∃ N:Int,N=r.length:=⟨_,rfl⟩
 have hrl:ic (ln tA r)=N:=by rw[r4,r12,hN]
 have hNl:0<l.length→N=l.length - 1:=fun h=>by rw[hN,hr',List.length_drop];omega
 have e0:g0 l=if l.length=0 then 3 else if l.length>6 then 4 else feA r:=by rw[←hg0,hr'];rfl
 obtain ⟨z,hz⟩:∃ z,z=feA r:=⟨_,rfl⟩
 rw[←hz]at e0
 rw[←hr,hrl,hll]
 refine BR.eql r0 (fun h1=>?_) (fun h1=>BR.gtr r0 (fun h2=>?_) (fun h2=>⟨⟨by omega,by omega,by omega⟩,?_⟩))
 ·rw[if_pos (by omega)]at e0;exact e0.symm
 ·rw[if_neg (by omega),if_pos (by omega)]at e0;exact e0.symm
 rw[if_neg (by omega),if_neg (by omega)]at e0
 have hNN:=hNl (by omega)
 rw[e0]
 refine LOOP.ind (σ:=Int) (fun i=>[(14,.tl nl tA r),(15,.p (iv N)),(16,.p (iv i))]) (fun _=>⟨[],[]⟩) (fun i=>(N - i).toNat) (fun i=>0≤i∧i≤N∧feA (r.drop i.toNat)=z) 0 ⟨by omega,by omega,hz.symm⟩ (.inl ⟨rfl,rfl⟩) ?_
 intro i ⟨i0,i1,i2⟩ X' hX
 obtain ⟨x,hx⟩:∃ x:AT,x=gt tA r i:=⟨_,rfl⟩
 have hst:i<N→feA (r.drop i.toNat)=if chkA x≠0 then chkA x else feA (r.drop (i+1).toNat):=fun h=>by
  rw[gtR_drop (t:=tA) i0 (by omega),show gtR tA r i=x by rw[hx,r14]];rfl
 have hse:¬ i<N→feA (r.drop i.toNat)=0:=fun h=>by rw[gtR_end (by omega)];rfl
 have hi1:i<N→ar .add .i64 i 1=i+1:=fun h=>by rw[r1];exact wrap64 (n:=i+1) (by omega) (by omega)
 obtain ⟨a,b,c⟩:=x
 change Int at a b c
 obtain ⟨w,hw⟩:∃ w,w=feA (r.drop (i+1).toNat):=⟨_,rfl⟩
 rw[←hw,chkA_nz]at hst
 have hnx:∀ B,i<N→w=z→NEXT X' [(14,.tl nl tA r),(15,.p (iv N)),(16,.p (iv (i+1)))] ⟨[B],[]⟩:=fun B h h2=>NEXT.mk (hX (i+1) _ _ ⟨by omega,by omega,by rw[←hw];exact h2⟩ (by show (N - (i+1)).toNat<(N - i).toNat;omega) (.inr ⟨[],[],by rw[SIM_iff];cbv;simp[nlLe_self]⟩))
 rw[i2]at hst hse
 clear i2 hw hz hX
 cbv
 try simp only[nc_eq]at *
 rw[hrl,←hx]
 simp only[r21,r22]
 refine BR.lss r0 (fun h1=>?_) (fun h1=>(hse h1).symm)
 have hI:INB i N:=⟨i0,h1⟩
 have hst:=hst h1
 rw[hi1 h1]
 have fin:∀ st,(w=z→NEXT X' [(14,.tl nl tA r),(15,.p (iv N)),(16,.p (iv (i+1)))] st)→(a=1∨a=2)→BR (cmp .gtr b c) (1=z) (BR (cmp .lss b (-100)) (1=z) (BR (cmp .gtr c 100) (1=z) (NEXT X' [(14,.tl nl tA r),(15,.p (iv N)),(16,.p (iv (i+1)))] st))):=fun st hn ha=>by
  rw[if_neg (show ¬ (¬ a=1∧¬ a=2) by omega)]at hst
  refine BR.gtr r0 (fun h3=>?_) (fun h3=>BR.lss r0 (fun h4=>?_) (fun h4=>BR.gtr r0 (fun h5=>?_) (fun h5=>hn ?_)))
  ·rw[if_pos (by omega)]at hst;exact hst.symm
  ·rw[if_pos (by omega)]at hst;exact hst.symm
  ·rw[if_pos (by omega)]at hst;exact hst.symm
  ·rw[if_neg (by omega)]at hst;exact hst.symm
 refine ⟨hI,hI,BR.neq r0 (fun h2=>BR.neq r0 (fun h3=>?_) (fun h3=>fin _ (hnx _ h1) (by omega))) (fun h2=>fin _ (hnx _ h1) (by omega))⟩
 rw[if_pos (by omega)]at hst;exact hst.symm
theorem cMin (nl:Option Bool) (l:List Int) (h:MNK l):PurS Tryz.prog 48 [injT (.sl tI) (nl,l)] (.p (iv (mniL l))):=by
 refine PurS.of (S:=[]) (T:=[]) (U:=[]) (tbl:=[]) (n:=25) hm31 cfg .nil .nil .nil .nil 0 Tryz.call48 Tryz.func48 (ac48_ok (some (0,0))) (by rw[Tryz.ntmps48];exact Nat.le_refl _) rfl ⟨_,rfl⟩ ?_
 intro cmp ar cv tn ic ai mx an ad ml sb mn ln em gt up ap sc vw cp rp p1 p2 s1 s2 X Y hX hY r0 r1 r2 r3 r4 r5 r6 r7 r8 r9 r10 r11 r12 r13 r14 r15 r16 r17 r18 r19 r20 r21 r22 r23 r24
 generalize hg0:mniL=g0
 cbv
 have hs:=h.s
 have h0:=h.ne
 have hp:=List.length_pos_iff.2 h0
 have hll:ic (ln tI l)=l.length:=by rw[r4,r12]
 obtain ⟨N,hN⟩:∃ N:Int,N=l.length:=⟨_,rfl⟩
 rw[←hN]at hll
 have e0:g0 l=mniF (gtR tI l 0) (l.drop 1):=by rw[←hg0];rfl
 rw[hll]
 have hI0:INB 0 N:=⟨Int.le_refl _,by omega⟩
 refine BR.lss r0 (fun h=>absurd h (by omega)) (fun _=>⟨hI0,hI0,?_⟩)
 refine LOOP.ind (σ:=Int×Int) (fun (m,i)=>[(0,.tl nl tI l),(3,.p (iv m)),(4,.p (iv i))]) (fun _=>⟨[],[]⟩) (fun (_,i)=>(N - i).toNat) (fun (m,i)=>1≤i∧i≤N∧mniF m (l.drop i.toNat)=g0 l) (gt tI l 0,1) ⟨by omega,by omega,by rw[e0,r14];rfl⟩ (.inl ⟨rfl,rfl⟩) ?_
 intro ⟨m,i⟩ ⟨i0,i1,i2⟩ X' hX
 change Int at m
 obtain ⟨x,hx⟩:∃ x:Int,x=gt tI l i:=⟨_,rfl⟩
 have hst:i<N→mniF m (l.drop i.toNat)=mniF (min m x) (l.drop (i+1).toNat):=fun h=>by rw[gtR_drop (t:=tI) (by omega) (by omega),hx,r14];rfl
 have hse:¬ i<N→mniF m (l.drop i.toNat)=m:=fun h=>by rw[gtR_end (by omega)];rfl
 have hi1:i<N→ar .add .i64 i 1=i+1:=fun h=>by rw[r1];exact wrap64 (n:=i+1) (by omega) (by omega)
 rw[i2]at hst hse
 have hmx:mx false m x=min m x:=by rw[r6];unfold mxR;simp only[Bool.false_eq_true,if_false,if_true];omega
 cbv
 try simp only[nc_eq]at *
 rw[hll,←hx]
 refine BR.lss r0 (fun h1=>?_) (fun h1=>(hse h1).symm)
 have hI:INB i N:=⟨by omega,h1⟩
 rw[hi1 h1]
 try rw[hmx]
 exact ⟨hI,hI,NEXT.mk (hX (min m x,i+1) _ _ ⟨by omega,by omega,(hst h1).symm⟩ (by show (N - (i+1)).toNat<(N - i).toNat;omega) (.inl ⟨rfl,rfl⟩))⟩
theorem cMax (nl:Option Bool) (l:List Int) (h:MNK l):PurS Tryz.prog 49 [injT (.sl tI) (nl,l)] (.p (iv (mxiL l))):=by
 refine PurS.of (S:=[]) (T:=[]) (U:=[]) (tbl:=[]) (n:=25) hm31 cfg .nil .nil .nil .nil 0 Tryz.call49 Tryz.func49 (ac49_ok (some (0,0))) (by rw[Tryz.ntmps49];exact Nat.le_refl _) rfl ⟨_,rfl⟩ ?_
 intro cmp ar cv tn ic ai mx an ad ml sb mn ln em gt up ap sc vw cp rp p1 p2 s1 s2 X Y hX hY r0 r1 r2 r3 r4 r5 r6 r7 r8 r9 r10 r11 r12 r13 r14 r15 r16 r17 r18 r19 r20 r21 r22 r23 r24
 generalize hg0:mxiL=g0
 cbv
 have hs:=h.s
 have h0:=h.ne
 have hp:=List.length_pos_iff.2 h0
 have hll:ic (ln tI l)=l.length:=by rw[r4,r12]
 obtain ⟨N,hN⟩:∃ N:Int,N=l.length:=⟨_,rfl⟩
 rw[←hN]at hll
 have e0:g0 l=mxiF (gtR tI l 0) (l.drop 1):=by rw[←hg0];rfl
 rw[hll]
 have hI0:INB 0 N:=⟨Int.le_refl _,by omega⟩
 refine BR.lss r0 (fun h=>absurd h (by omega)) (fun _=>⟨hI0,hI0,?_⟩)
 refine LOOP.ind (σ:=Int×Int) (fun (m,i)=>[(0,.tl nl tI l),(3,.p (iv m)),(4,.p (iv i))]) (fun _=>⟨[],[]⟩) (fun (_,i)=>(N - i).toNat) (fun (m,i)=>1≤i∧i≤N∧mxiF m (l.drop i.toNat)=g0 l) (gt tI l 0,1) ⟨by omega,by omega,by rw[e0,r14];rfl⟩ (.inl ⟨rfl,rfl⟩) ?_
 intro ⟨m,i⟩ ⟨i0,i1,i2⟩ X' hX
 change Int at m
 obtain ⟨x,hx⟩:∃ x:Int,x=gt tI l i:=⟨_,rfl⟩
 have hst:i<N→mxiF m (l.drop i.toNat)=mxiF (max m x) (l.drop (i+1).toNat):=fun h=>by rw[gtR_drop (t:=tI) (by omega) (by omega),hx,r14];rfl
 have hse:¬ i<N→mxiF m (l.drop i.toNat)=m:=fun h=>by rw[gtR_end (by omega)];rfl
 have hi1:i<N→ar .add .i64 i 1=i+1:=fun h=>by rw[r1];exact wrap64 (n:=i+1) (by omega) (by omega)
 rw[i2]at hst hse
 have hmx:mx true m x=max m x:=by rw[r6];unfold mxR;simp only[Bool.false_eq_true,if_false,if_true];omega
 cbv
 try simp only[nc_eq]at *
 rw[hll,←hx]
 refine BR.lss r0 (fun h1=>?_) (fun h1=>(hse h1).symm)
 have hI:INB i N:=⟨by omega,h1⟩
 rw[hi1 h1]
 try rw[hmx]
 exact ⟨hI,hI,NEXT.mk (hX (max m x,i+1) _ _ ⟨by omega,by omega,(hst h1).symm⟩ (by show (N - (i+1)).toNat<(N - i).toNat;omega) (.inl ⟨rfl,rfl⟩))⟩
theorem cBnds (nl:Option Bool) (l:List AT) (b:Int) (h:IXP l b):PurS Tryz.prog 50 [injT (.sl tA) (nl,l),injT tI b] (.agg [.p (.v (.int .u8 (bndS l b))),.p (iv (ownA l b).1),.p (iv (ownA l b).2)]):=by
 refine PurS.of (S:=[]) (T:=[]) (U:=[]) (tbl:=[]) (n:=12) hm31 cfg .nil .nil .nil .nil 0 Tryz.call50 Tryz.func50 (ac50_ok (some (0,0))) (by rw[Tryz.ntmps50];exact Nat.le_refl _) rfl ⟨_,rfl⟩ ?_
 intro cmp ar cv tn ic ai mx an ad ml sb mn ln em gt up ap sc vw cp rp p1 p2 s1 s2 X Y hX hY r0 r1 r2 r3 r4 r5 r6 r7 r8 r9 r10 r11 r12 r13 r14 r15 r16 r17 r18 r19 r20 r21 r22 r23 r24
 generalize hg0:bndS=g0
 generalize hg1:ownA=g1
 cbv
 have hll:ic (ln tA l)=l.length:=by rw[r4,r12]
 obtain ⟨x,hx⟩:∃ x:AT,x=gt tA l b:=⟨_,rfl⟩
 have e0:g0 l b=if b=0 then 0 else x.1:=by rw[←hg0,hx,r14];rfl
 have e1:g1 l b=if b=0 then (-100,100) else x.2:=by rw[←hg1,hx,r14];rfl
 rw[hll,←hx]
 simp only[r21,r22]
 refine BR.eql r0 (fun h1=>?_) (fun h1=>?_)
 ·rw[e0,e1,if_pos h1,if_pos h1];exact ⟨rfl,rfl,rfl,trivial⟩
 ·rw[e0,e1,if_neg h1,if_neg h1]
  have:=h.a;have:=h.b
  have hI:INB b l.length:=⟨by omega,by omega⟩
  exact ⟨hI,hI,rfl,rfl,rfl,trivial⟩
end Go.Ab
namespace Go.Ab
open Go.Proofs
structure LSP (a b:List RT):Prop where
 n:a.length≤2000
 e:b.length=a.length
 va:∀ x∈a,VT x
 vb:∀ x∈b,VT x
end Go.Ab
namespace Go.Ab
open Go.Proofs
end Go.Ab
