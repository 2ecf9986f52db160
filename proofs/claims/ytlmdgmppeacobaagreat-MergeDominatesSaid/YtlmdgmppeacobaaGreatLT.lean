/- The chapter's examples. -/
import Derived.Test.YtlmdgmppeacobaaGreatLO
set_option linter.unusedSimpArgs false
set_option linter.unusedVariables false
set_option maxRecDepth 20000
set_option maxHeartbeats 4000000
namespace Go.Ab
open Go.Proofs
theorem I64.ab {n:Int} (h:I64 n):n.natAbs<4294967296 ^ 128:=by
 have h1:=h.lo;have h2:=h.hi
 have:(18446744073709551616:Nat)≤4294967296 ^ 128:=by
  rw[show (18446744073709551616:Nat)=4294967296 ^ 2 by decide];exact Nat.pow_le_pow_right (by decide) (by decide)
 omega
theorem VT.int {n:Int} (h:I64 n):VT (intT n):=
 ⟨⟨CN_lm _,.nil,(lm_len _ _).2 h.ab,Nat.zero_le _,(fun h1=>by cases h1),fun h0=>by
  have h0:lm n.natAbs=[]:=h0
  have:n.natAbs=0:=lm_eq_nil.1 h0
  have hn:n=0:=by omega
  subst hn;exact ⟨rfl,rfl⟩,fun h0=>absurd rfl h0⟩⟩
theorem rvT_int (n:Int):rvT (intT n)=(n:Rat):=by
 show rnum (decide (n<0)) (vl (lm n.natAbs)) (dn [])=_
 rw[vl_lm]
 have e:(if decide (n<0)=true then -(n.natAbs:Int) else n.natAbs)=n:=by
  by_cases h:n<0 <;> simp[h] <;> omega
 unfold rnum
 rw[e]
 exact Rat.mkRat_one n
theorem intT_canon {n:Int} (h:I64 n):canon (n:Rat)=intT n:=by
 have:=(VT.int h).back
 rw[rvT_int]at this
 exact this
theorem add_int {a b:Int} (ha:I64 a) (hb:I64 b) (hc:I64 (a+b)):addE (intT a) (intT b)=0∧addT (intT a) (intT b)=intT (a+b):=by
 have e:rvT (intT a)+rvT (intT b)=((a+b:Int):Rat):=by rw[rvT_int,rvT_int,Rat.intCast_add]
 have h1:addE (intT a) (intT b)=0:=by
  rw[addE_eq (.int ha) (.int hb),e]
  have:=(VT.int hc).small
  rw[rvT_int]at this
  exact if_neg (by omega)
 exact ⟨h1,by rw[addT_eq h1,e,intT_canon hc]⟩
theorem mx_int {a b:Int} (ha:I64 a) (hb:I64 b):mxT (intT a) [intT b]=intT (max a b):=by
 have hc:=(VT.int ha).cm (.int hb)
 have hr:cmR (intT a).1 (intT a).2.1.2 (intT a).2.2.2 (intT b).1 (intT b).2.1.2 (intT b).2.2.2<0↔a<b:=by
  rw[hc,cmQ_lt,rvT_int,rvT_int,Rat.intCast_lt_intCast]
 unfold mxT mxT grS grN grD
 by_cases h:a<b
 ·rw[if_pos (hr.2 h),if_pos (hr.2 h),if_pos (hr.2 h),show max a b=b by omega];rfl
 ·rw[if_neg (fun h1=>h (hr.1 h1)),if_neg (fun h1=>h (hr.1 h1)),if_neg (fun h1=>h (hr.1 h1)),show max a b=a by omega];rfl
theorem srt_int {a b x y:Int} (ha:I64 a) (hb:I64 b) (h:(x,y)=if b≤a then (a,b) else (b,a)):srtD (cpRs [intT a,intT b])=[intT x,intT y]:=by
 symm
 refine srtD_uniq (fun z hz=>?_) ?_ ?_
 ·simp only[cpRs,List.map_cons,List.map_nil,List.mem_cons,List.not_mem_nil,or_false]at hz
  rcases hz with rfl | rfl
  ·exact ⟨(VT.int ha).cl,rfl⟩
  ·exact ⟨(VT.int hb).cl,rfl⟩
 ·by_cases hc:b≤a
  ·rw[if_pos hc]at h;cases h;exact .refl _
  ·rw[if_neg hc]at h;cases h;exact List.Perm.swap ..
 ·have hxy:y≤x:=by
   by_cases hc:b≤a
   ·rw[if_pos hc]at h;cases h;omega
   ·rw[if_neg hc]at h;cases h;omega
  simp only[List.pairwise_cons,List.mem_cons,List.not_mem_nil,or_false,forall_eq,List.Pairwise.nil,and_true,false_implies,implies_true]
  rw[rvT_int,rvT_int,Rat.intCast_le_intCast];exact hxy
theorem fe_VT:∀ {l:List RT},(∀ x∈l,VT x)→fe l=0
 | [],_=>rfl
 | x :: l,h=>by
  unfold fe
  rw[if_neg (fun h1=>h1 (h x List.mem_cons_self).chk)]
  exact fe_VT fun y hy=>h y (List.mem_cons_of_mem _ hy)
theorem rowL_VT {l:List Int} (h:RWP l):∀ x∈rowL l,VT x:=fun x hx=>by
 obtain ⟨n,hn,rfl⟩:=List.mem_map.1 hx
 exact .int (h.h n hn)
theorem VT.sz {l:List RT} (h:∀ x∈l,VT x):SZ 2000 l:=⟨fun x hx=>by
 have:=(h x hx).k
 exact ⟨this.ca.lb,this.cb.lb,by have:=this.la;omega,by have:=this.lb;omega⟩⟩
theorem cat_mem:∀ {l:List RS} {x:RT},x∈cat l→∃ r∈l,x∈r.2
 | r :: l,x,h=>by
  unfold cat at h
  rcases List.mem_append.1 h with h | h
  ·exact ⟨r,List.mem_cons_self,h⟩
  ·obtain ⟨s,hs,hx⟩:=cat_mem h
   exact ⟨s,List.mem_cons_of_mem _ hs,hx⟩
theorem mchk_of {l:List RS} (h0:0<l.length) (h1:l.length≤8) (h2:0<(row0 l).length) (h3:(row0 l).length≤6) (h4:sameL (row0 l).length l=true) (h5:∀ r∈l,∀ x∈r.2,VT x):mchk l=0:=by
 unfold mchk
 rw[if_neg (by omega),if_neg (by omega),if_neg (by omega),if_neg (by omega),if_pos h4]
 exact fe_VT fun x hx=>by
  obtain ⟨r,hr,hx⟩:=cat_mem hx
  exact h5 r hr x hx
theorem MC.of {l:List RS} (h1:l.length≤2000) (h2:∀ r∈l,r.2.length≤2000) (h5:∀ r∈l,∀ x∈r.2,VT x):MC l:=⟨⟨h1⟩,⟨fun r hr=>⟨h2 r hr,VT.sz (h5 r hr)⟩⟩⟩
def exL:List RS:=[(none,rowL [1,3,2]),(none,rowL [2,0,1])]
theorem rwp3 {a b c:Int} (ha:I64 a) (hb:I64 b) (hc:I64 c):RWP [a,b,c]:=⟨show 3≤2000 by decide,fun x hx=>by
 simp only[List.mem_cons,List.not_mem_nil,or_false]at hx
 rcases hx with rfl | rfl | rfl <;> assumption⟩
theorem i64s (n:Int) (h0 : -1000≤n) (h1:n≤1000):I64 n:=⟨by omega,by omega⟩
theorem ex_VT:∀ r∈exL,∀ x∈r.2,VT x:=fun r hr=>by
 simp only[exL,List.mem_cons,List.not_mem_nil,or_false]at hr
 rcases hr with rfl | rfl
 ·exact rowL_VT (rwp3 (i64s _ (by decide) (by decide)) (i64s _ (by decide) (by decide)) (i64s _ (by decide) (by decide)))
 ·exact rowL_VT (rwp3 (i64s _ (by decide) (by decide)) (i64s _ (by decide) (by decide)) (i64s _ (by decide) (by decide)))
theorem ex_MC:MC exL:=.of (by decide) (fun r hr=>by
 simp only[exL,List.mem_cons,List.not_mem_nil,or_false]at hr
 rcases hr with rfl | rfl <;> exact (by decide:3≤2000)) ex_VT
theorem ex_chk:mchk exL=0:=mchk_of (by decide) (by decide) (by exact (by decide:0<3)) (by exact (by decide:3≤6)) rfl ex_VT
theorem ex_col (n:Int) (a b:Int) (h:colL exL n=[intT a,intT b]):cmF exL n=fldT (intT a) [intT b]∧cmG exL n=fldE (intT a) [intT b]∧mxF exL n=mxT (intT a) [intT b]:=by
 unfold cmF cmG mxF
 rw[h];exact ⟨rfl,rfl,rfl⟩
theorem fld_int {a b:Int} (ha:I64 a) (hb:I64 b) (hc:I64 (a+b)):fldT (intT a) [intT b]=intT (a+b)∧fldE (intT a) [intT b]=0:=by
 obtain ⟨h1,h2⟩:=add_int ha hb hc
 unfold fldT fldE fldT fldE
 rw[if_neg (fun h=>h h1),if_neg (fun h=>h h1)];exact ⟨h2,rfl⟩
theorem ex_0:colL exL 0=[intT 1,intT 2]:=rfl
theorem ex_1:colL exL 1=[intT 3,intT 0]:=rfl
theorem ex_2:colL exL 2=[intT 2,intT 1]:=rfl
theorem ex_r0:(row0 exL).length=3:=rfl
theorem s64 {n:Int} (h : -1000≤n∧n≤1000:=by decide):I64 n:=i64s n h.1 h.2
theorem ex_sum:sumE exL=0∧sumL exL=rowL [3,3,3]:=by
 obtain ⟨a0,b0,_⟩:=ex_col 0 1 2 ex_0
 obtain ⟨a1,b1,_⟩:=ex_col 1 3 0 ex_1
 obtain ⟨a2,b2,_⟩:=ex_col 2 2 1 ex_2
 obtain ⟨f0,g0⟩:=fld_int (a:=1) (b:=2) s64 s64 s64
 obtain ⟨f1,g1⟩:=fld_int (a:=3) (b:=0) s64 s64 s64
 obtain ⟨f2,g2⟩:=fld_int (a:=2) (b:=1) s64 s64 s64
 rw[f0]at a0;rw[f1]at a1;rw[f2]at a2
 rw[g0]at b0;rw[g1]at b1;rw[g2]at b2
 obtain ⟨h1,h2⟩:=ex_MC.sum
 have hE:rsumE exL=0:=by
  unfold rsumE
  rw[if_neg (fun h=>h ex_chk),ex_r0]
  show (if cmG exL 0≠0 then _ else if cmG exL 1≠0 then _ else if cmG exL 2≠0 then _ else (0:Int))=0
  rw[b0,b1,b2];rfl
 refine ⟨by rw[h1,hE],?_⟩
 have hL:rsumL exL=[cmF exL 0,cmF exL 1,cmF exL 2]:=by
  unfold rsumL
  rw[if_pos hE,ex_r0];rfl
 rw[h2,hL,a0,a1,a2];rfl
theorem ex_wor:worE exL=0∧worL exL=rowL [2,3,2]:=by
 obtain ⟨_,_,a0⟩:=ex_col 0 1 2 ex_0
 obtain ⟨_,_,a1⟩:=ex_col 1 3 0 ex_1
 obtain ⟨_,_,a2⟩:=ex_col 2 2 1 ex_2
 rw[mx_int s64 s64]at a0 a1 a2
 obtain ⟨h1,h2⟩:=ex_MC.wor
 refine ⟨by rw[h1,ex_chk],?_⟩
 have hL:worL exL=[clR (mxF exL 0),clR (mxF exL 1),clR (mxF exL 2)]:=by
  rw[h2,if_pos ex_chk,ex_r0];rfl
 rw[hL,a0,a1,a2];rfl
theorem ex_val:valP exL 0=[2,1]∧valP exL 1=[3,0]∧valP exL 2=[2,1]:=by
 unfold valP proL
 rw[ex_0,ex_1,ex_2,srt_int (x:=2) (y:=1) s64 s64 rfl,srt_int (x:=3) (y:=0) s64 s64 rfl,srt_int (x:=2) (y:=1) s64 s64 rfl]
 simp only[List.map_cons,List.map_nil,rvT_int]
 decide +kernel
theorem ex_bst:bst (valP exL) [true,true,true] 0 (-1)=0∧bst (valP exL) [false,true,true] 0 (-1)=2:=by
 obtain ⟨v0,v1,v2⟩:=ex_val
 have c1:¬ cmpV (valP exL 1) (valP exL 0)<0:=by rw[v0,v1];decide +kernel
 have c2:¬ cmpV (valP exL 2) (valP exL 0)<0:=by rw[v0,v2];decide +kernel
 have c3:cmpV (valP exL 2) (valP exL 1)<0:=by rw[v1,v2];decide +kernel
 constructor
 ·show bst _ [true,true,true] 0 (-1)=0
  simp only[bst]
  simp[c1,c2]
 ·simp only[bst]
  simp[c3]
theorem ex_best:bstE exL [true,true,true]=0∧bstN exL [true,true,true]=0∧bstE exL [false,true,true]=0∧bstN exL [false,true,true]=2:=by
 obtain ⟨h1,h2⟩:=ex_bst
 have e1:bstE exL [true,true,true]=0:=by
  unfold bstE
  rw[if_neg (fun h=>h ex_chk),ex_r0,if_neg (by decide),h1,if_neg (by decide)]
 have e2:bstE exL [false,true,true]=0:=by
  unfold bstE
  rw[if_neg (fun h=>h ex_chk),ex_r0,if_neg (by decide),h2,if_neg (by decide)]
 refine ⟨e1,?_,e2,?_⟩
 ·unfold bstN;rw[if_pos e1,h1]
 ·unfold bstN;rw[if_pos e2,h2]
def exA:List AT:=[(0,0,0),(1,10,100),(1,30,60),(2,-100,-10),(2,-5,20)]
theorem ex_bnd:bndE exA [1,2]=0∧bndLo exA [1,2]=30∧bndHi exA [1,2]=60∧joinN exA [1,2]=2∧bndE exA [1,3]=0∧bndLo exA [1,3]=10∧bndHi exA [1,3] = -10∧joinN exA [1,3]=4:=by decide +kernel
structure EQP (l:List RT):Prop where
 a:Short 2000 l
 b:SZ 2000 l
theorem cEqRs2 (nl:Option Bool) (l:List RT) (nm:Option Bool) (m:List RT) (h:EQP l):PurS Tryz.prog 20 [injT (.sl tR) (nl,l),injT (.sl tR) (nm,m)] (.sb (eqRs l m)):=cEqRs nl l nm m h.a h.b
theorem cAwake  : PurS Tryz.prog 11 [] (.sb true):=by
 refine PurS.of (S:=[(29,_),(17,_),(18,_),(19,_),(24,_),(26,_),(34,_),(20,_)]) (T:=[]) (U:=[]) (tbl:=[]) (n:=147) hm31 cfg (.cons (spT1.ok (a:=(.sl (.int .i64))) fun x0 h=>cRow x0.1 x0.2 h) (.cons (spT1.ok (a:=(.sl (.sl (.pair .bool (.pair (.sl (.int .u32)) (.sl (.int .u32))))))) fun x0 h=>cMSum x0.1 x0.2 h) (.cons (spT1.ok (a:=(.sl (.sl (.pair .bool (.pair (.sl (.int .u32)) (.sl (.int .u32))))))) fun x0 h=>cMWorst x0.1 x0.2 h) (.cons (spT2.ok (a:=(.sl (.sl (.pair .bool (.pair (.sl (.int .u32)) (.sl (.int .u32))))))) (b:=(.sl .bool)) fun x0 x1 h=>cMBest x0.1 x0.2 x1.1 x1.2 h) (.cons (spT2.ok (a:=(.sl (.pair (.int .u8) (.pair (.int .i64) (.int .i64))))) (b:=(.sl (.int .i64))) (pre:=fun _ _=>True) fun x0 x1 _=>cBound x0.1 x0.2 x1.1 x1.2) (.cons (spT2.ok (a:=(.sl (.pair (.int .u8) (.pair (.int .i64) (.int .i64))))) (b:=(.sl (.int .i64))) (pre:=fun _ _=>True) fun x0 x1 _=>cJoin x0.1 x0.2 x1.1 x1.2) (.cons (spT0.ok cFive) (.cons (spT2.ok (a:=(.sl (.pair .bool (.pair (.sl (.int .u32)) (.sl (.int .u32)))))) (b:=(.sl (.pair .bool (.pair (.sl (.int .u32)) (.sl (.int .u32)))))) fun x0 x1 h=>cEqRs2 x0.1 x0.2 x1.1 x1.2 h) .nil)))))))) .nil .nil .nil 0 Tryz.call11 Tryz.func11 (ac11_ok (some (0,0))) (by rw[Tryz.ntmps11];exact Nat.le_refl _) rfl ⟨_,rfl⟩ ?_
 intro cmp ar cv tn ic ai mx an ad ml sb mn ln em gt up ap sc vw cp rp p1 p2 s1 s2 X Y hX hY r0 r1 r2 r3 r4 r5 r6 r7 r8 r9 r10 r11 r12 r13 r14 r15 r16 r17 r18 r19 r20 r21 r22 r23 r24
 generalize hg0:rowL=g0
 generalize hg1:sumL=g1
 generalize hg2:sumE=g2
 generalize hg3:worL=g3
 generalize hg4:worE=g4
 generalize hg5:bstN=g5
 generalize hg6:bstE=g6
 generalize hg7:bndLo=g7
 generalize hg8:bndHi=g8
 generalize hg9:bndE=g9
 generalize hg10:joinN=g10
 generalize hg11:eqRs=g11
 cbv
 obtain ⟨L,hL⟩:∃ L:List RS,L=[(none,g0 [1,3,2]),(none,g0 [2,0,1])]:=⟨_,rfl⟩
 obtain ⟨A,hA⟩:∃ A:List AT,A=[(0,0,0),(1,10,100),(1,30,60),(2,-100,-10),(2,-5,20)]:=⟨_,rfl⟩
 have hLe:L=exL:=by rw[hL,←hg0];rfl
 have hAe:A=exA:=by rw[hA];rfl
 dsimp only
 rw[←hL,←hA]
 have w1:RWP [1,3,2]:=rwp3 s64 s64 s64
 have w2:RWP [2,0,1]:=rwp3 s64 s64 s64
 have w3:RWP [3,3,3]:=rwp3 s64 s64 s64
 have w4:RWP [2,3,2]:=rwp3 s64 s64 s64
 have kM:MC L:=by rw[hLe];exact ex_MC
 have k2:g2 L=0:=by rw[hLe,←hg2];exact ex_sum.1
 have k1:g1 L=g0 [3,3,3]:=by rw[hLe,←hg1,←hg0];exact ex_sum.2
 have k4:g4 L=0:=by rw[hLe,←hg4];exact ex_wor.1
 have k3:g3 L=g0 [2,3,2]:=by rw[hLe,←hg3,←hg0];exact ex_wor.2
 have q1:EQP (g0 [3,3,3]):=by rw[←hg0];exact ⟨⟨show 3≤2000 by decide⟩,VT.sz (rowL_VT w3)⟩
 have q2:EQP (g0 [2,3,2]):=by rw[←hg0];exact ⟨⟨show 3≤2000 by decide⟩,VT.sz (rowL_VT w4)⟩
 have t1:∀ l,g11 l l=true:=fun l=>by rw[←hg11];exact decide_eq_true rfl
 obtain ⟨b1,b2,b3,b4⟩:=ex_best
 rw[←hLe]at b1 b2 b3 b4
 rw[hg6]at b1 b3
 rw[hg5]at b2 b4
 obtain ⟨c1,c2,c3,c4,c5,c6,c7,c8⟩:=ex_bnd
 rw[←hAe]at c1 c2 c3 c4 c5 c6 c7 c8
 rw[hg9]at c1 c5
 rw[hg7]at c2 c6
 rw[hg8]at c3 c7
 rw[hg10]at c4 c8
 rw[k1,k3,t1,t1,BR_true,BR_true,k2,k4,b1,b2,b3,b4,c1,c2,c3,c4,c5,c6,c7,c8]
 have z:∀ {x:Int} {A B:Prop},A→BR (cmp .eql x x) A B:=fun h=>BR.eql r0 (fun _=>h) (fun h=>absurd rfl h)
 exact ⟨w1,w2,kM,kM,kM,kM,z ⟨w3,q1,z ⟨w4,q2,z (z (z (z (z (z (z (z (z (z (z (z (z (z trivial)))))))))))))⟩⟩⟩
end Go.Ab
namespace Go.Ab
open Go.Proofs
end Go.Ab
namespace Go.Ab
open Go.Proofs
theorem cmpV_self:∀ a:List Rat,cmpV a a=0
 | []=>rfl
 | x :: a=>by rw[cmpV,if_neg (fun h=>h (cmQ_zero.2 rfl))];exact cmpV_self a
theorem cmpV_cons {x y:Rat} {a b:List Rat}:cmpV (x :: a) (y :: b)<0↔x<y∨(x=y∧cmpV a b<0):=by
 rw[cmpV]
 by_cases h:cmQ x y≠0
 ·rw[if_pos h,cmQ_lt]
  constructor
  ·exact .inl
  ·rintro (h1 | ⟨h1,_⟩)
   ·exact h1
   ·exact absurd (cmQ_zero.2 h1) h
 ·rw[if_neg h]
  have h:=cmQ_zero.1 (Classical.not_not.1 h)
  constructor
  ·exact fun h1=>.inr ⟨h,h1⟩
  ·rintro (h1 | ⟨_,h1⟩)
   ·rw[h]at h1;exact absurd h1 Rat.lt_irrefl
   ·exact h1
theorem cmpV_trans:∀ {a b c:List Rat},a.length=b.length→b.length=c.length→cmpV a b<0→cmpV b c<0→cmpV a c<0
 | [],[],c,_,_,h,_=>absurd h (by cases c <;> decide)
 | x :: a,y :: b,z :: c,h1,h2,h3,h4=>by
  rw[cmpV_cons]at *
  rcases h3 with h3 | ⟨h3,h5⟩
  ·rcases h4 with h4 | ⟨h4,_⟩
   ·exact .inl (by grind)
   ·exact .inl (by rw[←h4];exact h3)
  ·rcases h4 with h4 | ⟨h4,h6⟩
   ·exact .inl (by rw[h3];exact h4)
   ·exact .inr ⟨h3.trans h4,cmpV_trans (by simpa using h1) (by simpa using h2) h5 h6⟩
 | x :: a,y :: b,[],_,h2,_,_=>by simp at h2
theorem cmpV_total:∀ {a b:List Rat},a.length=b.length→¬ cmpV a b<0→¬ cmpV b a<0→a=b
 | [],[],_,_,_=>rfl
 | x :: a,y :: b,h,h1,h2=>by
  rw[cmpV_cons]at *
  have e:x=y:=by
   have k1:¬ x<y:=fun h3=>h1 (.inl h3)
   have k2:¬ y<x:=fun h3=>h2 (.inl h3)
   exact Rat.le_antisymm (Rat.not_lt.1 k2) (Rat.not_lt.1 k1)
  subst e
  rw[cmpV_total (by simpa using h) (fun h3=>h1 (.inr ⟨rfl,h3⟩)) (fun h3=>h2 (.inr ⟨rfl,h3⟩))]
theorem cmpV_asymm {a b:List Rat} (h:a.length=b.length) (h1:cmpV a b<0):¬ cmpV b a<0:=fun h2=>by
 have:=cmpV_trans h h.symm h1 h2
 rw[cmpV_self]at this
 exact absurd this (by decide)
theorem cmpV_nl {a b c:List Rat} (h1:a.length=b.length) (h2:b.length=c.length) (h3:cmpV a b<0) (h4:¬ cmpV c b<0):¬ cmpV c a<0:=fun h5=>by
 exact h4 (cmpV_trans (h2.symm.trans h1.symm) h1 h5 h3)
theorem bst_spec {f:Int→List Rat} {k:Nat} (hf:∀ i,(f i).length=k):∀ (A:List Bool) (i best:Int),0≤i→(best = -1∨(0≤best∧best<i)) →
  (bst f A i best=best∨(i≤bst f A i best∧bst f A i best<i+A.length∧A.getD (bst f A i best - i).toNat false=true)) ∧
  (0≤best→¬ cmpV (f best) (f (bst f A i best))<0)∧(0≤best→0≤bst f A i best) ∧
  (∀ j:Int,i≤j→j<i+A.length→A.getD (j - i).toNat false=true→0≤bst f A i best∧¬ cmpV (f j) (f (bst f A i best))<0)
 | [],i,best,i0,hb=>by
  rw[bst]
  refine ⟨.inl rfl,fun _ h=>?_,fun h=>h,fun j h1 h2=>?_⟩
  ·rw[cmpV_self]at h;exact absurd h (by decide)
  ·simp at h2;omega
 | a :: A,i,best,i0,hb=>by
  rw[bst]
  obtain ⟨nb,hnb⟩:∃ nb,nb=(if a=true∧(best<0∨cmpV (f i) (f best)<0) then i else best):=⟨_,rfl⟩
  rw[←hnb]
  have hnb1:nb = -1∨(0≤nb∧nb<i+1):=by
   rw[hnb];split
   ·exact .inr ⟨i0,by omega⟩
   ·rcases hb with hb | hb
    ·exact .inl hb
    ·exact .inr ⟨hb.1,by omega⟩
  obtain ⟨h1,h2,h3,h4⟩:=bst_spec hf A (i+1) nb (by omega) hnb1
  have hl:(i:Int)+((a :: A).length:Nat)=i+1+A.length:=by rw[List.length_cons];omega
  have hsh:∀ j:Int,i+1≤j→(a :: A).getD (j - i).toNat false=A.getD (j - (i+1)).toNat false:=fun j hj=>by
   rw[show (j - i).toNat=(j - (i+1)).toNat+1 by omega];rfl
  have h0:(a :: A).getD (i - i).toNat false=a:=by rw[show (i - i).toNat=0 by omega];rfl
  have hbn:0≤best→0≤nb∧¬ cmpV (f best) (f nb)<0:=fun hb0=>by
   rw[hnb];split
   ·rename_i hc
    refine ⟨i0,?_⟩
    rcases hc.2 with hc | hc
    ·omega
    ·exact cmpV_asymm ((hf _).trans (hf _).symm) hc
   ·exact ⟨hb0,fun h=>by rw[cmpV_self]at h;exact absurd h (by decide)⟩
  have htr:∀ x,0≤nb→¬ cmpV (f x) (f nb)<0→¬ cmpV (f x) (f (bst f A (i+1) nb))<0:=fun x hn hx h=>by
   have k:=h2 hn
   by_cases hc:cmpV (f (bst f A (i+1) nb)) (f nb)<0
   ·exact cmpV_nl ((hf _).trans (hf _).symm) ((hf _).trans (hf _).symm) hc hx h
   ·rw[cmpV_total ((hf _).trans (hf _).symm) hc k]at h;exact hx h
  refine ⟨?_,fun hb0=>?_,fun hb0=>h3 (hbn hb0).1,fun j j0 j1 j2=>?_⟩
  ·rcases h1 with h1 | ⟨h1,h5,h6⟩
   ·rw[h1,hnb]
    split
    ·rename_i hc
     refine .inr ⟨Int.le_refl _,by omega,?_⟩
     rw[h0];exact hc.1
    ·exact .inl rfl
   ·exact .inr ⟨by omega,by omega,by rw[hsh _ h1];exact h6⟩
  ·exact htr best (hbn hb0).1 (hbn hb0).2
  ·by_cases hj:j=i
   ·subst hj
    rw[h0]at j2
    have hn:0≤nb∧¬ cmpV (f j) (f nb)<0:=by
     rw[hnb];split
     ·exact ⟨i0,fun h=>by rw[cmpV_self]at h;exact absurd h (by decide)⟩
     ·rename_i hc
      have hc2:¬ (best<0∨cmpV (f j) (f best)<0):=fun h=>hc ⟨j2,h⟩
      exact ⟨by omega,fun h=>hc2 (.inr h)⟩
    exact ⟨h3 hn.1,htr j hn.1 hn.2⟩
   ·rw[hsh j (by omega)]at j2
    exact h4 j (by omega) (by omega) j2
def insD (x:Rat):List Rat→List Rat
 | []=>[x]
 | y :: s=>if y≤x then x :: y :: s else y :: insD x s
inductive PLE:List Rat→List Rat→Prop
 | nil:PLE [] []
 | cons {x y:Rat} {a b:List Rat}:x≤y→PLE a b→PLE (x :: a) (y :: b)
abbrev DSC (l:List Rat):Prop:=l.Pairwise fun x y=>y≤x
theorem ins_a {y:Rat}:∀ {s t:List Rat} {s0:Rat},DSC (s0 :: s)→s0≤y→PLE s t→PLE (s0 :: s) (insD y t)
 | [],_,s0,_,h,.nil=>.cons h .nil
 | s1 :: s,t1 :: t,s0,hd,h,.cons h1 h2=>by
  rw[insD]
  obtain ⟨d1,d2⟩:=List.pairwise_cons.1 hd
  have h01:s1≤s0:=d1 s1 (by simp)
  split
  ·exact .cons h (.cons h1 h2)
  ·rename_i h3
   exact .cons (by grind) (ins_a d2 (by grind) h2)
theorem ins_b {x:Rat}:∀ {s t:List Rat} {t0:Rat},DSC (t0 :: t)→x≤t0→PLE s t→PLE (insD x s) (t0 :: t)
 | [],_,t0,_,h,.nil=>.cons h .nil
 | s1 :: s,t1 :: t,t0,hd,h,.cons h1 h2=>by
  rw[insD]
  obtain ⟨d1,d2⟩:=List.pairwise_cons.1 hd
  have h01:t1≤t0:=d1 t1 (by simp)
  split
  ·exact .cons h (.cons h1 h2)
  ·rename_i h3
   exact .cons (by grind) (ins_b d2 (by grind) h2)
theorem ins_mono {x y:Rat} (hxy:x≤y):∀ {s t:List Rat},DSC s→DSC t→PLE s t→PLE (insD x s) (insD y t)
 | [],_,_,_,.nil=>.cons hxy .nil
 | s0 :: s,t0 :: t,ds,dt,.cons h0 h=>by
  rw[insD,insD]
  split
  ·rename_i h1
   split
   ·exact .cons hxy (.cons h0 h)
   ·rename_i h2
    exact .cons (by grind) (ins_a ds (by grind) h)
  ·rename_i h1
   split
   ·rename_i h2
    exact .cons (by grind) (ins_b dt (by grind) h)
   ·exact .cons h0 (ins_mono hxy (List.pairwise_cons.1 ds).2 (List.pairwise_cons.1 dt).2 h)
theorem ins_perm (x:Rat):∀ s:List Rat,(insD x s).Perm (x :: s)
 | []=>.refl _
 | y :: s=>by
  rw[insD];split
  ·exact .refl _
  ·exact ((ins_perm x s).cons y).trans (List.Perm.swap ..)
theorem ins_dsc (x:Rat):∀ {s:List Rat},DSC s→DSC (insD x s)
 | [],_=>by rw[insD];exact List.pairwise_singleton ..
 | y :: s,h=>by
  obtain ⟨h1,h2⟩:=List.pairwise_cons.1 h
  rw[insD];split
  ·rename_i h3
   refine List.pairwise_cons.2 ⟨fun z hz=>?_,h⟩
   rcases List.mem_cons.1 hz with rfl | hz
   ·exact h3
   ·exact Rat.le_trans (h1 z hz) h3
  ·rename_i h3
   refine List.pairwise_cons.2 ⟨fun z hz=>?_,ins_dsc x h2⟩
   rcases List.mem_cons.1 ((ins_perm x s).mem_iff.1 hz) with rfl | hz
   ·grind
   ·exact h1 z hz
def isoD:List Rat→List Rat
 | []=>[]
 | x :: l=>insD x (isoD l)
theorem isoD_dsc:∀ l:List Rat,DSC (isoD l)
 | []=>.nil
 | x :: l=>ins_dsc x (isoD_dsc l)
theorem isoD_perm:∀ l:List Rat,(isoD l).Perm l
 | []=>.nil
 | x :: l=>(ins_perm x _).trans ((isoD_perm l).cons x)
theorem isoD_mono:∀ {a b:List Rat},PLE a b→PLE (isoD a) (isoD b)
 | _,_,.nil=>.nil
 | _,_,.cons h h'=>ins_mono h (isoD_dsc _) (isoD_dsc _) (isoD_mono h')
theorem dsc_uniq {a b:List Rat} (h:a.Perm b) (ha:DSC a) (hb:DSC b):a=b:=List.Perm.eq_of_pairwise (le:=fun x y:Rat=>y≤x) (fun x y _ _ h1 h2=>Rat.le_antisymm h2 h1) ha hb h
theorem valP_iso (l:List RS) (b:Int):valP l b=isoD ((colL l b).map rvT):=by
 refine dsc_uniq ?_ ?_ (isoD_dsc _)
 ·refine List.Perm.trans ?_ (isoD_perm _).symm
  unfold valP proL
  refine ((srtD_perm _).map rvT).trans ?_
  unfold cpRs
  rw[List.map_map];exact .refl _
 ·unfold valP proL DSC
  rw[List.pairwise_map];exact srtD_sorted _
theorem sumQ_perm {a b:List Rat} (h:a.Perm b):sumQ a=sumQ b:=by
 induction h with
 | nil=>rfl
 | cons x _ ih=>simp only[sumQ,ih]
 | swap x y l=>simp only[sumQ];grind
 | trans _ _ h1 h2=>exact h1.trans h2
theorem PLE.sum:∀ {a b:List Rat},PLE a b→sumQ a≤sumQ b
 | _,_,.nil=>Rat.le_refl
 | _,_,.cons h h'=>by have:=h'.sum;simp only[sumQ];grind
theorem PLE.less:∀ {a b:List Rat},PLE a b→sumQ a<sumQ b→cmpV a b<0
 | _,_,.nil,h=>absurd h Rat.lt_irrefl
 | _,_,.cons (x:=x) (y:=y) h h',hs=>by
  rw[cmpV_cons]
  by_cases hxy:x=y
  ·subst hxy
   exact .inr ⟨rfl,h'.less (by simp only[sumQ]at hs;grind)⟩
  ·exact .inl (by grind)
theorem dominates {l:List RS} {b n:Int} (h:PLE ((colL l b).map rvT) ((colL l n).map rvT)) (hs:sumQ ((colL l b).map rvT)<sumQ ((colL l n).map rvT)):cmpV (valP l b) (valP l n)<0:=by
 rw[valP_iso,valP_iso]
 refine (isoD_mono h).less ?_
 rw[sumQ_perm (isoD_perm _),sumQ_perm (isoD_perm _)];exact hs
theorem PLE.of:∀ {a b:List RT},a.length=b.length→(∀ j:Int,0≤j→j<a.length→rvT (gtR tR a j)≤rvT (gtR tR b j))→PLE (a.map rvT) (b.map rvT)
 | [],[],_,_=>.nil
 | x :: a,y :: b,h,h1=>by
  refine .cons (h1 0 (Int.le_refl _) (by simp)) (PLE.of (by simpa using h) fun j j0 j1=>?_)
  have:=h1 (j+1) (by omega) (by simp;omega)
  unfold gtR at this ⊢
  rwa [show (j+1).toNat=j.toNat+1 by omega]at this
theorem PLE.lt:∀ {a b:List RT} (j:Int),0≤j→j<a.length→rvT (gtR tR a j)<rvT (gtR tR b j)→PLE (a.map rvT) (b.map rvT)→sumQ (a.map rvT)<sumQ (b.map rvT)
 | [],_,j,h0,h1,_,_=>by simp at h1;omega
 | x :: a,[],j,_,_,_,h=>by cases h
 | x :: a,y :: b,j,h0,h1,h2,.cons h3 h4=>by
  simp only[List.map_cons,sumQ]
  have h5:=h4.sum
  by_cases hj:j=0
  ·subst hj
   have:rvT x<rvT y:=h2
   grind
  ·have h6:=PLE.lt (a:=a) (b:=b) (j - 1) (by omega) (by simp at h1;omega) (by
    unfold gtR at h2 ⊢
    rw[show j.toNat=(j - 1).toNat+1 by omega]at h2
    exact h2) h4
   grind
theorem valP_head {l:List RS} {m:Nat} (h:COST l m) {b:Int} (h0:0≤b) (h1:b<m):∃ r,valP l b=rvT (mxF l b) :: r:=by
 have hv:=h.col h0 h1
 have hh:=h.head h0 h1
 have hl:=rproL_len hv
 obtain ⟨x,r,e⟩:=List.exists_cons_of_ne_nil (l:=rproL l b) (fun e=>by rw[e]at hl;have:=h.n0;simp at hl;omega)
 rw[e]at hh
 have hh:clR x=clR (mxF l b):=hh
 refine ⟨r.map rvT,?_⟩
 rw[←rproL_val hv,e,List.map_cons]
 congr 1
 rw[←rvT_cl,hh,rvT_cl]
theorem valP_len (l:List RS) (b:Int):(valP l b).length=l.length:=by unfold valP;rw[List.length_map,proL_len]
theorem best_ok {l:List RS} {A:List Bool} (h:bstE l A=0):mchk l=0∧A.length=(row0 l).length∧0≤bstN l A∧bstN l A<A.length∧A.getD (bstN l A).toNat false=true ∧
  ∀ j:Int,0≤j→j<A.length→A.getD j.toNat false=true→¬ cmpV (valP l j) (valP l (bstN l A))<0:=by
 have hN:bstN l A=bst (valP l) A 0 (-1):=by unfold bstN;rw[if_pos h]
 rw[hN]
 unfold bstE at h
 by_cases h1:mchk l≠0
 ·rw[if_pos h1]at h;exact absurd h h1
 rw[if_neg h1]at h
 by_cases h2:A.length≠(row0 l).length
 ·rw[if_pos h2]at h;exact absurd h (by decide)
 rw[if_neg h2]at h
 by_cases h3:bst (valP l) A 0 (-1)<0
 ·rw[if_pos h3]at h;exact absurd h (by decide)
 obtain ⟨k1,_,_,k4⟩:=bst_spec (valP_len l) A 0 (-1) (Int.le_refl _) (.inl rfl)
 rcases k1 with k1 | ⟨k1,k2,k3⟩
 ·omega
 ·refine ⟨Classical.not_not.1 h1,Classical.not_not.1 h2,by omega,by omega,by rwa [Int.sub_zero]at k3,fun j j0 j1 j2=>(k4 j j0 (by omega) (by rwa [Int.sub_zero])).2⟩
theorem bigR_iff:∀ {r:List RT},bigR r=false↔∀ x∈r,x.2.1.2.length≤8∧x.2.2.2.length≤8
 | []=>by simp[bigR]
 | x :: r=>by
  rw[bigR,Bool.or_eq_false_iff,decide_eq_false_iff_not,bigR_iff]
  simp only[List.mem_cons,forall_eq_or_imp]
  constructor
  ·rintro ⟨h1,h2⟩;exact ⟨by omega,h2⟩
  ·rintro ⟨h1,h2⟩;exact ⟨by omega,h2⟩
theorem bigRR_iff:∀ {l:List RS},bigRR l=false↔∀ r∈l,r.2.length≤20∧∀ x∈r.2,x.2.1.2.length≤8∧x.2.2.2.length≤8
 | []=>by simp[bigRR]
 | r :: l=>by
  rw[bigRR,Bool.or_eq_false_iff,Bool.or_eq_false_iff,decide_eq_false_iff_not,bigR_iff,bigRR_iff]
  simp only[List.mem_cons,forall_eq_or_imp]
  constructor
  ·rintro ⟨⟨h1,h2⟩,h3⟩;exact ⟨⟨by omega,h1⟩,h3⟩
  ·rintro ⟨⟨h1,h2⟩,h3⟩;exact ⟨⟨h2,by omega⟩,h3⟩
structure ARGR (l:List RS):Prop where
 g:LGP l
 b:∀ r∈l,∀ x∈r.2,LB x.2.1.2∧LB x.2.2.2
theorem ARGR.mc {l:List RS} (h:ARGR l) (hl:longB l=false):MC l∧l.length≤12:=by
 unfold longB at hl
 rw[Bool.or_eq_false_iff,decide_eq_false_iff_not,bigRR_iff]at hl
 refine ⟨⟨⟨by omega⟩,⟨fun r hr=>⟨by have:=(hl.1 r hr).1;omega,⟨fun x hx=>?_⟩⟩⟩⟩,by omega⟩
 have:=(hl.1 r hr).2 x hx
 exact ⟨(h.b r hr x hx).1,(h.b r hr x hx).2,by omega,by omega⟩
theorem wf_lb {l:List Int} (h:∀ y∈l,wfT tW y):LB l:=fun x hx=>by
 have:=h x hx
 simp[wfT,Lit.wf,IntKind.min,IntKind.max,IntKind.bits,IntKind.signed]at this
 exact ⟨this.1,Int.lt_of_le_of_lt this.2 (by decide)⟩
theorem ARGR.of {l:(Ty.sl tRs).den} (h:wfT (.sl tRs) l):ARGR l.2:=by
 have hm:maxLen≤9223372036854775807:=by decide
 refine ⟨⟨Nat.le_trans h.1 hm,fun r hr=>Nat.le_trans (h.2.2 r hr).1 hm⟩,fun r hr x hx=>?_⟩
 have hx:=(h.2.2 r hr).2.2 x hx
 exact ⟨wf_lb hx.2.1.2.2,wf_lb hx.2.2.2.2⟩
end Go.Ab
