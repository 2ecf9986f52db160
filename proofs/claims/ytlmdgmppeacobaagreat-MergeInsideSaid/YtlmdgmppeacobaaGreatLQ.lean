/- The chapter's examples. -/
import Derived.Test.YtlmdgmppeacobaaGreatLO
set_option linter.unusedSimpArgs false
set_option linter.unusedVariables false
set_option maxRecDepth 20000
set_option maxHeartbeats 4000000
namespace Go.Ab
open Go.Proofs
theorem I64.ab {n:Int} (h:I64 n):n.natAbs<4294967296 ^ 128:=by
 have h1:=h.lo;have h2:=h.hi
 have:(18446744073709551616:Nat)≤4294967296 ^ 128:=by
  rw[show (18446744073709551616:Nat)=4294967296 ^ 2 by decide];exact Nat.pow_le_pow_right (by decide) (by decide)
 omega
theorem VT.int {n:Int} (h:I64 n):VT (intT n):=
 ⟨⟨CN_lm _,.nil,(lm_len _ _).2 h.ab,Nat.zero_le _,(fun h1=>by cases h1),fun h0=>by
  have h0:lm n.natAbs=[]:=h0
  have:n.natAbs=0:=lm_eq_nil.1 h0
  have hn:n=0:=by omega
  subst hn;exact ⟨rfl,rfl⟩,fun h0=>absurd rfl h0⟩⟩
theorem rvT_int (n:Int):rvT (intT n)=(n:Rat):=by
 show rnum (decide (n<0)) (vl (lm n.natAbs)) (dn [])=_
 rw[vl_lm]
 have e:(if decide (n<0)=true then -(n.natAbs:Int) else n.natAbs)=n:=by
  by_cases h:n<0 <;> simp[h] <;> omega
 unfold rnum
 rw[e]
 exact Rat.mkRat_one n
theorem intT_canon {n:Int} (h:I64 n):canon (n:Rat)=intT n:=by
 have:=(VT.int h).back
 rw[rvT_int]at this
 exact this
theorem add_int {a b:Int} (ha:I64 a) (hb:I64 b) (hc:I64 (a+b)):addE (intT a) (intT b)=0∧addT (intT a) (intT b)=intT (a+b):=by
 have e:rvT (intT a)+rvT (intT b)=((a+b:Int):Rat):=by rw[rvT_int,rvT_int,Rat.intCast_add]
 have h1:addE (intT a) (intT b)=0:=by
  rw[addE_eq (.int ha) (.int hb),e]
  have:=(VT.int hc).small
  rw[rvT_int]at this
  exact if_neg (by omega)
 exact ⟨h1,by rw[addT_eq h1,e,intT_canon hc]⟩
theorem mx_int {a b:Int} (ha:I64 a) (hb:I64 b):mxT (intT a) [intT b]=intT (max a b):=by
 have hc:=(VT.int ha).cm (.int hb)
 have hr:cmR (intT a).1 (intT a).2.1.2 (intT a).2.2.2 (intT b).1 (intT b).2.1.2 (intT b).2.2.2<0↔a<b:=by
  rw[hc,cmQ_lt,rvT_int,rvT_int,Rat.intCast_lt_intCast]
 unfold mxT mxT grS grN grD
 by_cases h:a<b
 ·rw[if_pos (hr.2 h),if_pos (hr.2 h),if_pos (hr.2 h),show max a b=b by omega];rfl
 ·rw[if_neg (fun h1=>h (hr.1 h1)),if_neg (fun h1=>h (hr.1 h1)),if_neg (fun h1=>h (hr.1 h1)),show max a b=a by omega];rfl
theorem srt_int {a b x y:Int} (ha:I64 a) (hb:I64 b) (h:(x,y)=if b≤a then (a,b) else (b,a)):srtD (cpRs [intT a,intT b])=[intT x,intT y]:=by
 symm
 refine srtD_uniq (fun z hz=>?_) ?_ ?_
 ·simp only[cpRs,List.map_cons,List.map_nil,List.mem_cons,List.not_mem_nil,or_false]at hz
  rcases hz with rfl | rfl
  ·exact ⟨(VT.int ha).cl,rfl⟩
  ·exact ⟨(VT.int hb).cl,rfl⟩
 ·by_cases hc:b≤a
  ·rw[if_pos hc]at h;cases h;exact .refl _
  ·rw[if_neg hc]at h;cases h;exact List.Perm.swap ..
 ·have hxy:y≤x:=by
   by_cases hc:b≤a
   ·rw[if_pos hc]at h;cases h;omega
   ·rw[if_neg hc]at h;cases h;omega
  simp only[List.pairwise_cons,List.mem_cons,List.not_mem_nil,or_false,forall_eq,List.Pairwise.nil,and_true,false_implies,implies_true]
  rw[rvT_int,rvT_int,Rat.intCast_le_intCast];exact hxy
theorem fe_VT:∀ {l:List RT},(∀ x∈l,VT x)→fe l=0
 | [],_=>rfl
 | x :: l,h=>by
  unfold fe
  rw[if_neg (fun h1=>h1 (h x List.mem_cons_self).chk)]
  exact fe_VT fun y hy=>h y (List.mem_cons_of_mem _ hy)
theorem rowL_VT {l:List Int} (h:RWP l):∀ x∈rowL l,VT x:=fun x hx=>by
 obtain ⟨n,hn,rfl⟩:=List.mem_map.1 hx
 exact .int (h.h n hn)
theorem VT.sz {l:List RT} (h:∀ x∈l,VT x):SZ 2000 l:=⟨fun x hx=>by
 have:=(h x hx).k
 exact ⟨this.ca.lb,this.cb.lb,by have:=this.la;omega,by have:=this.lb;omega⟩⟩
theorem cat_mem:∀ {l:List RS} {x:RT},x∈cat l→∃ r∈l,x∈r.2
 | r :: l,x,h=>by
  unfold cat at h
  rcases List.mem_append.1 h with h | h
  ·exact ⟨r,List.mem_cons_self,h⟩
  ·obtain ⟨s,hs,hx⟩:=cat_mem h
   exact ⟨s,List.mem_cons_of_mem _ hs,hx⟩
theorem mchk_of {l:List RS} (h0:0<l.length) (h1:l.length≤8) (h2:0<(row0 l).length) (h3:(row0 l).length≤6) (h4:sameL (row0 l).length l=true) (h5:∀ r∈l,∀ x∈r.2,VT x):mchk l=0:=by
 unfold mchk
 rw[if_neg (by omega),if_neg (by omega),if_neg (by omega),if_neg (by omega),if_pos h4]
 exact fe_VT fun x hx=>by
  obtain ⟨r,hr,hx⟩:=cat_mem hx
  exact h5 r hr x hx
theorem MC.of {l:List RS} (h1:l.length≤2000) (h2:∀ r∈l,r.2.length≤2000) (h5:∀ r∈l,∀ x∈r.2,VT x):MC l:=⟨⟨h1⟩,⟨fun r hr=>⟨h2 r hr,VT.sz (h5 r hr)⟩⟩⟩
def exL:List RS:=[(none,rowL [1,3,2]),(none,rowL [2,0,1])]
theorem rwp3 {a b c:Int} (ha:I64 a) (hb:I64 b) (hc:I64 c):RWP [a,b,c]:=⟨show 3≤2000 by decide,fun x hx=>by
 simp only[List.mem_cons,List.not_mem_nil,or_false]at hx
 rcases hx with rfl | rfl | rfl <;> assumption⟩
theorem i64s (n:Int) (h0 : -1000≤n) (h1:n≤1000):I64 n:=⟨by omega,by omega⟩
theorem ex_VT:∀ r∈exL,∀ x∈r.2,VT x:=fun r hr=>by
 simp only[exL,List.mem_cons,List.not_mem_nil,or_false]at hr
 rcases hr with rfl | rfl
 ·exact rowL_VT (rwp3 (i64s _ (by decide) (by decide)) (i64s _ (by decide) (by decide)) (i64s _ (by decide) (by decide)))
 ·exact rowL_VT (rwp3 (i64s _ (by decide) (by decide)) (i64s _ (by decide) (by decide)) (i64s _ (by decide) (by decide)))
theorem ex_MC:MC exL:=.of (by decide) (fun r hr=>by
 simp only[exL,List.mem_cons,List.not_mem_nil,or_false]at hr
 rcases hr with rfl | rfl <;> exact (by decide:3≤2000)) ex_VT
theorem ex_chk:mchk exL=0:=mchk_of (by decide) (by decide) (by exact (by decide:0<3)) (by exact (by decide:3≤6)) rfl ex_VT
theorem ex_col (n:Int) (a b:Int) (h:colL exL n=[intT a,intT b]):cmF exL n=fldT (intT a) [intT b]∧cmG exL n=fldE (intT a) [intT b]∧mxF exL n=mxT (intT a) [intT b]:=by
 unfold cmF cmG mxF
 rw[h];exact ⟨rfl,rfl,rfl⟩
theorem fld_int {a b:Int} (ha:I64 a) (hb:I64 b) (hc:I64 (a+b)):fldT (intT a) [intT b]=intT (a+b)∧fldE (intT a) [intT b]=0:=by
 obtain ⟨h1,h2⟩:=add_int ha hb hc
 unfold fldT fldE fldT fldE
 rw[if_neg (fun h=>h h1),if_neg (fun h=>h h1)];exact ⟨h2,rfl⟩
theorem ex_0:colL exL 0=[intT 1,intT 2]:=rfl
theorem ex_1:colL exL 1=[intT 3,intT 0]:=rfl
theorem ex_2:colL exL 2=[intT 2,intT 1]:=rfl
theorem ex_r0:(row0 exL).length=3:=rfl
theorem s64 {n:Int} (h : -1000≤n∧n≤1000:=by decide):I64 n:=i64s n h.1 h.2
theorem ex_sum:sumE exL=0∧sumL exL=rowL [3,3,3]:=by
 obtain ⟨a0,b0,_⟩:=ex_col 0 1 2 ex_0
 obtain ⟨a1,b1,_⟩:=ex_col 1 3 0 ex_1
 obtain ⟨a2,b2,_⟩:=ex_col 2 2 1 ex_2
 obtain ⟨f0,g0⟩:=fld_int (a:=1) (b:=2) s64 s64 s64
 obtain ⟨f1,g1⟩:=fld_int (a:=3) (b:=0) s64 s64 s64
 obtain ⟨f2,g2⟩:=fld_int (a:=2) (b:=1) s64 s64 s64
 rw[f0]at a0;rw[f1]at a1;rw[f2]at a2
 rw[g0]at b0;rw[g1]at b1;rw[g2]at b2
 obtain ⟨h1,h2⟩:=ex_MC.sum
 have hE:rsumE exL=0:=by
  unfold rsumE
  rw[if_neg (fun h=>h ex_chk),ex_r0]
  show (if cmG exL 0≠0 then _ else if cmG exL 1≠0 then _ else if cmG exL 2≠0 then _ else (0:Int))=0
  rw[b0,b1,b2];rfl
 refine ⟨by rw[h1,hE],?_⟩
 have hL:rsumL exL=[cmF exL 0,cmF exL 1,cmF exL 2]:=by
  unfold rsumL
  rw[if_pos hE,ex_r0];rfl
 rw[h2,hL,a0,a1,a2];rfl
theorem ex_wor:worE exL=0∧worL exL=rowL [2,3,2]:=by
 obtain ⟨_,_,a0⟩:=ex_col 0 1 2 ex_0
 obtain ⟨_,_,a1⟩:=ex_col 1 3 0 ex_1
 obtain ⟨_,_,a2⟩:=ex_col 2 2 1 ex_2
 rw[mx_int s64 s64]at a0 a1 a2
 obtain ⟨h1,h2⟩:=ex_MC.wor
 refine ⟨by rw[h1,ex_chk],?_⟩
 have hL:worL exL=[clR (mxF exL 0),clR (mxF exL 1),clR (mxF exL 2)]:=by
  rw[h2,if_pos ex_chk,ex_r0];rfl
 rw[hL,a0,a1,a2];rfl
theorem ex_val:valP exL 0=[2,1]∧valP exL 1=[3,0]∧valP exL 2=[2,1]:=by
 unfold valP proL
 rw[ex_0,ex_1,ex_2,srt_int (x:=2) (y:=1) s64 s64 rfl,srt_int (x:=3) (y:=0) s64 s64 rfl,srt_int (x:=2) (y:=1) s64 s64 rfl]
 simp only[List.map_cons,List.map_nil,rvT_int]
 decide +kernel
theorem ex_bst:bst (valP exL) [true,true,true] 0 (-1)=0∧bst (valP exL) [false,true,true] 0 (-1)=2:=by
 obtain ⟨v0,v1,v2⟩:=ex_val
 have c1:¬ cmpV (valP exL 1) (valP exL 0)<0:=by rw[v0,v1];decide +kernel
 have c2:¬ cmpV (valP exL 2) (valP exL 0)<0:=by rw[v0,v2];decide +kernel
 have c3:cmpV (valP exL 2) (valP exL 1)<0:=by rw[v1,v2];decide +kernel
 constructor
 ·show bst _ [true,true,true] 0 (-1)=0
  simp only[bst]
  simp[c1,c2]
 ·simp only[bst]
  simp[c3]
theorem ex_best:bstE exL [true,true,true]=0∧bstN exL [true,true,true]=0∧bstE exL [false,true,true]=0∧bstN exL [false,true,true]=2:=by
 obtain ⟨h1,h2⟩:=ex_bst
 have e1:bstE exL [true,true,true]=0:=by
  unfold bstE
  rw[if_neg (fun h=>h ex_chk),ex_r0,if_neg (by decide),h1,if_neg (by decide)]
 have e2:bstE exL [false,true,true]=0:=by
  unfold bstE
  rw[if_neg (fun h=>h ex_chk),ex_r0,if_neg (by decide),h2,if_neg (by decide)]
 refine ⟨e1,?_,e2,?_⟩
 ·unfold bstN;rw[if_pos e1,h1]
 ·unfold bstN;rw[if_pos e2,h2]
def exA:List AT:=[(0,0,0),(1,10,100),(1,30,60),(2,-100,-10),(2,-5,20)]
theorem ex_bnd:bndE exA [1,2]=0∧bndLo exA [1,2]=30∧bndHi exA [1,2]=60∧joinN exA [1,2]=2∧bndE exA [1,3]=0∧bndLo exA [1,3]=10∧bndHi exA [1,3] = -10∧joinN exA [1,3]=4:=by decide +kernel
structure EQP (l:List RT):Prop where
 a:Short 2000 l
 b:SZ 2000 l
theorem cEqRs2 (nl:Option Bool) (l:List RT) (nm:Option Bool) (m:List RT) (h:EQP l):PurS Tryz.prog 20 [injT (.sl tR) (nl,l),injT (.sl tR) (nm,m)] (.sb (eqRs l m)):=cEqRs nl l nm m h.a h.b
theorem cAwake  : PurS Tryz.prog 11 [] (.sb true):=by
 refine PurS.of (S:=[(29,_),(17,_),(18,_),(19,_),(24,_),(26,_),(34,_),(20,_)]) (T:=[]) (U:=[]) (tbl:=[]) (n:=147) hm31 cfg (.cons (spT1.ok (a:=(.sl (.int .i64))) fun x0 h=>cRow x0.1 x0.2 h) (.cons (spT1.ok (a:=(.sl (.sl (.pair .bool (.pair (.sl (.int .u32)) (.sl (.int .u32))))))) fun x0 h=>cMSum x0.1 x0.2 h) (.cons (spT1.ok (a:=(.sl (.sl (.pair .bool (.pair (.sl (.int .u32)) (.sl (.int .u32))))))) fun x0 h=>cMWorst x0.1 x0.2 h) (.cons (spT2.ok (a:=(.sl (.sl (.pair .bool (.pair (.sl (.int .u32)) (.sl (.int .u32))))))) (b:=(.sl .bool)) fun x0 x1 h=>cMBest x0.1 x0.2 x1.1 x1.2 h) (.cons (spT2.ok (a:=(.sl (.pair (.int .u8) (.pair (.int .i64) (.int .i64))))) (b:=(.sl (.int .i64))) (pre:=fun _ _=>True) fun x0 x1 _=>cBound x0.1 x0.2 x1.1 x1.2) (.cons (spT2.ok (a:=(.sl (.pair (.int .u8) (.pair (.int .i64) (.int .i64))))) (b:=(.sl (.int .i64))) (pre:=fun _ _=>True) fun x0 x1 _=>cJoin x0.1 x0.2 x1.1 x1.2) (.cons (spT0.ok cFive) (.cons (spT2.ok (a:=(.sl (.pair .bool (.pair (.sl (.int .u32)) (.sl (.int .u32)))))) (b:=(.sl (.pair .bool (.pair (.sl (.int .u32)) (.sl (.int .u32)))))) fun x0 x1 h=>cEqRs2 x0.1 x0.2 x1.1 x1.2 h) .nil)))))))) .nil .nil .nil 0 Tryz.call11 Tryz.func11 (ac11_ok (some (0,0))) (by rw[Tryz.ntmps11];exact Nat.le_refl _) rfl ⟨_,rfl⟩ ?_
 intro cmp ar cv tn ic ai mx an ad ml sb mn ln em gt up ap sc vw cp rp p1 p2 s1 s2 X Y hX hY r0 r1 r2 r3 r4 r5 r6 r7 r8 r9 r10 r11 r12 r13 r14 r15 r16 r17 r18 r19 r20 r21 r22 r23 r24
 generalize hg0:rowL=g0
 generalize hg1:sumL=g1
 generalize hg2:sumE=g2
 generalize hg3:worL=g3
 generalize hg4:worE=g4
 generalize hg5:bstN=g5
 generalize hg6:bstE=g6
 generalize hg7:bndLo=g7
 generalize hg8:bndHi=g8
 generalize hg9:bndE=g9
 generalize hg10:joinN=g10
 generalize hg11:eqRs=g11
 cbv
 obtain ⟨L,hL⟩:∃ L:List RS,L=[(none,g0 [1,3,2]),(none,g0 [2,0,1])]:=⟨_,rfl⟩
 obtain ⟨A,hA⟩:∃ A:List AT,A=[(0,0,0),(1,10,100),(1,30,60),(2,-100,-10),(2,-5,20)]:=⟨_,rfl⟩
 have hLe:L=exL:=by rw[hL,←hg0];rfl
 have hAe:A=exA:=by rw[hA];rfl
 dsimp only
 rw[←hL,←hA]
 have w1:RWP [1,3,2]:=rwp3 s64 s64 s64
 have w2:RWP [2,0,1]:=rwp3 s64 s64 s64
 have w3:RWP [3,3,3]:=rwp3 s64 s64 s64
 have w4:RWP [2,3,2]:=rwp3 s64 s64 s64
 have kM:MC L:=by rw[hLe];exact ex_MC
 have k2:g2 L=0:=by rw[hLe,←hg2];exact ex_sum.1
 have k1:g1 L=g0 [3,3,3]:=by rw[hLe,←hg1,←hg0];exact ex_sum.2
 have k4:g4 L=0:=by rw[hLe,←hg4];exact ex_wor.1
 have k3:g3 L=g0 [2,3,2]:=by rw[hLe,←hg3,←hg0];exact ex_wor.2
 have q1:EQP (g0 [3,3,3]):=by rw[←hg0];exact ⟨⟨show 3≤2000 by decide⟩,VT.sz (rowL_VT w3)⟩
 have q2:EQP (g0 [2,3,2]):=by rw[←hg0];exact ⟨⟨show 3≤2000 by decide⟩,VT.sz (rowL_VT w4)⟩
 have t1:∀ l,g11 l l=true:=fun l=>by rw[←hg11];exact decide_eq_true rfl
 obtain ⟨b1,b2,b3,b4⟩:=ex_best
 rw[←hLe]at b1 b2 b3 b4
 rw[hg6]at b1 b3
 rw[hg5]at b2 b4
 obtain ⟨c1,c2,c3,c4,c5,c6,c7,c8⟩:=ex_bnd
 rw[←hAe]at c1 c2 c3 c4 c5 c6 c7 c8
 rw[hg9]at c1 c5
 rw[hg7]at c2 c6
 rw[hg8]at c3 c7
 rw[hg10]at c4 c8
 rw[k1,k3,t1,t1,BR_true,BR_true,k2,k4,b1,b2,b3,b4,c1,c2,c3,c4,c5,c6,c7,c8]
 have z:∀ {x:Int} {A B:Prop},A→BR (cmp .eql x x) A B:=fun h=>BR.eql r0 (fun _=>h) (fun h=>absurd rfl h)
 exact ⟨w1,w2,kM,kM,kM,kM,z ⟨w3,q1,z ⟨w4,q2,z (z (z (z (z (z (z (z (z (z (z (z (z (z trivial)))))))))))))⟩⟩⟩
end Go.Ab
