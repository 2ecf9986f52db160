/- Rows of whole costs; sizes. -/
import Derived.Test.YtlmdgmppeacobaaGreatLN
set_option linter.unusedSimpArgs false
set_option linter.unusedVariables false
set_option maxRecDepth 20000
set_option maxHeartbeats 4000000
namespace Go.Ab
open Go.Proofs
def intT (n:Int):RT:=(ngI n,(none,absL n),(none,[]))
def rowL (l:List Int):List RT:=l.map intT
structure RWP (l:List Int):Prop where
 n:l.length≤2000
 h:∀ x∈l,I64 x
theorem cRow (nl:Option Bool) (l:List Int) (h:RWP l):PurS Tryz.prog 29 [injT (.sl tI) (nl,l)] (.tl none tR (rowL l)):=by
 refine PurS.of (S:=[(55,_)]) (T:=[]) (U:=[]) (tbl:=[]) (n:=20) hm31 cfg (.cons (spT1.ok (a:=(.int .i64)) fun x0 h=>cRRFrom x0 h) .nil) .nil .nil .nil 0 Tryz.call29 Tryz.func29 (ac29_ok (some (0,0))) (by rw[Tryz.ntmps29];exact Nat.le_refl _) rfl ⟨_,rfl⟩ ?_
 intro cmp ar cv tn ic ai mx an ad ml sb mn ln em gt up ap sc vw cp rp p1 p2 s1 s2 X Y hX hY r0 r1 r2 r3 r4 r5 r6 r7 r8 r9 r10 r11 r12 r13 r14 r15 r16 r17 r18 r19 r20 r21 r22 r23 r24
 generalize hg0:ngI=g0
 generalize hg1:absL=g1
 generalize hg2:rowL=g2
 cbv
 have hn:=h.n
 obtain ⟨N,hN⟩:∃ N:Int,N=l.length:=⟨_,rfl⟩
 have hll:ic (ln tI l)=N:=by rw[r4,r12,hN]
 have e2:g2 l=l.map intT:=by rw[←hg2];rfl
 refine LOOP.ind (σ:=List RT×Int) (fun (O,i)=>[(0,.tl nl tI l),(3,.og 0 tR O),(4,.p (iv i))]) (fun (O,_)=>⟨[],[(ml (ln tR O) 3,49)]⟩) (fun (_,i)=>(N - i).toNat)
  (fun (O,i)=>0≤i∧i≤N∧O.length=i∧O ++ (l.drop i.toNat).map intT=g2 l) ([],0) ⟨by omega,by show (0:Int)≤N;omega,rfl,by rw[e2];rfl⟩ (.inr ⟨[],[none],?_⟩) ?_
 ·rw[SIM_iff];cbv;simp[nlLe_self,lstEq]
 intro ⟨O,i⟩ ⟨i0,i1,i2,i3⟩ X' hX
 obtain ⟨x,hx⟩:∃ x:Int,x=gt tI l i:=⟨_,rfl⟩
 obtain ⟨y,hy⟩:∃ y:RT,y=(g0 x,(none,g1 x),(none,[])):=⟨_,rfl⟩
 have hy':y=intT x:=by rw[hy,←hg0,←hg1];rfl
 have hst:i<N→O ++ (y :: (l.drop (i+1).toNat).map intT)=g2 l:=fun h1=>by
  rw[gtR_drop (t:=tI) i0 (by omega),show gtR tI l i=x by rw[hx,r14],List.map_cons,←hy']at i3;exact i3
 have hse:¬ i<N→O=g2 l:=fun h1=>by rw[gtR_end (by omega),List.map_nil,List.append_nil]at i3;exact i3
 have hxi:i<N→I64 x:=fun h1=>h.h x (by rw[hx,r14];exact gtR_mem (t:=tI) i0 (by omega))
 have hi1:i<N→ar .add .i64 i 1=i+1:=fun h2=>by rw[r1];exact wrap64 (n:=i+1) (by omega) (by omega)
 have hap:ap tR O [y]=O ++ [y]:=by rw[r16]
 have had:ad (ln tR O) (ln tR [y])=O.length+1:=by rw[r8,r12];rfl
 have hnx:i<N→∀ O',O'=O ++ [y]→NEXT X' [(0,.tl nl tI l),(3,.og 0 tR O'),(4,.p (iv (i+1)))] ⟨[],[(ml (ln tR O') 3,49)]⟩:=fun h1 O' hO=>by
  have hl:O'.length=O.length+1:=by rw[hO,List.length_append];rfl
  refine NEXT.mk (hX (O',i+1) _ _ ⟨by omega,by show i+1≤N;omega,by show (O'.length:Int)=i+1;omega,?_⟩ (by show (N - (i+1)).toNat<(N - i).toNat;omega) (.inl ⟨rfl,rfl⟩))
  show O' ++ (l.drop (i+1).toNat).map intT=g2 l
  rw[hO,List.append_assoc];exact hst h1
 clear hX i3 hst hy'
 cbv
 try simp only[nc_eq]at *
 rw[hll,←hx,←hy,had,hap]
 refine BR.lss r0 (fun h1=>?_) (fun h1=>⟨nlLe_none.2 trivial,hse h1⟩)
 have hI:INB i N:=⟨i0,h1⟩
 rw[hi1 h1]
 exact ⟨hI,hI,hxi h1,⟨rfl⟩,LIM_iff.2 ⟨by omega,by omega⟩,hnx h1 _ rfl⟩
def bigR:List RT→Bool
 | []=>false
 | x :: r=>decide (x.2.1.2.length>8∨x.2.2.2.length>8) || bigR r
def bigRR:List RS→Bool
 | []=>false
 | r :: l=>bigR r.2 || decide (r.2.length>20) || bigRR l
def longB (l:List RS):Bool:=bigRR l || decide (l.length>12)
structure LGP (l:List RS):Prop where
 n:l.length≤9223372036854775807
 h:∀ r∈l,r.2.length≤9223372036854775807
theorem cLong (nl:Option Bool) (l:List RS) (h:LGP l):PurS Tryz.prog 10 [injT (.sl tRs) (nl,l)] (.sb (longB l)):=by
 refine PurS.of (S:=[]) (T:=[]) (U:=[]) (tbl:=[]) (n:=51) hm31 cfg .nil .nil .nil .nil 0 Tryz.call10 Tryz.func10 (ac10_ok (some (0,0))) (by rw[Tryz.ntmps10];exact Nat.le_refl _) rfl ⟨_,rfl⟩ ?_
 intro cmp ar cv tn ic ai mx an ad ml sb mn ln em gt up ap sc vw cp rp p1 p2 s1 s2 X Y hX hY r0 r1 r2 r3 r4 r5 r6 r7 r8 r9 r10 r11 r12 r13 r14 r15 r16 r17 r18 r19 r20 r21 r22 r23 r24
 generalize hg0:longB=g0
 cbv
 have hn:=h.n
 obtain ⟨N,hN⟩:∃ N:Int,N=l.length:=⟨_,rfl⟩
 have hll:ic (ln tRs l)=N:=by rw[r4,r12,hN]
 have e0:g0 l=(bigRR l || decide (l.length>12)):=by rw[←hg0];rfl
 obtain ⟨Z,hZ⟩:∃ Z,Z=g0 l:=⟨_,rfl⟩
 rw[←hZ]at e0 ⊢
 obtain ⟨D,hD⟩:∃ D,D=decide (l.length>12):=⟨_,rfl⟩
 rw[←hD]at e0
 refine LOOP.ind (σ:=Int) (fun i=>[(0,.tl nl tRs l),(3,.p (iv i))]) (fun _=>⟨[],[]⟩) (fun i=>(N - i).toNat) (fun i=>0≤i∧i≤N∧Z=(bigRR (l.drop i.toNat) || D)) 0 ⟨by omega,by omega,e0⟩ (.inl ⟨rfl,rfl⟩) ?_
 intro i ⟨i0,i1,i2⟩ X' hX
 obtain ⟨r,hr⟩:∃ r,r=s2 tR (gt tRs l i):=⟨_,rfl⟩
 obtain ⟨M,hM⟩:∃ M:Int,M=r.length:=⟨_,rfl⟩
 have hlr:ic (ln tR r)=M:=by rw[r4,r12,hM]
 have hr':r=(gtR tRs l i).2:=by rw[hr,r24,r14]
 obtain ⟨W,hW⟩:∃ W,W=(decide (r.length>20) || bigRR (l.drop (i+1).toNat) || D):=⟨_,rfl⟩
 have hst:i<N→Z=(bigR r || W):=fun h1=>by
  rw[i2,gtR_drop (t:=tRs) i0 (by omega),bigRR,←hr',hW,Bool.or_assoc,Bool.or_assoc,Bool.or_assoc]
 have hW2:r.length≤20→W=(bigRR (l.drop (i+1).toNat) || D):=fun h1=>by rw[hW,decide_eq_false (by omega),Bool.false_or]
 have hW1:r.length>20→W=true:=fun h1=>by rw[hW,decide_eq_true h1,Bool.true_or,Bool.true_or]
 have hse:¬ i<N→Z=D:=fun h1=>by rw[i2,gtR_end (by omega),bigRR,Bool.false_or]
 have hrl:i<N→r.length≤9223372036854775807:=fun h1=>by rw[hr'];exact h.h _ (gtR_mem (t:=tRs) i0 (by omega))
 have hi1:i<N→ar .add .i64 i 1=i+1:=fun h2=>by rw[r1];exact wrap64 (n:=i+1) (by omega) (by omega)
 have hnx:i<N→r.length≤20→Z=W→NEXT X' [(0,.tl nl tRs l),(3,.p (iv (i+1)))] ⟨[],[]⟩:=fun h1 h2 h3=>NEXT.mk (hX (i+1) _ _ ⟨by omega,by omega,by rw[h3,hW2 h2]⟩ (by show (N - (i+1)).toNat<(N - i).toNat;omega) (.inl ⟨rfl,rfl⟩))
 clear hX i2 hW hW2 hr'
 cbv
 try simp only[nc_eq]at *
 rw[hll]
 refine BR.lss r0 (fun h1=>?_) (fun h1=>?_)
 ·have hst:=hst h1
  have hn1:=hnx h1
  refine LOOP.ind (σ:=Int) (fun j=>[(0,.tl nl tRs l),(3,.p (iv i)),(4,.p (iv j))]) (fun _=>⟨[],[]⟩) (fun j=>(M - j).toNat) (fun j=>0≤j∧j≤M∧Z=(bigR (r.drop j.toNat) || W)) 0 ⟨by omega,by omega,hst⟩ (.inl ⟨rfl,rfl⟩) ?_
  intro j ⟨j0,j1,j2⟩ X2 hX2
  obtain ⟨x,hx⟩:∃ x:RT,x=gt tR r j:=⟨_,rfl⟩
  obtain ⟨nI,hnI⟩:∃ z:Int,z=x.2.1.2.length:=⟨_,rfl⟩
  obtain ⟨nB,hnB⟩:∃ z:Int,z=x.2.2.2.length:=⟨_,rfl⟩
  have hnI':ic (ln tW x.2.1.2)=nI:=by rw[r4,r12,hnI]
  have hnB':ic (ln tW x.2.2.2)=nB:=by rw[r4,r12,hnB]
  obtain ⟨R,hR⟩:∃ R,R=bigR (r.drop (j+1).toNat):=⟨_,rfl⟩
  have hst2:j<M→Z=(decide (nI>8∨nB>8) || (R || W)):=fun h2=>by
   rw[j2,gtR_drop (t:=tR) j0 (by omega),show gtR tR r j=x by rw[hx,r14],bigR,←hR,Bool.or_assoc,decide_eq_decide.2 (show (x.2.1.2.length>8∨x.2.2.2.length>8)↔(nI>8∨nB>8) by omega)]
  have hse2:¬ j<M→Z=W:=fun h2=>by rw[j2,gtR_end (by omega),bigR,Bool.false_or]
  have hj1:j<M→ar .add .i64 j 1=j+1:=fun h2=>by have:=hrl h1;rw[r1];exact wrap64 (n:=j+1) (by omega) (by omega)
  have hnx2:j<M→Z=(R || W)→NEXT X2 [(0,.tl nl tRs l),(3,.p (iv i)),(4,.p (iv (j+1)))] ⟨[],[]⟩:=fun h2 h3=>NEXT.mk (hX2 (j+1) _ _ ⟨by omega,by omega,by rw[h3,hR]⟩ (by show (M - (j+1)).toNat<(M - j).toNat;omega) (.inl ⟨rfl,rfl⟩))
  clear hX2 j2 hR hnI hnB
  obtain ⟨s,⟨na',a'⟩,⟨nb',b'⟩⟩:=x
  dsimp only at hnI' hnB'
  cbv
  try simp only[nc_eq]at *
  rw[hll,←hr,hlr,←hx]
  simp only[r21,r22,r23,r24]
  rw[hnI',hnB',hi1 h1]
  have hI:INB i N:=⟨i0,h1⟩
  refine ⟨hI,hI,BR.lss r0 (fun h2=>?_) (fun h2=>⟨hI,hI,BR.gtr r0 (fun h3=>?_) (fun h3=>?_)⟩)⟩
  ·have hJ:INB j M:=⟨j0,h2⟩
   have hs2:=hst2 h2
   rw[hj1 h2]
   refine ⟨hI,hI,hJ,hJ,BR.gtr r0 (fun h3=>?_) (fun h3=>⟨hI,hI,hJ,hJ,BR.gtr r0 (fun h4=>?_) (fun h4=>hnx2 h2 ?_)⟩)⟩
   ·rw[decide_eq_true (.inl h3),Bool.true_or]at hs2;exact hs2.symm
   ·rw[decide_eq_true (.inr h4),Bool.true_or]at hs2;exact hs2.symm
   ·rw[decide_eq_false (by omega),Bool.false_or]at hs2;exact hs2
  ·rw[hse2 h2,hW1 (by omega)]
  ·exact hn1 (by omega) (hse2 h2)
 ·rw[hse h1,hD]
  exact BR.gtr r0 (fun h2=>(decide_eq_true (by omega)).symm) (fun h2=>(decide_eq_false (by omega)).symm)
theorem cFive  : PurS Tryz.prog 34 [] (.tl none tA [(0,0,0),(1,10,100),(1,30,60),(2,-100,-10),(2,-5,20)]):=by
 refine PurS.of (S:=[]) (T:=[]) (U:=[]) (tbl:=[]) (n:=7) hm31 cfg .nil .nil .nil .nil 0 Tryz.call34 Tryz.func34 (ac34_ok (some (0,0))) (by rw[Tryz.ntmps34];exact Nat.le_refl _) rfl ⟨_,rfl⟩ ?_
 intro cmp ar cv tn ic ai mx an ad ml sb mn ln em gt up ap sc vw cp rp p1 p2 s1 s2 X Y hX hY r0 r1 r2 r3 r4 r5 r6 r7 r8 r9 r10 r11 r12 r13 r14 r15 r16 r17 r18 r19 r20 r21 r22 r23 r24
 cbv
 exact ⟨nlLe_none.2 trivial,rfl⟩
end Go.Ab
namespace Go.Ab
open Go.Proofs
theorem I64.ab {n:Int} (h:I64 n):n.natAbs<4294967296 ^ 128:=by
 have h1:=h.lo;have h2:=h.hi
 have:(18446744073709551616:Nat)≤4294967296 ^ 128:=by
  rw[show (18446744073709551616:Nat)=4294967296 ^ 2 by decide];exact Nat.pow_le_pow_right (by decide) (by decide)
 omega
theorem VT.int {n:Int} (h:I64 n):VT (intT n):=
 ⟨⟨CN_lm _,.nil,(lm_len _ _).2 h.ab,Nat.zero_le _,(fun h1=>by cases h1),fun h0=>by
  have h0:lm n.natAbs=[]:=h0
  have:n.natAbs=0:=lm_eq_nil.1 h0
  have hn:n=0:=by omega
  subst hn;exact ⟨rfl,rfl⟩,fun h0=>absurd rfl h0⟩⟩
theorem rvT_int (n:Int):rvT (intT n)=(n:Rat):=by
 show rnum (decide (n<0)) (vl (lm n.natAbs)) (dn [])=_
 rw[vl_lm]
 have e:(if decide (n<0)=true then -(n.natAbs:Int) else n.natAbs)=n:=by
  by_cases h:n<0 <;> simp[h] <;> omega
 unfold rnum
 rw[e]
 exact Rat.mkRat_one n
theorem intT_canon {n:Int} (h:I64 n):canon (n:Rat)=intT n:=by
 have:=(VT.int h).back
 rw[rvT_int]at this
 exact this
theorem add_int {a b:Int} (ha:I64 a) (hb:I64 b) (hc:I64 (a+b)):addE (intT a) (intT b)=0∧addT (intT a) (intT b)=intT (a+b):=by
 have e:rvT (intT a)+rvT (intT b)=((a+b:Int):Rat):=by rw[rvT_int,rvT_int,Rat.intCast_add]
 have h1:addE (intT a) (intT b)=0:=by
  rw[addE_eq (.int ha) (.int hb),e]
  have:=(VT.int hc).small
  rw[rvT_int]at this
  exact if_neg (by omega)
 exact ⟨h1,by rw[addT_eq h1,e,intT_canon hc]⟩
theorem mx_int {a b:Int} (ha:I64 a) (hb:I64 b):mxT (intT a) [intT b]=intT (max a b):=by
 have hc:=(VT.int ha).cm (.int hb)
 have hr:cmR (intT a).1 (intT a).2.1.2 (intT a).2.2.2 (intT b).1 (intT b).2.1.2 (intT b).2.2.2<0↔a<b:=by
  rw[hc,cmQ_lt,rvT_int,rvT_int,Rat.intCast_lt_intCast]
 unfold mxT mxT grS grN grD
 by_cases h:a<b
 ·rw[if_pos (hr.2 h),if_pos (hr.2 h),if_pos (hr.2 h),show max a b=b by omega];rfl
 ·rw[if_neg (fun h1=>h (hr.1 h1)),if_neg (fun h1=>h (hr.1 h1)),if_neg (fun h1=>h (hr.1 h1)),show max a b=a by omega];rfl
theorem srt_int {a b x y:Int} (ha:I64 a) (hb:I64 b) (h:(x,y)=if b≤a then (a,b) else (b,a)):srtD (cpRs [intT a,intT b])=[intT x,intT y]:=by
 symm
 refine srtD_uniq (fun z hz=>?_) ?_ ?_
 ·simp only[cpRs,List.map_cons,List.map_nil,List.mem_cons,List.not_mem_nil,or_false]at hz
  rcases hz with rfl | rfl
  ·exact ⟨(VT.int ha).cl,rfl⟩
  ·exact ⟨(VT.int hb).cl,rfl⟩
 ·by_cases hc:b≤a
  ·rw[if_pos hc]at h;cases h;exact .refl _
  ·rw[if_neg hc]at h;cases h;exact List.Perm.swap ..
 ·have hxy:y≤x:=by
   by_cases hc:b≤a
   ·rw[if_pos hc]at h;cases h;omega
   ·rw[if_neg hc]at h;cases h;omega
  simp only[List.pairwise_cons,List.mem_cons,List.not_mem_nil,or_false,forall_eq,List.Pairwise.nil,and_true,false_implies,implies_true]
  rw[rvT_int,rvT_int,Rat.intCast_le_intCast];exact hxy
theorem fe_VT:∀ {l:List RT},(∀ x∈l,VT x)→fe l=0
 | [],_=>rfl
 | x :: l,h=>by
  unfold fe
  rw[if_neg (fun h1=>h1 (h x List.mem_cons_self).chk)]
  exact fe_VT fun y hy=>h y (List.mem_cons_of_mem _ hy)
theorem rowL_VT {l:List Int} (h:RWP l):∀ x∈rowL l,VT x:=fun x hx=>by
 obtain ⟨n,hn,rfl⟩:=List.mem_map.1 hx
 exact .int (h.h n hn)
theorem VT.sz {l:List RT} (h:∀ x∈l,VT x):SZ 2000 l:=⟨fun x hx=>by
 have:=(h x hx).k
 exact ⟨this.ca.lb,this.cb.lb,by have:=this.la;omega,by have:=this.lb;omega⟩⟩
theorem cat_mem:∀ {l:List RS} {x:RT},x∈cat l→∃ r∈l,x∈r.2
 | r :: l,x,h=>by
  unfold cat at h
  rcases List.mem_append.1 h with h | h
  ·exact ⟨r,List.mem_cons_self,h⟩
  ·obtain ⟨s,hs,hx⟩:=cat_mem h
   exact ⟨s,List.mem_cons_of_mem _ hs,hx⟩
theorem mchk_of {l:List RS} (h0:0<l.length) (h1:l.length≤8) (h2:0<(row0 l).length) (h3:(row0 l).length≤6) (h4:sameL (row0 l).length l=true) (h5:∀ r∈l,∀ x∈r.2,VT x):mchk l=0:=by
 unfold mchk
 rw[if_neg (by omega),if_neg (by omega),if_neg (by omega),if_neg (by omega),if_pos h4]
 exact fe_VT fun x hx=>by
  obtain ⟨r,hr,hx⟩:=cat_mem hx
  exact h5 r hr x hx
theorem MC.of {l:List RS} (h1:l.length≤2000) (h2:∀ r∈l,r.2.length≤2000) (h5:∀ r∈l,∀ x∈r.2,VT x):MC l:=⟨⟨h1⟩,⟨fun r hr=>⟨h2 r hr,VT.sz (h5 r hr)⟩⟩⟩
def exL:List RS:=[(none,rowL [1,3,2]),(none,rowL [2,0,1])]
theorem rwp3 {a b c:Int} (ha:I64 a) (hb:I64 b) (hc:I64 c):RWP [a,b,c]:=⟨show 3≤2000 by decide,fun x hx=>by
 simp only[List.mem_cons,List.not_mem_nil,or_false]at hx
 rcases hx with rfl | rfl | rfl <;> assumption⟩
theorem i64s (n:Int) (h0 : -1000≤n) (h1:n≤1000):I64 n:=⟨by omega,by omega⟩
theorem ex_VT:∀ r∈exL,∀ x∈r.2,VT x:=fun r hr=>by
 simp only[exL,List.mem_cons,List.not_mem_nil,or_false]at hr
 rcases hr with rfl | rfl
 ·exact rowL_VT (rwp3 (i64s _ (by decide) (by decide)) (i64s _ (by decide) (by decide)) (i64s _ (by decide) (by decide)))
 ·exact rowL_VT (rwp3 (i64s _ (by decide) (by decide)) (i64s _ (by decide) (by decide)) (i64s _ (by decide) (by decide)))
theorem ex_MC:MC exL:=.of (by decide) (fun r hr=>by
 simp only[exL,List.mem_cons,List.not_mem_nil,or_false]at hr
 rcases hr with rfl | rfl <;> exact (by decide:3≤2000)) ex_VT
theorem ex_chk:mchk exL=0:=mchk_of (by decide) (by decide) (by exact (by decide:0<3)) (by exact (by decide:3≤6)) rfl ex_VT
theorem ex_col (n:Int) (a b:Int) (h:colL exL n=[intT a,intT b]):cmF exL n=fldT (intT a) [intT b]∧cmG exL n=fldE (intT a) [intT b]∧mxF exL n=mxT (intT a) [intT b]:=by
 unfold cmF cmG mxF
 rw[h];exact ⟨rfl,rfl,rfl⟩
theorem fld_int {a b:Int} (ha:I64 a) (hb:I64 b) (hc:I64 (a+b)):fldT (intT a) [intT b]=intT (a+b)∧fldE (intT a) [intT b]=0:=by
 obtain ⟨h1,h2⟩:=add_int ha hb hc
 unfold fldT fldE fldT fldE
 rw[if_neg (fun h=>h h1),if_neg (fun h=>h h1)];exact ⟨h2,rfl⟩
theorem ex_0:colL exL 0=[intT 1,intT 2]:=rfl
theorem ex_1:colL exL 1=[intT 3,intT 0]:=rfl
theorem ex_2:colL exL 2=[intT 2,intT 1]:=rfl
theorem ex_r0:(row0 exL).length=3:=rfl
theorem s64 {n:Int} (h : -1000≤n∧n≤1000:=by decide):I64 n:=i64s n h.1 h.2
theorem ex_sum:sumE exL=0∧sumL exL=rowL [3,3,3]:=by
 obtain ⟨a0,b0,_⟩:=ex_col 0 1 2 ex_0
 obtain ⟨a1,b1,_⟩:=ex_col 1 3 0 ex_1
 obtain ⟨a2,b2,_⟩:=ex_col 2 2 1 ex_2
 obtain ⟨f0,g0⟩:=fld_int (a:=1) (b:=2) s64 s64 s64
 obtain ⟨f1,g1⟩:=fld_int (a:=3) (b:=0) s64 s64 s64
 obtain ⟨f2,g2⟩:=fld_int (a:=2) (b:=1) s64 s64 s64
 rw[f0]at a0;rw[f1]at a1;rw[f2]at a2
 rw[g0]at b0;rw[g1]at b1;rw[g2]at b2
 obtain ⟨h1,h2⟩:=ex_MC.sum
 have hE:rsumE exL=0:=by
  unfold rsumE
  rw[if_neg (fun h=>h ex_chk),ex_r0]
  show (if cmG exL 0≠0 then _ else if cmG exL 1≠0 then _ else if cmG exL 2≠0 then _ else (0:Int))=0
  rw[b0,b1,b2];rfl
 refine ⟨by rw[h1,hE],?_⟩
 have hL:rsumL exL=[cmF exL 0,cmF exL 1,cmF exL 2]:=by
  unfold rsumL
  rw[if_pos hE,ex_r0];rfl
 rw[h2,hL,a0,a1,a2];rfl
theorem ex_wor:worE exL=0∧worL exL=rowL [2,3,2]:=by
 obtain ⟨_,_,a0⟩:=ex_col 0 1 2 ex_0
 obtain ⟨_,_,a1⟩:=ex_col 1 3 0 ex_1
 obtain ⟨_,_,a2⟩:=ex_col 2 2 1 ex_2
 rw[mx_int s64 s64]at a0 a1 a2
 obtain ⟨h1,h2⟩:=ex_MC.wor
 refine ⟨by rw[h1,ex_chk],?_⟩
 have hL:worL exL=[clR (mxF exL 0),clR (mxF exL 1),clR (mxF exL 2)]:=by
  rw[h2,if_pos ex_chk,ex_r0];rfl
 rw[hL,a0,a1,a2];rfl
theorem ex_val:valP exL 0=[2,1]∧valP exL 1=[3,0]∧valP exL 2=[2,1]:=by
 unfold valP proL
 rw[ex_0,ex_1,ex_2,srt_int (x:=2) (y:=1) s64 s64 rfl,srt_int (x:=3) (y:=0) s64 s64 rfl,srt_int (x:=2) (y:=1) s64 s64 rfl]
 simp only[List.map_cons,List.map_nil,rvT_int]
 decide +kernel
theorem ex_bst:bst (valP exL) [true,true,true] 0 (-1)=0∧bst (valP exL) [false,true,true] 0 (-1)=2:=by
 obtain ⟨v0,v1,v2⟩:=ex_val
 have c1:¬ cmpV (valP exL 1) (valP exL 0)<0:=by rw[v0,v1];decide +kernel
 have c2:¬ cmpV (valP exL 2) (valP exL 0)<0:=by rw[v0,v2];decide +kernel
 have c3:cmpV (valP exL 2) (valP exL 1)<0:=by rw[v1,v2];decide +kernel
 constructor
 ·show bst _ [true,true,true] 0 (-1)=0
  simp only[bst]
  simp[c1,c2]
 ·simp only[bst]
  simp[c3]
theorem ex_best:bstE exL [true,true,true]=0∧bstN exL [true,true,true]=0∧bstE exL [false,true,true]=0∧bstN exL [false,true,true]=2:=by
 obtain ⟨h1,h2⟩:=ex_bst
 have e1:bstE exL [true,true,true]=0:=by
  unfold bstE
  rw[if_neg (fun h=>h ex_chk),ex_r0,if_neg (by decide),h1,if_neg (by decide)]
 have e2:bstE exL [false,true,true]=0:=by
  unfold bstE
  rw[if_neg (fun h=>h ex_chk),ex_r0,if_neg (by decide),h2,if_neg (by decide)]
 refine ⟨e1,?_,e2,?_⟩
 ·unfold bstN;rw[if_pos e1,h1]
 ·unfold bstN;rw[if_pos e2,h2]
def exA:List AT:=[(0,0,0),(1,10,100),(1,30,60),(2,-100,-10),(2,-5,20)]
theorem ex_bnd:bndE exA [1,2]=0∧bndLo exA [1,2]=30∧bndHi exA [1,2]=60∧joinN exA [1,2]=2∧bndE exA [1,3]=0∧bndLo exA [1,3]=10∧bndHi exA [1,3] = -10∧joinN exA [1,3]=4:=by decide +kernel
structure EQP (l:List RT):Prop where
 a:Short 2000 l
 b:SZ 2000 l
theorem cEqRs2 (nl:Option Bool) (l:List RT) (nm:Option Bool) (m:List RT) (h:EQP l):PurS Tryz.prog 20 [injT (.sl tR) (nl,l),injT (.sl tR) (nm,m)] (.sb (eqRs l m)):=cEqRs nl l nm m h.a h.b
theorem cAwake  : PurS Tryz.prog 11 [] (.sb true):=by
 refine PurS.of (S:=[(29,_),(17,_),(18,_),(19,_),(24,_),(26,_),(34,_),(20,_)]) (T:=[]) (U:=[]) (tbl:=[]) (n:=147) hm31 cfg (.cons (spT1.ok (a:=(.sl (.int .i64))) fun x0 h=>cRow x0.1 x0.2 h) (.cons (spT1.ok (a:=(.sl (.sl (.pair .bool (.pair (.sl (.int .u32)) (.sl (.int .u32))))))) fun x0 h=>cMSum x0.1 x0.2 h) (.cons (spT1.ok (a:=(.sl (.sl (.pair .bool (.pair (.sl (.int .u32)) (.sl (.int .u32))))))) fun x0 h=>cMWorst x0.1 x0.2 h) (.cons (spT2.ok (a:=(.sl (.sl (.pair .bool (.pair (.sl (.int .u32)) (.sl (.int .u32))))))) (b:=(.sl .bool)) fun x0 x1 h=>cMBest x0.1 x0.2 x1.1 x1.2 h) (.cons (spT2.ok (a:=(.sl (.pair (.int .u8) (.pair (.int .i64) (.int .i64))))) (b:=(.sl (.int .i64))) (pre:=fun _ _=>True) fun x0 x1 _=>cBound x0.1 x0.2 x1.1 x1.2) (.cons (spT2.ok (a:=(.sl (.pair (.int .u8) (.pair (.int .i64) (.int .i64))))) (b:=(.sl (.int .i64))) (pre:=fun _ _=>True) fun x0 x1 _=>cJoin x0.1 x0.2 x1.1 x1.2) (.cons (spT0.ok cFive) (.cons (spT2.ok (a:=(.sl (.pair .bool (.pair (.sl (.int .u32)) (.sl (.int .u32)))))) (b:=(.sl (.pair .bool (.pair (.sl (.int .u32)) (.sl (.int .u32)))))) fun x0 x1 h=>cEqRs2 x0.1 x0.2 x1.1 x1.2 h) .nil)))))))) .nil .nil .nil 0 Tryz.call11 Tryz.func11 (ac11_ok (some (0,0))) (by rw[Tryz.ntmps11];exact Nat.le_refl _) rfl ⟨_,rfl⟩ ?_
 intro cmp ar cv tn ic ai mx an ad ml sb mn ln em gt up ap sc vw cp rp p1 p2 s1 s2 X Y hX hY r0 r1 r2 r3 r4 r5 r6 r7 r8 r9 r10 r11 r12 r13 r14 r15 r16 r17 r18 r19 r20 r21 r22 r23 r24
 generalize hg0:rowL=g0
 generalize hg1:sumL=g1
 generalize hg2:sumE=g2
 generalize hg3:worL=g3
 generalize hg4:worE=g4
 generalize hg5:bstN=g5
 generalize hg6:bstE=g6
 generalize hg7:bndLo=g7
 generalize hg8:bndHi=g8
 generalize hg9:bndE=g9
 generalize hg10:joinN=g10
 generalize hg11:eqRs=g11
 cbv
 obtain ⟨L,hL⟩:∃ L:List RS,L=[(none,g0 [1,3,2]),(none,g0 [2,0,1])]:=⟨_,rfl⟩
 obtain ⟨A,hA⟩:∃ A:List AT,A=[(0,0,0),(1,10,100),(1,30,60),(2,-100,-10),(2,-5,20)]:=⟨_,rfl⟩
 have hLe:L=exL:=by rw[hL,←hg0];rfl
 have hAe:A=exA:=by rw[hA];rfl
 dsimp only
 rw[←hL,←hA]
 have w1:RWP [1,3,2]:=rwp3 s64 s64 s64
 have w2:RWP [2,0,1]:=rwp3 s64 s64 s64
 have w3:RWP [3,3,3]:=rwp3 s64 s64 s64
 have w4:RWP [2,3,2]:=rwp3 s64 s64 s64
 have kM:MC L:=by rw[hLe];exact ex_MC
 have k2:g2 L=0:=by rw[hLe,←hg2];exact ex_sum.1
 have k1:g1 L=g0 [3,3,3]:=by rw[hLe,←hg1,←hg0];exact ex_sum.2
 have k4:g4 L=0:=by rw[hLe,←hg4];exact ex_wor.1
 have k3:g3 L=g0 [2,3,2]:=by rw[hLe,←hg3,←hg0];exact ex_wor.2
 have q1:EQP (g0 [3,3,3]):=by rw[←hg0];exact ⟨⟨show 3≤2000 by decide⟩,VT.sz (rowL_VT w3)⟩
 have q2:EQP (g0 [2,3,2]):=by rw[←hg0];exact ⟨⟨show 3≤2000 by decide⟩,VT.sz (rowL_VT w4)⟩
 have t1:∀ l,g11 l l=true:=fun l=>by rw[←hg11];exact decide_eq_true rfl
 obtain ⟨b1,b2,b3,b4⟩:=ex_best
 rw[←hLe]at b1 b2 b3 b4
 rw[hg6]at b1 b3
 rw[hg5]at b2 b4
 obtain ⟨c1,c2,c3,c4,c5,c6,c7,c8⟩:=ex_bnd
 rw[←hAe]at c1 c2 c3 c4 c5 c6 c7 c8
 rw[hg9]at c1 c5
 rw[hg7]at c2 c6
 rw[hg8]at c3 c7
 rw[hg10]at c4 c8
 rw[k1,k3,t1,t1,BR_true,BR_true,k2,k4,b1,b2,b3,b4,c1,c2,c3,c4,c5,c6,c7,c8]
 have z:∀ {x:Int} {A B:Prop},A→BR (cmp .eql x x) A B:=fun h=>BR.eql r0 (fun _=>h) (fun h=>absurd rfl h)
 exact ⟨w1,w2,kM,kM,kM,kM,z ⟨w3,q1,z ⟨w4,q2,z (z (z (z (z (z (z (z (z (z (z (z (z (z trivial)))))))))))))⟩⟩⟩
end Go.Ab
namespace Go.Ab
open Go.Proofs
theorem loF_spec {l:List AT}:∀ {c:List Int} {x:Int},x≤loF l c x∧(∀ y∈c,(ownA l y).1≤loF l c x)∧(loF l c x=x∨∃ y∈c,(ownA l y).1=loF l c x)
 | [],x=>⟨Int.le_refl _,(fun y hy=>by cases hy),.inl rfl⟩
 | y :: c,x=>by
  obtain ⟨h1,h2,h3⟩:=loF_spec (l:=l) (c:=c) (x:=max x (ownA l y).1)
  rw[loF]
  refine ⟨by omega,fun z hz=>?_,?_⟩
  ·rcases List.mem_cons.1 hz with rfl | hz
   ·omega
   ·exact h2 z hz
  ·rcases h3 with h3 | ⟨z,hz,h3⟩
   ·by_cases hm:x≤(ownA l y).1
    ·exact .inr ⟨y,by simp,by omega⟩
    ·exact .inl (by omega)
   ·exact .inr ⟨z,by simp[hz],h3⟩
theorem hiF_spec {l:List AT}:∀ {c:List Int} {x:Int},hiF l c x≤x∧(∀ y∈c,hiF l c x≤(ownA l y).2)∧(hiF l c x=x∨∃ y∈c,(ownA l y).2=hiF l c x)
 | [],x=>⟨Int.le_refl _,(fun y hy=>by cases hy),.inl rfl⟩
 | y :: c,x=>by
  obtain ⟨h1,h2,h3⟩:=hiF_spec (l:=l) (c:=c) (x:=min x (ownA l y).2)
  rw[hiF]
  refine ⟨by omega,fun z hz=>?_,?_⟩
  ·rcases List.mem_cons.1 hz with rfl | hz
   ·omega
   ·exact h2 z hz
  ·rcases h3 with h3 | ⟨z,hz,h3⟩
   ·by_cases hm:(ownA l y).2≤x
    ·exact .inr ⟨y,by simp,by omega⟩
    ·exact .inl (by omega)
   ·exact .inr ⟨z,by simp[hz],h3⟩
theorem BR.two {cmp:BinOp→Int→Int→Bool} (h:cmp=cmpR) {x y u v:Int} {A Y:Prop} (hn:¬ (x<y∧u<v)) (k:Y):BR (cmp .lss x y) (BR (cmp .lss u v) A Y) Y:=BR.lss h (fun h1=>BR.lss h (fun h2=>absurd ⟨h1,h2⟩ hn) (fun _=>k)) (fun _=>k)
end Go.Ab
namespace Go.Ab
open Go.Proofs
inductive PLE:List Rat→List Rat→Prop
 | nil:PLE [] []
 | cons {x y:Rat} {a b:List Rat}:x≤y→PLE a b→PLE (x :: a) (y :: b)
theorem sumQ_perm {a b:List Rat} (h:a.Perm b):sumQ a=sumQ b:=by
 induction h with
 | nil=>rfl
 | cons x _ ih=>simp only[sumQ,ih]
 | swap x y l=>simp only[sumQ];grind
 | trans _ _ h1 h2=>exact h1.trans h2
theorem bigR_iff:∀ {r:List RT},bigR r=false↔∀ x∈r,x.2.1.2.length≤8∧x.2.2.2.length≤8
 | []=>by simp[bigR]
 | x :: r=>by
  rw[bigR,Bool.or_eq_false_iff,decide_eq_false_iff_not,bigR_iff]
  simp only[List.mem_cons,forall_eq_or_imp]
  constructor
  ·rintro ⟨h1,h2⟩;exact ⟨by omega,h2⟩
  ·rintro ⟨h1,h2⟩;exact ⟨by omega,h2⟩
theorem bigRR_iff:∀ {l:List RS},bigRR l=false↔∀ r∈l,r.2.length≤20∧∀ x∈r.2,x.2.1.2.length≤8∧x.2.2.2.length≤8
 | []=>by simp[bigRR]
 | r :: l=>by
  rw[bigRR,Bool.or_eq_false_iff,Bool.or_eq_false_iff,decide_eq_false_iff_not,bigR_iff,bigRR_iff]
  simp only[List.mem_cons,forall_eq_or_imp]
  constructor
  ·rintro ⟨⟨h1,h2⟩,h3⟩;exact ⟨⟨by omega,h1⟩,h3⟩
  ·rintro ⟨⟨h1,h2⟩,h3⟩;exact ⟨⟨h2,by omega⟩,h3⟩
structure ARGR (l:List RS):Prop where
 g:LGP l
 b:∀ r∈l,∀ x∈r.2,LB x.2.1.2∧LB x.2.2.2
theorem ARGR.mc {l:List RS} (h:ARGR l) (hl:longB l=false):MC l∧l.length≤12:=by
 unfold longB at hl
 rw[Bool.or_eq_false_iff,decide_eq_false_iff_not,bigRR_iff]at hl
 refine ⟨⟨⟨by omega⟩,⟨fun r hr=>⟨by have:=(hl.1 r hr).1;omega,⟨fun x hx=>?_⟩⟩⟩⟩,by omega⟩
 have:=(hl.1 r hr).2 x hx
 exact ⟨(h.b r hr x hx).1,(h.b r hr x hx).2,by omega,by omega⟩
theorem wf_lb {l:List Int} (h:∀ y∈l,wfT tW y):LB l:=fun x hx=>by
 have:=h x hx
 simp[wfT,Lit.wf,IntKind.min,IntKind.max,IntKind.bits,IntKind.signed]at this
 exact ⟨this.1,Int.lt_of_le_of_lt this.2 (by decide)⟩
theorem ARGR.of {l:(Ty.sl tRs).den} (h:wfT (.sl tRs) l):ARGR l.2:=by
 have hm:maxLen≤9223372036854775807:=by decide
 refine ⟨⟨Nat.le_trans h.1 hm,fun r hr=>Nat.le_trans (h.2.2 r hr).1 hm⟩,fun r hr x hx=>?_⟩
 have hx:=(h.2.2 r hr).2.2 x hx
 exact ⟨wf_lb hx.2.1.2.2,wf_lb hx.2.2.2.2⟩
end Go.Ab
namespace Go.Ab
open Go.Proofs
theorem bst_congr {f g:Int→List Rat}:∀ (A:List Bool) (i best:Int),(best<0∨f best=g best)→(∀ j:Int,i≤j→j<i+A.length→f j=g j)→bst f A i best=bst g A i best
 | [],_,_,_,_=>rfl
 | a :: A,i,best,hb,h=>by
  have hi:f i=g i:=h i (Int.le_refl _) (by rw[List.length_cons];omega)
  rw[bst,bst]
  have e:(best<0∨cmpV (f i) (f best)<0)↔(best<0∨cmpV (g i) (g best)<0):=by
   rcases hb with hb | hb
   ·simp[hb]
   ·rw[hi,hb]
  simp only[e]
  refine bst_congr A (i+1) _ ?_ fun j j0 j1=>h j (by omega) (by rw[List.length_cons];omega)
  split
  ·exact .inr hi
  ·exact hb
end Go.Ab
