/- Rows of whole costs; sizes. -/
import Derived.Test.YtlmdgmppeacobaaGreatLN
set_option linter.unusedSimpArgs false
set_option linter.unusedVariables false
set_option maxRecDepth 20000
set_option maxHeartbeats 4000000
namespace Go.Ab
open Go.Proofs
def intT (n:Int):RT:=(ngI n,(none,absL n),(none,[]))
def rowL (l:List Int):List RT:=l.map intT
structure RWP (l:List Int):Prop where
 n:l.length≤2000
 h:∀ x∈l,I64 x
theorem cRow (nl:Option Bool) (l:List Int) (h:RWP l):PurS Tryz.prog 29 [injT (.sl tI) (nl,l)] (.tl none tR (rowL l)):=by
 refine PurS.of (S:=[(55,_)]) (T:=[]) (U:=[]) (tbl:=[]) (n:=20) hm31 cfg (.cons (spT1.ok (a:=(.int .i64)) fun x0 h=>cRRFrom x0 h) .nil) .nil .nil .nil 0 Tryz.call29 Tryz.func29 (ac29_ok (some (0,0))) (by rw[Tryz.ntmps29];exact Nat.le_refl _) rfl ⟨_,rfl⟩ ?_
 intro cmp ar cv tn ic ai mx an ad ml sb mn ln em gt up ap sc vw cp rp p1 p2 s1 s2 X Y hX hY r0 r1 r2 r3 r4 r5 r6 r7 r8 r9 r10 r11 r12 r13 r14 r15 r16 r17 r18 r19 r20 r21 r22 r23 r24
 generalize hg0:ngI=g0
 generalize hg1:absL=g1
 generalize hg2:rowL=g2
 cbv
 have hn:=h.n
 obtain ⟨N,hN⟩:∃ N:Int,N=l.length:=⟨_,rfl⟩
 have hll:ic (ln tI l)=N:=by rw[r4,r12,hN]
 have e2:g2 l=l.map intT:=by rw[←hg2];rfl
 refine LOOP.ind (σ:=List RT×Int) (fun (O,i)=>[(0,.tl nl tI l),(3,.og 0 tR O),(4,.p (iv i))]) (fun (O,_)=>⟨[],[(ml (ln tR O) 3,49)]⟩) (fun (_,i)=>(N - i).toNat)
  (fun (O,i)=>0≤i∧i≤N∧O.length=i∧O ++ (l.drop i.toNat).map intT=g2 l) ([],0) ⟨by omega,by show (0:Int)≤N;omega,rfl,by rw[e2];rfl⟩ (.inr ⟨[],[none],?_⟩) ?_
 ·rw[SIM_iff];cbv;simp[nlLe_self,lstEq]
 intro ⟨O,i⟩ ⟨i0,i1,i2,i3⟩ X' hX
 obtain ⟨x,hx⟩:∃ x:Int,x=gt tI l i:=⟨_,rfl⟩
 obtain ⟨y,hy⟩:∃ y:RT,y=(g0 x,(none,g1 x),(none,[])):=⟨_,rfl⟩
 have hy':y=intT x:=by rw[hy,←hg0,←hg1];rfl
 have hst:i<N→O ++ (y :: (l.drop (i+1).toNat).map intT)=g2 l:=fun h1=>by
  rw[gtR_drop (t:=tI) i0 (by omega),show gtR tI l i=x by rw[hx,r14],List.map_cons,←hy']at i3;exact i3
 have hse:¬ i<N→O=g2 l:=fun h1=>by rw[gtR_end (by omega),List.map_nil,List.append_nil]at i3;exact i3
 have hxi:i<N→I64 x:=fun h1=>h.h x (by rw[hx,r14];exact gtR_mem (t:=tI) i0 (by omega))
 have hi1:i<N→ar .add .i64 i 1=i+1:=fun h2=>by rw[r1];exact wrap64 (n:=i+1) (by omega) (by omega)
 have hap:ap tR O [y]=O ++ [y]:=by rw[r16]
 have had:ad (ln tR O) (ln tR [y])=O.length+1:=by rw[r8,r12];rfl
 have hnx:i<N→∀ O',O'=O ++ [y]→NEXT X' [(0,.tl nl tI l),(3,.og 0 tR O'),(4,.p (iv (i+1)))] ⟨[],[(ml (ln tR O') 3,49)]⟩:=fun h1 O' hO=>by
  have hl:O'.length=O.length+1:=by rw[hO,List.length_append];rfl
  refine NEXT.mk (hX (O',i+1) _ _ ⟨by omega,by show i+1≤N;omega,by show (O'.length:Int)=i+1;omega,?_⟩ (by show (N - (i+1)).toNat<(N - i).toNat;omega) (.inl ⟨rfl,rfl⟩))
  show O' ++ (l.drop (i+1).toNat).map intT=g2 l
  rw[hO,List.append_assoc];exact hst h1
 clear hX i3 hst hy'
 cbv
 try simp only[nc_eq]at *
 rw[hll,←hx,←hy,had,hap]
 refine BR.lss r0 (fun h1=>?_) (fun h1=>⟨nlLe_none.2 trivial,hse h1⟩)
 have hI:INB i N:=⟨i0,h1⟩
 rw[hi1 h1]
 exact ⟨hI,hI,hxi h1,⟨rfl⟩,LIM_iff.2 ⟨by omega,by omega⟩,hnx h1 _ rfl⟩
def bigR:List RT→Bool
 | []=>false
 | x :: r=>decide (x.2.1.2.length>8∨x.2.2.2.length>8) || bigR r
def bigRR:List RS→Bool
 | []=>false
 | r :: l=>bigR r.2 || decide (r.2.length>20) || bigRR l
def longB (l:List RS):Bool:=bigRR l || decide (l.length>12)
structure LGP (l:List RS):Prop where
 n:l.length≤9223372036854775807
 h:∀ r∈l,r.2.length≤9223372036854775807
theorem cLong (nl:Option Bool) (l:List RS) (h:LGP l):PurS Tryz.prog 10 [injT (.sl tRs) (nl,l)] (.sb (longB l)):=by
 refine PurS.of (S:=[]) (T:=[]) (U:=[]) (tbl:=[]) (n:=51) hm31 cfg .nil .nil .nil .nil 0 Tryz.call10 Tryz.func10 (ac10_ok (some (0,0))) (by rw[Tryz.ntmps10];exact Nat.le_refl _) rfl ⟨_,rfl⟩ ?_
 intro cmp ar cv tn ic ai mx an ad ml sb mn ln em gt up ap sc vw cp rp p1 p2 s1 s2 X Y hX hY r0 r1 r2 r3 r4 r5 r6 r7 r8 r9 r10 r11 r12 r13 r14 r15 r16 r17 r18 r19 r20 r21 r22 r23 r24
 generalize hg0:longB=g0
 cbv
 have hn:=h.n
 obtain ⟨N,hN⟩:∃ N:Int,N=l.length:=⟨_,rfl⟩
 have hll:ic (ln tRs l)=N:=by rw[r4,r12,hN]
 have e0:g0 l=(bigRR l || decide (l.length>12)):=by rw[←hg0];rfl
 obtain ⟨Z,hZ⟩:∃ Z,Z=g0 l:=⟨_,rfl⟩
 rw[←hZ]at e0 ⊢
 obtain ⟨D,hD⟩:∃ D,D=decide (l.length>12):=⟨_,rfl⟩
 rw[←hD]at e0
 refine LOOP.ind (σ:=Int) (fun i=>[(0,.tl nl tRs l),(3,.p (iv i))]) (fun _=>⟨[],[]⟩) (fun i=>(N - i).toNat) (fun i=>0≤i∧i≤N∧Z=(bigRR (l.drop i.toNat) || D)) 0 ⟨by omega,by omega,e0⟩ (.inl ⟨rfl,rfl⟩) ?_
 intro i ⟨i0,i1,i2⟩ X' hX
 obtain ⟨r,hr⟩:∃ r,r=s2 tR (gt tRs l i):=⟨_,rfl⟩
 obtain ⟨M,hM⟩:∃ M:Int,M=r.length:=⟨_,rfl⟩
 have hlr:ic (ln tR r)=M:=by rw[r4,r12,hM]
 have hr':r=(gtR tRs l i).2:=by rw[hr,r24,r14]
 obtain ⟨W,hW⟩:∃ W,W=(decide (r.length>20) || bigRR (l.drop (i+1).toNat) || D):=⟨_,rfl⟩
 have hst:i<N→Z=(bigR r || W):=fun h1=>by
  rw[i2,gtR_drop (t:=tRs) i0 (by omega),bigRR,←hr',hW,Bool.or_assoc,Bool.or_assoc,Bool.or_assoc]
 have hW2:r.length≤20→W=(bigRR (l.drop (i+1).toNat) || D):=fun h1=>by rw[hW,decide_eq_false (by omega),Bool.false_or]
 have hW1:r.length>20→W=true:=fun h1=>by rw[hW,decide_eq_true h1,Bool.true_or,Bool.true_or]
 have hse:¬ i<N→Z=D:=fun h1=>by rw[i2,gtR_end (by omega),bigRR,Bool.false_or]
 have hrl:i<N→r.length≤9223372036854775807:=fun h1=>by rw[hr'];exact h.h _ (gtR_mem (t:=tRs) i0 (by omega))
 have hi1:i<N→ar .add .i64 i 1=i+1:=fun h2=>by rw[r1];exact wrap64 (n:=i+1) (by omega) (by omega)
 have hnx:i<N→r.length≤20→Z=W→NEXT X' [(0,.tl nl tRs l),(3,.p (iv (i+1)))] ⟨[],[]⟩:=fun h1 h2 h3=>NEXT.mk (hX (i+1) _ _ ⟨by omega,by omega,by rw[h3,hW2 h2]⟩ (by show (N - (i+1)).toNat<(N - i).toNat;omega) (.inl ⟨rfl,rfl⟩))
 clear hX i2 hW hW2 hr'
 cbv
 try simp only[nc_eq]at *
 rw[hll]
 refine BR.lss r0 (fun h1=>?_) (fun h1=>?_)
 ·have hst:=hst h1
  have hn1:=hnx h1
  refine LOOP.ind (σ:=Int) (fun j=>[(0,.tl nl tRs l),(3,.p (iv i)),(4,.p (iv j))]) (fun _=>⟨[],[]⟩) (fun j=>(M - j).toNat) (fun j=>0≤j∧j≤M∧Z=(bigR (r.drop j.toNat) || W)) 0 ⟨by omega,by omega,hst⟩ (.inl ⟨rfl,rfl⟩) ?_
  intro j ⟨j0,j1,j2⟩ X2 hX2
  obtain ⟨x,hx⟩:∃ x:RT,x=gt tR r j:=⟨_,rfl⟩
  obtain ⟨nI,hnI⟩:∃ z:Int,z=x.2.1.2.length:=⟨_,rfl⟩
  obtain ⟨nB,hnB⟩:∃ z:Int,z=x.2.2.2.length:=⟨_,rfl⟩
  have hnI':ic (ln tW x.2.1.2)=nI:=by rw[r4,r12,hnI]
  have hnB':ic (ln tW x.2.2.2)=nB:=by rw[r4,r12,hnB]
  obtain ⟨R,hR⟩:∃ R,R=bigR (r.drop (j+1).toNat):=⟨_,rfl⟩
  have hst2:j<M→Z=(decide (nI>8∨nB>8) || (R || W)):=fun h2=>by
   rw[j2,gtR_drop (t:=tR) j0 (by omega),show gtR tR r j=x by rw[hx,r14],bigR,←hR,Bool.or_assoc,decide_eq_decide.2 (show (x.2.1.2.length>8∨x.2.2.2.length>8)↔(nI>8∨nB>8) by omega)]
  have hse2:¬ j<M→Z=W:=fun h2=>by rw[j2,gtR_end (by omega),bigR,Bool.false_or]
  have hj1:j<M→ar .add .i64 j 1=j+1:=fun h2=>by have:=hrl h1;rw[r1];exact wrap64 (n:=j+1) (by omega) (by omega)
  have hnx2:j<M→Z=(R || W)→NEXT X2 [(0,.tl nl tRs l),(3,.p (iv i)),(4,.p (iv (j+1)))] ⟨[],[]⟩:=fun h2 h3=>NEXT.mk (hX2 (j+1) _ _ ⟨by omega,by omega,by rw[h3,hR]⟩ (by show (M - (j+1)).toNat<(M - j).toNat;omega) (.inl ⟨rfl,rfl⟩))
  clear hX2 j2 hR hnI hnB
  obtain ⟨s,⟨na',a'⟩,⟨nb',b'⟩⟩:=x
  dsimp only at hnI' hnB'
  cbv
  try simp only[nc_eq]at *
  rw[hll,←hr,hlr,←hx]
  simp only[r21,r22,r23,r24]
  rw[hnI',hnB',hi1 h1]
  have hI:INB i N:=⟨i0,h1⟩
  refine ⟨hI,hI,BR.lss r0 (fun h2=>?_) (fun h2=>⟨hI,hI,BR.gtr r0 (fun h3=>?_) (fun h3=>?_)⟩)⟩
  ·have hJ:INB j M:=⟨j0,h2⟩
   have hs2:=hst2 h2
   rw[hj1 h2]
   refine ⟨hI,hI,hJ,hJ,BR.gtr r0 (fun h3=>?_) (fun h3=>⟨hI,hI,hJ,hJ,BR.gtr r0 (fun h4=>?_) (fun h4=>hnx2 h2 ?_)⟩)⟩
   ·rw[decide_eq_true (.inl h3),Bool.true_or]at hs2;exact hs2.symm
   ·rw[decide_eq_true (.inr h4),Bool.true_or]at hs2;exact hs2.symm
   ·rw[decide_eq_false (by omega),Bool.false_or]at hs2;exact hs2
  ·rw[hse2 h2,hW1 (by omega)]
  ·exact hn1 (by omega) (hse2 h2)
 ·rw[hse h1,hD]
  exact BR.gtr r0 (fun h2=>(decide_eq_true (by omega)).symm) (fun h2=>(decide_eq_false (by omega)).symm)
theorem cFive  : PurS Tryz.prog 34 [] (.tl none tA [(0,0,0),(1,10,100),(1,30,60),(2,-100,-10),(2,-5,20)]):=by
 refine PurS.of (S:=[]) (T:=[]) (U:=[]) (tbl:=[]) (n:=7) hm31 cfg .nil .nil .nil .nil 0 Tryz.call34 Tryz.func34 (ac34_ok (some (0,0))) (by rw[Tryz.ntmps34];exact Nat.le_refl _) rfl ⟨_,rfl⟩ ?_
 intro cmp ar cv tn ic ai mx an ad ml sb mn ln em gt up ap sc vw cp rp p1 p2 s1 s2 X Y hX hY r0 r1 r2 r3 r4 r5 r6 r7 r8 r9 r10 r11 r12 r13 r14 r15 r16 r17 r18 r19 r20 r21 r22 r23 r24
 cbv
 exact ⟨nlLe_none.2 trivial,rfl⟩
end Go.Ab
