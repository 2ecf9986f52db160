/- Advisories: checks,bounds,the least and the greatest number. -/
import Derived.Test.YtlmdgmppeacobaaGreatLH
set_option linter.unusedSimpArgs false
set_option linter.unusedVariables false
set_option maxRecDepth 20000
set_option maxHeartbeats 4000000
namespace Go.Ab
open Go.Proofs
abbrev tA:Ty:=.pair tB (.pair tI tI)
abbrev AT:=tA.den
def chkA (x:AT):Int:=if (x.1:Int)≠1∧(x.1:Int)≠2 then 6 else if (x.2.1:Int)>x.2.2∨(x.2.1:Int) < -100∨(x.2.2:Int)>100 then 1 else 0
def feA:List AT→Int
 | []=>0
 | x :: l=>if chkA x≠0 then chkA x else feA l
def advE (l:List AT):Int:=if l.length=0 then 3 else if l.length>6 then 4 else feA (l.drop 1)
def mniF:Int→List Int→Int
 | m,[]=>m
 | m,x :: l=>mniF (min m x) l
def mxiF:Int→List Int→Int
 | m,[]=>m
 | m,x :: l=>mxiF (max m x) l
def mniL (l:List Int):Int:=mniF (gtR tI l 0) (l.drop 1)
def mxiL (l:List Int):Int:=mxiF (gtR tI l 0) (l.drop 1)
def bndS (l:List AT) (b:Int):Int:=if b=0 then 0 else (gtR tA l b).1
structure IXP (l:List AT) (b:Int):Prop where
 a:0≤b
 b:b=0∨b<l.length
structure MNK (l:List Int):Prop where
 ne:l≠[]
 s:l.length≤2000
def ownA (l:List AT) (b:Int):Int×Int:=if b=0 then (-100,100) else (gtR tA l b).2
theorem chkA_nz (a b c w:Int):(if chkA (a,b,c)≠0 then chkA (a,b,c) else w)=if a≠1∧a≠2 then 6 else if b>c∨b < -100∨c>100 then 1 else w:=by
 have hc:chkA (a,b,c)=if a≠1∧a≠2 then 6 else if b>c∨b < -100∨c>100 then 1 else 0:=rfl
 rw[hc]
 by_cases h1:a≠1∧a≠2
 ·simp only[if_pos h1];rfl
 ·simp only[if_neg h1]
  by_cases h2:b>c∨b < -100∨c>100
  ·simp only[if_pos h2];rfl
  ·simp only[if_neg h2];rfl
theorem cAdv (nl:Option Bool) (l:List AT):PurS Tryz.prog 30 [injT (.sl tA) (nl,l)] (.p (iv (advE l))):=by
 refine PurS.of (S:=[]) (T:=[]) (U:=[]) (tbl:=[]) (n:=46) hm31 cfg .nil .nil .nil .nil 0 Tryz.call30 Tryz.func30 (ac30_ok (some (0,0))) (by rw[Tryz.ntmps30];exact Nat.le_refl _) rfl ⟨_,rfl⟩ ?_
 intro cmp ar cv tn ic ai mx an ad ml sb mn ln em gt up ap sc vw cp rp p1 p2 s1 s2 X Y hX hY r0 r1 r2 r3 r4 r5 r6 r7 r8 r9 r10 r11 r12 r13 r14 r15 r16 r17 r18 r19 r20 r21 r22 r23 r24
 generalize hg0:advE=g0
 cbv
 have hll:ic (ln tA l)=l.length:=by rw[r4,r12]
 obtain ⟨r,hr⟩:∃ r,r=sc tA l 1 (ic (ln tA l)):=⟨_,rfl⟩
 have hr':r=l.drop 1:=by rw[hr,r17,hll];show (l.take (l.length:Int).toNat).drop 1=_;rw[List.take_of_length_le (by omega)]
 obtain ⟨N,hN⟩:∃ N:Int,N=r.length:=⟨_,rfl⟩
 have hrl:ic (ln tA r)=N:=by rw[r4,r12,hN]
 have hNl:0<l.length→N=l.length - 1:=fun h=>by rw[hN,hr',List.length_drop];omega
 have e0:g0 l=if l.length=0 then 3 else if l.length>6 then 4 else feA r:=by rw[←hg0,hr'];rfl
 obtain ⟨z,hz⟩:∃ z,z=feA r:=⟨_,rfl⟩
 rw[←hz]at e0
 rw[←hr,hrl,hll]
 refine BR.eql r0 (fun h1=>?_) (fun h1=>BR.gtr r0 (fun h2=>?_) (fun h2=>⟨⟨by omega,by omega,by omega⟩,?_⟩))
 ·rw[if_pos (by omega)]at e0;exact e0.symm
 ·rw[if_neg (by omega),if_pos (by omega)]at e0;exact e0.symm
 rw[if_neg (by omega),if_neg (by omega)]at e0
 have hNN:=hNl (by omega)
 rw[e0]
 refine LOOP.ind (σ:=Int) (fun i=>[(14,.tl nl tA r),(15,.p (iv N)),(16,.p (iv i))]) (fun _=>⟨[],[]⟩) (fun i=>(N - i).toNat) (fun i=>0≤i∧i≤N∧feA (r.drop i.toNat)=z) 0 ⟨by omega,by omega,hz.symm⟩ (.inl ⟨rfl,rfl⟩) ?_
 intro i ⟨i0,i1,i2⟩ X' hX
 obtain ⟨x,hx⟩:∃ x:AT,x=gt tA r i:=⟨_,rfl⟩
 have hst:i<N→feA (r.drop i.toNat)=if chkA x≠0 then chkA x else feA (r.drop (i+1).toNat):=fun h=>by
  rw[gtR_drop (t:=tA) i0 (by omega),show gtR tA r i=x by rw[hx,r14]];rfl
 have hse:¬ i<N→feA (r.drop i.toNat)=0:=fun h=>by rw[gtR_end (by omega)];rfl
 have hi1:i<N→ar .add .i64 i 1=i+1:=fun h=>by rw[r1];exact wrap64 (n:=i+1) (by omega) (by omega)
 obtain ⟨a,b,c⟩:=x
 change Int at a b c
 obtain ⟨w,hw⟩:∃ w,w=feA (r.drop (i+1).toNat):=⟨_,rfl⟩
 rw[←hw,chkA_nz]at hst
 have hnx:∀ B,i<N→w=z→NEXT X' [(14,.tl nl tA r),(15,.p (iv N)),(16,.p (iv (i+1)))] ⟨[B],[]⟩:=fun B h h2=>NEXT.mk (hX (i+1) _ _ ⟨by omega,by omega,by rw[←hw];exact h2⟩ (by show (N - (i+1)).toNat<(N - i).toNat;omega) (.inr ⟨[],[],by rw[SIM_iff];cbv;simp[nlLe_self]⟩))
 rw[i2]at hst hse
 clear i2 hw hz hX
 cbv
 try simp only[nc_eq]at *
 rw[hrl,←hx]
 simp only[r21,r22]
 refine BR.lss r0 (fun h1=>?_) (fun h1=>(hse h1).symm)
 have hI:INB i N:=⟨i0,h1⟩
 have hst:=hst h1
 rw[hi1 h1]
 have fin:∀ st,(w=z→NEXT X' [(14,.tl nl tA r),(15,.p (iv N)),(16,.p (iv (i+1)))] st)→(a=1∨a=2)→BR (cmp .gtr b c) (1=z) (BR (cmp .lss b (-100)) (1=z) (BR (cmp .gtr c 100) (1=z) (NEXT X' [(14,.tl nl tA r),(15,.p (iv N)),(16,.p (iv (i+1)))] st))):=fun st hn ha=>by
  rw[if_neg (show ¬ (¬ a=1∧¬ a=2) by omega)]at hst
  refine BR.gtr r0 (fun h3=>?_) (fun h3=>BR.lss r0 (fun h4=>?_) (fun h4=>BR.gtr r0 (fun h5=>?_) (fun h5=>hn ?_)))
  ·rw[if_pos (by omega)]at hst;exact hst.symm
  ·rw[if_pos (by omega)]at hst;exact hst.symm
  ·rw[if_pos (by omega)]at hst;exact hst.symm
  ·rw[if_neg (by omega)]at hst;exact hst.symm
 refine ⟨hI,hI,BR.neq r0 (fun h2=>BR.neq r0 (fun h3=>?_) (fun h3=>fin _ (hnx _ h1) (by omega))) (fun h2=>fin _ (hnx _ h1) (by omega))⟩
 rw[if_pos (by omega)]at hst;exact hst.symm
theorem cMin (nl:Option Bool) (l:List Int) (h:MNK l):PurS Tryz.prog 48 [injT (.sl tI) (nl,l)] (.p (iv (mniL l))):=by
 refine PurS.of (S:=[]) (T:=[]) (U:=[]) (tbl:=[]) (n:=25) hm31 cfg .nil .nil .nil .nil 0 Tryz.call48 Tryz.func48 (ac48_ok (some (0,0))) (by rw[Tryz.ntmps48];exact Nat.le_refl _) rfl ⟨_,rfl⟩ ?_
 intro cmp ar cv tn ic ai mx an ad ml sb mn ln em gt up ap sc vw cp rp p1 p2 s1 s2 X Y hX hY r0 r1 r2 r3 r4 r5 r6 r7 r8 r9 r10 r11 r12 r13 r14 r15 r16 r17 r18 r19 r20 r21 r22 r23 r24
 generalize hg0:mniL=g0
 cbv
 have hs:=h.s
 have h0:=h.ne
 have hp:=List.length_pos_iff.2 h0
 have hll:ic (ln tI l)=l.length:=by rw[r4,r12]
 obtain ⟨N,hN⟩:∃ N:Int,N=l.length:=⟨_,rfl⟩
 rw[←hN]at hll
 have e0:g0 l=mniF (gtR tI l 0) (l.drop 1):=by rw[←hg0];rfl
 rw[hll]
 have hI0:INB 0 N:=⟨Int.le_refl _,by omega⟩
 refine BR.lss r0 (fun h=>absurd h (by omega)) (fun _=>⟨hI0,hI0,?_⟩)
 refine LOOP.ind (σ:=Int×Int) (fun (m,i)=>[(0,.tl nl tI l),(3,.p (iv m)),(4,.p (iv i))]) (fun _=>⟨[],[]⟩) (fun (_,i)=>(N - i).toNat) (fun (m,i)=>1≤i∧i≤N∧mniF m (l.drop i.toNat)=g0 l) (gt tI l 0,1) ⟨by omega,by omega,by rw[e0,r14];rfl⟩ (.inl ⟨rfl,rfl⟩) ?_
 intro ⟨m,i⟩ ⟨i0,i1,i2⟩ X' hX
 change Int at m
 obtain ⟨x,hx⟩:∃ x:Int,x=gt tI l i:=⟨_,rfl⟩
 have hst:i<N→mniF m (l.drop i.toNat)=mniF (min m x) (l.drop (i+1).toNat):=fun h=>by rw[gtR_drop (t:=tI) (by omega) (by omega),hx,r14];rfl
 have hse:¬ i<N→mniF m (l.drop i.toNat)=m:=fun h=>by rw[gtR_end (by omega)];rfl
 have hi1:i<N→ar .add .i64 i 1=i+1:=fun h=>by rw[r1];exact wrap64 (n:=i+1) (by omega) (by omega)
 rw[i2]at hst hse
 have hmx:mx false m x=min m x:=by rw[r6];unfold mxR;simp only[Bool.false_eq_true,if_false,if_true];omega
 cbv
 try simp only[nc_eq]at *
 rw[hll,←hx]
 refine BR.lss r0 (fun h1=>?_) (fun h1=>(hse h1).symm)
 have hI:INB i N:=⟨by omega,h1⟩
 rw[hi1 h1]
 try rw[hmx]
 exact ⟨hI,hI,NEXT.mk (hX (min m x,i+1) _ _ ⟨by omega,by omega,(hst h1).symm⟩ (by show (N - (i+1)).toNat<(N - i).toNat;omega) (.inl ⟨rfl,rfl⟩))⟩
theorem cMax (nl:Option Bool) (l:List Int) (h:MNK l):PurS Tryz.prog 49 [injT (.sl tI) (nl,l)] (.p (iv (mxiL l))):=by
 refine PurS.of (S:=[]) (T:=[]) (U:=[]) (tbl:=[]) (n:=25) hm31 cfg .nil .nil .nil .nil 0 Tryz.call49 Tryz.func49 (ac49_ok (some (0,0))) (by rw[Tryz.ntmps49];exact Nat.le_refl _) rfl ⟨_,rfl⟩ ?_
 intro cmp ar cv tn ic ai mx an ad ml sb mn ln em gt up ap sc vw cp rp p1 p2 s1 s2 X Y hX hY r0 r1 r2 r3 r4 r5 r6 r7 r8 r9 r10 r11 r12 r13 r14 r15 r16 r17 r18 r19 r20 r21 r22 r23 r24
 generalize hg0:mxiL=g0
 cbv
 have hs:=h.s
 have h0:=h.ne
 have hp:=List.length_pos_iff.2 h0
 have hll:ic (ln tI l)=l.length:=by rw[r4,r12]
 obtain ⟨N,hN⟩:∃ N:Int,N=l.length:=⟨_,rfl⟩
 rw[←hN]at hll
 have e0:g0 l=mxiF (gtR tI l 0) (l.drop 1):=by rw[←hg0];rfl
 rw[hll]
 have hI0:INB 0 N:=⟨Int.le_refl _,by omega⟩
 refine BR.lss r0 (fun h=>absurd h (by omega)) (fun _=>⟨hI0,hI0,?_⟩)
 refine LOOP.ind (σ:=Int×Int) (fun (m,i)=>[(0,.tl nl tI l),(3,.p (iv m)),(4,.p (iv i))]) (fun _=>⟨[],[]⟩) (fun (_,i)=>(N - i).toNat) (fun (m,i)=>1≤i∧i≤N∧mxiF m (l.drop i.toNat)=g0 l) (gt tI l 0,1) ⟨by omega,by omega,by rw[e0,r14];rfl⟩ (.inl ⟨rfl,rfl⟩) ?_
 intro ⟨m,i⟩ ⟨i0,i1,i2⟩ X' hX
 change Int at m
 obtain ⟨x,hx⟩:∃ x:Int,x=gt tI l i:=⟨_,rfl⟩
 have hst:i<N→mxiF m (l.drop i.toNat)=mxiF (max m x) (l.drop (i+1).toNat):=fun h=>by rw[gtR_drop (t:=tI) (by omega) (by omega),hx,r14];rfl
 have hse:¬ i<N→mxiF m (l.drop i.toNat)=m:=fun h=>by rw[gtR_end (by omega)];rfl
 have hi1:i<N→ar .add .i64 i 1=i+1:=fun h=>by rw[r1];exact wrap64 (n:=i+1) (by omega) (by omega)
 rw[i2]at hst hse
 have hmx:mx true m x=max m x:=by rw[r6];unfold mxR;simp only[Bool.false_eq_true,if_false,if_true];omega
 cbv
 try simp only[nc_eq]at *
 rw[hll,←hx]
 refine BR.lss r0 (fun h1=>?_) (fun h1=>(hse h1).symm)
 have hI:INB i N:=⟨by omega,h1⟩
 rw[hi1 h1]
 try rw[hmx]
 exact ⟨hI,hI,NEXT.mk (hX (max m x,i+1) _ _ ⟨by omega,by omega,(hst h1).symm⟩ (by show (N - (i+1)).toNat<(N - i).toNat;omega) (.inl ⟨rfl,rfl⟩))⟩
theorem cBnds (nl:Option Bool) (l:List AT) (b:Int) (h:IXP l b):PurS Tryz.prog 50 [injT (.sl tA) (nl,l),injT tI b] (.agg [.p (.v (.int .u8 (bndS l b))),.p (iv (ownA l b).1),.p (iv (ownA l b).2)]):=by
 refine PurS.of (S:=[]) (T:=[]) (U:=[]) (tbl:=[]) (n:=12) hm31 cfg .nil .nil .nil .nil 0 Tryz.call50 Tryz.func50 (ac50_ok (some (0,0))) (by rw[Tryz.ntmps50];exact Nat.le_refl _) rfl ⟨_,rfl⟩ ?_
 intro cmp ar cv tn ic ai mx an ad ml sb mn ln em gt up ap sc vw cp rp p1 p2 s1 s2 X Y hX hY r0 r1 r2 r3 r4 r5 r6 r7 r8 r9 r10 r11 r12 r13 r14 r15 r16 r17 r18 r19 r20 r21 r22 r23 r24
 generalize hg0:bndS=g0
 generalize hg1:ownA=g1
 cbv
 have hll:ic (ln tA l)=l.length:=by rw[r4,r12]
 obtain ⟨x,hx⟩:∃ x:AT,x=gt tA l b:=⟨_,rfl⟩
 have e0:g0 l b=if b=0 then 0 else x.1:=by rw[←hg0,hx,r14];rfl
 have e1:g1 l b=if b=0 then (-100,100) else x.2:=by rw[←hg1,hx,r14];rfl
 rw[hll,←hx]
 simp only[r21,r22]
 refine BR.eql r0 (fun h1=>?_) (fun h1=>?_)
 ·rw[e0,e1,if_pos h1,if_pos h1];exact ⟨rfl,rfl,rfl,trivial⟩
 ·rw[e0,e1,if_neg h1,if_neg h1]
  have:=h.a;have:=h.b
  have hI:INB b l.length:=⟨by omega,by omega⟩
  exact ⟨hI,hI,rfl,rfl,rfl,trivial⟩
end Go.Ab
namespace Go.Ab
open Go.Proofs
structure LSP (a b:List RT):Prop where
 n:a.length≤2000
 e:b.length=a.length
 va:∀ x∈a,VT x
 vb:∀ x∈b,VT x
end Go.Ab
namespace Go.Ab
open Go.Proofs
end Go.Ab
namespace Go.Ab
open Go.Proofs
structure BSA (A:List Bool):Prop where
 n:A.length≤100000
theorem cMBest (nl:Option Bool) (l:List RS) (na:Option Bool) (A:List Bool) (h:MC l):PurS Tryz.prog 19 [injT (.sl tRs) (nl,l),injT (.sl .bool) (na,A)] (.tup [.p (iv (bstN l A)),.p (iv (bstE l A))]):=by
 refine PurS.of (S:=[(43,_),(44,_),(45,_)]) (T:=[]) (U:=[]) (tbl:=[]) (n:=69) hm31 cfg (.cons (spT1.ok (a:=(.sl (.sl (.pair .bool (.pair (.sl (.int .u32)) (.sl (.int .u32))))))) fun x0 h=>cMChk x0.1 x0.2 h) (.cons (spT2.ok (a:=(.sl (.sl (.pair .bool (.pair (.sl (.int .u32)) (.sl (.int .u32))))))) (b:=(.int .i64)) fun x0 x1 h=>cProf x0.1 x0.2 x1 h) (.cons (spT2.ok (a:=(.pair .bool (.pair (.sl (.int .u32)) (.sl (.int .u32))))) (b:=(.pair .bool (.pair (.sl (.int .u32)) (.sl (.int .u32))))) fun x0 x1 h=>cCompare x0.1 x0.2.1.1 x0.2.1.2 x0.2.2.1 x0.2.2.2 x1.1 x1.2.1.1 x1.2.1.2 x1.2.2.1 x1.2.2.2 h) .nil))) .nil .nil .nil 0 Tryz.call19 Tryz.func19 (ac19_ok (some (0,0))) (by rw[Tryz.ntmps19];exact Nat.le_refl _) rfl ⟨_,rfl⟩ ?_
 intro cmp ar cv tn ic ai mx an ad ml sb mn ln em gt up ap sc vw cp rp p1 p2 s1 s2 X Y hX hY r0 r1 r2 r3 r4 r5 r6 r7 r8 r9 r10 r11 r12 r13 r14 r15 r16 r17 r18 r19 r20 r21 r22 r23 r24
 generalize hg0:mchk=g0
 generalize hg1:proL=g1
 generalize hg2:cmR=g2
 generalize hg3:bstN=g3
 generalize hg4:bstE=g4
 cbv
 have hll:ic (ln tRs l)=l.length:=by rw[r4,r12]
 obtain ⟨M,hM⟩:∃ M,M=ic (ln tR (s2 tR (gt tRs l 0))):=⟨_,rfl⟩
 have hM':M=(row0 l).length:=by rw[hM,r4,r12,r24,r14];rfl
 obtain ⟨N,hN⟩:∃ N:Int,N=A.length:=⟨_,rfl⟩
 have hla:ic (ln .bool A)=N:=by rw[r4,r12,hN]
 have e0:g0 l=mchk l:=by rw[←hg0]
 have e4:g4 l A=if mchk l≠0 then mchk l else if A.length≠(row0 l).length then 16 else if bst (valP l) A 0 (-1)<0 then 9 else 0:=by rw[←hg4];rfl
 have e3:g3 l A=if g4 l A=0 then bst (valP l) A 0 (-1) else 0:=by rw[←hg3,←hg4];rfl
 refine ⟨h,BR.neq r0 (fun h1=>?_) (fun h1=>?_)⟩
 ·rw[e0]at h1
  rw[if_pos h1]at e4
  rw[e4,if_neg h1]at e3
  exact ⟨e3.symm,e0.trans e4.symm,trivial⟩
 have h1:mchk l=0:=by rw[←e0];exact Classical.not_not.1 h1
 rw[if_neg (fun h=>h h1)]at e4
 have hC:=h.cost h1
 obtain ⟨n,hn⟩:∃ n:Nat,n=(row0 l).length:=⟨_,rfl⟩
 rw[←hn]at e4 hC hM'
 have hm6:=hC.m6
 have hn8:=hC.n8
 have hn0:=hC.n0
 have hI0:INB 0 l.length:=⟨Int.le_refl _,by omega⟩
 rw[hll,←hM,hla]
 refine ⟨hI0,hI0,BR.neq r0 (fun h2=>?_) (fun h2=>?_)⟩
 ·rw[if_pos (by omega)]at e4
  rw[e4,if_neg (by decide)]at e3
  exact ⟨e3.symm,e4.symm,trivial⟩
 rw[if_neg (by omega)]at e4
 obtain ⟨B,hB⟩:∃ B,B=bst (valP l) A 0 (-1):=⟨_,rfl⟩
 rw[←hB]at e3 e4
 refine LOOP.ind (σ:=Int×List RT×Int) (fun (best,L,i)=>[(0,.tl nl tRs l),(7,.p (iv best)),(8,.tl none tR L),(26,.tl na .bool A),(27,.p (iv N)),(28,.p (iv i))]) (fun _=>⟨[],[]⟩) (fun (_,_,i)=>(N - i).toNat)
  (fun (best,L,i)=>0≤i∧i≤N∧bst (valP l) (A.drop i.toNat) i best=B∧((best = -1∧L=[])∨(0≤best∧best<i∧L=proL l best))) (-1,[],0) ⟨by omega,by show (0:Int)≤N;omega,hB.symm,.inl ⟨rfl,rfl⟩⟩ (.inr ⟨[],[],?_⟩) ?_
 ·rw[SIM_iff];cbv;try simp[nlLe_self,lstEq,nlLe_none]
 intro ⟨best,L,i⟩ ⟨i0,i1,i2,i3⟩ X' hX
 obtain ⟨a,ha⟩:∃ a:Bool,a=gt .bool A i:=⟨_,rfl⟩
 obtain ⟨P,hP⟩:∃ P:List RT,P=g1 l i:=⟨_,rfl⟩
 have hP':P=proL l i:=by rw[hP,←hg1]
 obtain ⟨C,hCC⟩:∃ C,C=cmpV (P.map rvT) (L.map rvT):=⟨_,rfl⟩
 have hPl:P.length=l.length:=by rw[hP',proL_len]
 have hPv:i<N→∀ x∈P,VT x:=fun h3=>by rw[hP'];exact proL_VT (hC.col i0 (by omega))
 have hLl:L.length≤l.length∧(best<0→L.length=0):=by
  rcases i3 with ⟨h3,h4⟩ | ⟨h3,h4,h5⟩
  ·rw[h4];exact ⟨Nat.zero_le _,fun _=>rfl⟩
  ·exact ⟨by rw[h5,proL_len];exact Nat.le_refl _,fun h6=>absurd h6 (by omega)⟩
 have hLv:i<N→∀ x∈L,VT x:=fun h3=>by
  rcases i3 with ⟨_,h4⟩ | ⟨h5,h6,h4⟩
  ·rw[h4];intro x hx;cases hx
  ·rw[h4];exact proL_VT (hC.col h5 (by omega))
 have hstep:i<N→bst (valP l) (A.drop (i+1).toNat) (i+1) (if a=true∧(best<0∨C<0) then i else best)=B:=fun h3=>by
  have e:(a=true∧(best<0∨C<0))↔(gtR .bool A i=true∧(best<0∨cmpV (valP l i) (valP l best)<0)):=by
   rw[ha,r14,hCC,hP']
   rcases i3 with ⟨h5,_⟩ | ⟨_,_,h4⟩
   ·simp[h5]
   ·rw[h4];rfl
  rw[gtR_drop (t:=.bool) i0 (by omega),bst]at i2
  simp only[e]
  exact i2
 have hend:¬ i<N→best=B:=fun h3=>by rw[gtR_end (by omega),bst]at i2;exact i2
 have hi1:i<N→ar .add .i64 i 1=i+1:=fun h2=>by rw[r1];exact wrap64 (n:=i+1) (by omega) (by omega)
 have hnx:i<N→∀ (bb:Int) (LL:List RT),bb=(if a=true∧(best<0∨C<0) then i else best)→LL=(if a=true∧(best<0∨C<0) then P else L)→NEXT X' [(0,.tl nl tRs l),(7,.p (iv bb)),(8,.tl none tR LL),(26,.tl na .bool A),(27,.p (iv N)),(28,.p (iv (i+1)))] ⟨[],[]⟩:=fun h3 bb LL hb hL=>by
  refine NEXT.mk (hX (bb,LL,i+1) _ _ ⟨by omega,by show i+1≤N;omega,by show bst _ _ (i+1) bb=B;rw[hb];exact hstep h3,?_⟩ (by show (N - (i+1)).toNat<(N - i).toNat;omega) (.inl ⟨rfl,rfl⟩))
  show (bb = -1∧LL=[])∨(0≤bb∧bb<i+1∧LL=proL l bb)
  by_cases hc:a=true∧(best<0∨C<0)
  ·rw[if_pos hc]at hb hL
   exact .inr ⟨by omega,by omega,by rw[hL,hb,hP']⟩
  ·rw[if_neg hc]at hb hL
   rcases i3 with ⟨h5,h6⟩ | ⟨h5,h6,h7⟩
   ·exact .inl ⟨by omega,by rw[hL,h6]⟩
   ·exact .inr ⟨by omega,by omega,by rw[hL,hb,h7]⟩
 have hprf:i<N→PRF l i:=fun h3=>hC.prf i0 (by omega)
 obtain ⟨K,hK⟩:∃ K:Int,K=L.length:=⟨_,rfl⟩
 have hlL:ic (ln tR L)=K:=by rw[r4,r12,hK]
 have hlP:ic (ln tR P)=l.length:=by rw[r4,r12];show ((P.length:Nat):Int)=_;rw[hPl]
 have hB0:best<0∨0≤best:=by omega
 clear hX i2 i3 hstep hP' hC hB
 cbv
 try simp only[nc_eq]at *
 rw[hla,←ha,←hP,hlL]
 refine BR.lss r0 (fun h3=>?_) (fun h3=>?_)
 ·have hI:INB i N:=⟨i0,h3⟩
  have hn1:=hnx h3
  clear hnx
  rw[hi1 h3]
  refine ⟨hI,hI,BR.mk (fun h4=>⟨hprf h3,?_⟩) (fun h4=>hn1 _ _ (by rw[if_neg (fun h=>by rw[h4]at h;cases h.1)]) (by rw[if_neg (fun h=>by rw[h4]at h;cases h.1)]))⟩
  refine LOOP.ind (σ:=Int) (fun k=>[(0,.tl nl tRs l),(7,.p (iv best)),(8,.tl none tR L),(9,.p (iv i)),(11,.tl none tR P),(26,.tl na .bool A),(27,.p (iv N)),(28,.p (iv i)),(39,.p (iv K)),(40,.p (iv k))]) (fun _=>⟨[],[]⟩) (fun k=>(K - k).toNat)
   (fun k=>0≤k∧k≤K∧cmpV ((P.drop k.toNat).map rvT) ((L.drop k.toNat).map rvT)=C) 0 ⟨by omega,by omega,hCC.symm⟩ (.inl ⟨rfl,rfl⟩) ?_
  intro k ⟨k0,k1,k2⟩ X2 hX2
  obtain ⟨x,hx⟩:∃ x:RT,x=gt tR P k:=⟨_,rfl⟩
  obtain ⟨y,hy⟩:∃ y:RT,y=gt tR L k:=⟨_,rfl⟩
  obtain ⟨q,hq⟩:∃ q,q=cmQ (rvT x) (rvT y):=⟨_,rfl⟩
  obtain ⟨w,hw⟩:∃ w,w=cmpV ((P.drop (k+1).toNat).map rvT) ((L.drop (k+1).toNat).map rvT):=⟨_,rfl⟩
  have hxv:k<K→VT x∧VT y:=fun h5=>⟨hPv h3 x (by rw[hx,r14];exact gtR_mem (t:=tR) k0 (by omega)),hLv h3 y (by rw[hy,r14];exact gtR_mem (t:=tR) k0 (by omega))⟩
  have hst:k<K→C=if q≠0 then q else w:=fun h5=>by
   rw[←k2,gtR_drop (t:=tR) k0 (by omega),gtR_drop (t:=tR) (l:=L) k0 (by omega),hq,hx,hy,hw,r14];rfl
  have hse:¬ k<K→C=0:=fun h5=>by
   rw[←k2,gtR_end (l:=L) (by omega)];cases P.drop k.toNat <;> rfl
  have hq2:k<K→g2 x.1 x.2.1.2 x.2.2.2 y.1 y.2.1.2 y.2.2.2=q:=fun h5=>by rw[←hg2,hq];exact (hxv h5).1.cm (hxv h5).2
  have hck:k<K→CK2 x.2.1.2 x.2.2.2 y.2.1.2 y.2.2.2:=fun h5=>⟨(hxv h5).1.ckp,(hxv h5).2.ckp⟩
  have hk1:k<K→ar .add .i64 k 1=k+1:=fun h2=>by rw[r1];exact wrap64 (n:=k+1) (by omega) (by omega)
  have hnk:k<K→w=C→NEXT X2 [(0,.tl nl tRs l),(7,.p (iv best)),(8,.tl none tR L),(9,.p (iv i)),(11,.tl none tR P),(26,.tl na .bool A),(27,.p (iv N)),(28,.p (iv i)),(39,.p (iv K)),(40,.p (iv (k+1)))] ⟨[],[]⟩:=fun h5 h6=>NEXT.mk (hX2 (k+1) _ _ ⟨by omega,by omega,by rw[←hw];exact h6⟩ (by show (K - (k+1)).toNat<(K - k).toNat;omega) (.inl ⟨rfl,rfl⟩))
  clear hX2 k2 hw hq hxv hPv hLv hCC
  obtain ⟨s,⟨na',a'⟩,⟨nb',b'⟩⟩:=x
  obtain ⟨s',⟨nc',c'⟩,⟨nd',d'⟩⟩:=y
  dsimp only at hck hq2
  cbv
  try simp only[nc_eq]at *
  rw[hlP,hlL,←hx,←hy]
  simp only[r21,r22,r23,r24]
  refine BR.lss r0 (fun h5=>?_) (fun h5=>?_)
  ·have hKI:INB k K:=⟨k0,h5⟩
   have hKN:INB k l.length:=⟨k0,by omega⟩
   have hst:=hst h5
   have hb0:¬ best<0:=fun h6=>by have:=hLl.2 h6;omega
   rw[hk1 h5,hi1 h3,hq2 h5]
   refine ⟨hKN,hKN,hKI,hKI,hck h5,BR.gtr r0 (fun h6=>?_) (fun h6=>BR.lss r0 (fun h7=>?_) (fun h7=>hnk h5 ?_))⟩
   ·rw[if_pos (by omega)]at hst
    exact hn1 _ _ (by rw[if_neg (fun h=>by omega)]) (by rw[if_neg (fun h=>by omega)])
   ·rw[if_pos (by omega)]at hst
    exact hn1 _ _ (by rw[if_pos ⟨h4,.inr (by omega)⟩]) (by rw[if_pos ⟨h4,.inr (by omega)⟩])
   ·rw[if_neg (by omega)]at hst;exact hst.symm
  ·have hC0:=hse h5
   rw[hi1 h3]
   refine BR.lss r0 (fun h6=>?_) (fun h6=>?_)
   ·exact hn1 _ _ (by rw[if_pos ⟨h4,.inl h6⟩]) (by rw[if_pos ⟨h4,.inl h6⟩])
   ·exact hn1 _ _ (by rw[if_neg (fun h=>by omega)]) (by rw[if_neg (fun h=>by omega)])
 ·have hbB:=hend h3
  rw[hbB]
  refine BR.lss r0 (fun h4=>?_) (fun h4=>?_)
  ·rw[if_pos h4]at e4
   rw[e4,if_neg (by decide)]at e3
   exact ⟨e3.symm,e4.symm,trivial⟩
  ·rw[if_neg h4]at e4
   rw[e4,if_pos rfl]at e3
   exact ⟨e3.symm,e4.symm,trivial⟩
end Go.Ab
