/- Advisories: checks,bounds,the least and the greatest number. -/
import Derived.Test.YtlmdgmppeacobaaGreatLH
set_option linter.unusedSimpArgs false
set_option linter.unusedVariables false
set_option maxRecDepth 20000
set_option maxHeartbeats 4000000
namespace Go.Ab
open Go.Proofs
abbrev tA:Ty:=.pair tB (.pair tI tI)
abbrev AT:=tA.den
def chkA (x:AT):Int:=if (x.1:Int)≠1∧(x.1:Int)≠2 then 6 else if (x.2.1:Int)>x.2.2∨(x.2.1:Int) < -100∨(x.2.2:Int)>100 then 1 else 0
def feA:List AT→Int
 | []=>0
 | x :: l=>if chkA x≠0 then chkA x else feA l
def advE (l:List AT):Int:=if l.length=0 then 3 else if l.length>6 then 4 else feA (l.drop 1)
def mniF:Int→List Int→Int
 | m,[]=>m
 | m,x :: l=>mniF (min m x) l
def mxiF:Int→List Int→Int
 | m,[]=>m
 | m,x :: l=>mxiF (max m x) l
def mniL (l:List Int):Int:=mniF (gtR tI l 0) (l.drop 1)
def mxiL (l:List Int):Int:=mxiF (gtR tI l 0) (l.drop 1)
def bndS (l:List AT) (b:Int):Int:=if b=0 then 0 else (gtR tA l b).1
structure IXP (l:List AT) (b:Int):Prop where
 a:0≤b
 b:b=0∨b<l.length
structure MNK (l:List Int):Prop where
 ne:l≠[]
 s:l.length≤2000
def ownA (l:List AT) (b:Int):Int×Int:=if b=0 then (-100,100) else (gtR tA l b).2
theorem chkA_nz (a b c w:Int):(if chkA (a,b,c)≠0 then chkA (a,b,c) else w)=if a≠1∧a≠2 then 6 else if b>c∨b < -100∨c>100 then 1 else w:=by
 have hc:chkA (a,b,c)=if a≠1∧a≠2 then 6 else if b>c∨b < -100∨c>100 then 1 else 0:=rfl
 rw[hc]
 by_cases h1:a≠1∧a≠2
 ·simp only[if_pos h1];rfl
 ·simp only[if_neg h1]
  by_cases h2:b>c∨b < -100∨c>100
  ·simp only[if_pos h2];rfl
  ·simp only[if_neg h2];rfl
theorem cAdv (nl:Option Bool) (l:List AT):PurS Tryz.prog 30 [injT (.sl tA) (nl,l)] (.p (iv (advE l))):=by
 refine PurS.of (S:=[]) (T:=[]) (U:=[]) (tbl:=[]) (n:=46) hm31 cfg .nil .nil .nil .nil 0 Tryz.call30 Tryz.func30 (ac30_ok (some (0,0))) (by rw[Tryz.ntmps30];exact Nat.le_refl _) rfl ⟨_,rfl⟩ ?_
 intro cmp ar cv tn ic ai mx an ad ml sb mn ln em gt up ap sc vw cp rp p1 p2 s1 s2 X Y hX hY r0 r1 r2 r3 r4 r5 r6 r7 r8 r9 r10 r11 r12 r13 r14 r15 r16 r17 r18 r19 r20 r21 r22 r23 r24
 generalize hg0:advE=g0
 cbv
 have hll:ic (ln tA l)=l.length:=by rw[r4,r12]
 obtain ⟨r,hr⟩:∃ r,r=sc tA l 1 (ic (ln tA l)):=⟨_,rfl⟩
 have hr':r=l.drop 1:=by rw[hr,r17,hll];show (l.take (l.length:Int).toNat).drop 1=_;rw[List.take_of_length_le (by omega)]
 obtain ⟨N,hN⟩:∃ N:Int,N=r.length:=⟨_,rfl⟩
 have hrl:ic (ln tA r)=N:=by rw[r4,r12,hN]
 have hNl:0<l.length→N=l.length - 1:=fun h=>by rw[hN,hr',List.length_drop];omega
 have e0:g0 l=if l.length=0 then 3 else if l.length>6 then 4 else feA r:=by rw[←hg0,hr'];rfl
 obtain ⟨z,hz⟩:∃ z,z=feA r:=⟨_,rfl⟩
 rw[←hz]at e0
 rw[←hr,hrl,hll]
 refine BR.eql r0 (fun h1=>?_) (fun h1=>BR.gtr r0 (fun h2=>?_) (fun h2=>⟨⟨by omega,by omega,by omega⟩,?_⟩))
 ·rw[if_pos (by omega)]at e0;exact e0.symm
 ·rw[if_neg (by omega),if_pos (by omega)]at e0;exact e0.symm
 rw[if_neg (by omega),if_neg (by omega)]at e0
 have hNN:=hNl (by omega)
 rw[e0]
 refine LOOP.ind (σ:=Int) (fun i=>[(14,.tl nl tA r),(15,.p (iv N)),(16,.p (iv i))]) (fun _=>⟨[],[]⟩) (fun i=>(N - i).toNat) (fun i=>0≤i∧i≤N∧feA (r.drop i.toNat)=z) 0 ⟨by omega,by omega,hz.symm⟩ (.inl ⟨rfl,rfl⟩) ?_
 intro i ⟨i0,i1,i2⟩ X' hX
 obtain ⟨x,hx⟩:∃ x:AT,x=gt tA r i:=⟨_,rfl⟩
 have hst:i<N→feA (r.drop i.toNat)=if chkA x≠0 then chkA x else feA (r.drop (i+1).toNat):=fun h=>by
  rw[gtR_drop (t:=tA) i0 (by omega),show gtR tA r i=x by rw[hx,r14]];rfl
 have hse:¬ i<N→feA (r.drop i.toNat)=0:=fun h=>by rw[gtR_end (by omega)];rfl
 have hi1:i<N→ar .add .i64 i 1=i+1:=fun h=>by rw[r1];exact wrap64 (n:=i+1) (by omega) (by omega)
 obtain ⟨a,b,c⟩:=x
 change Int at a b c
 obtain ⟨w,hw⟩:∃ w,w=feA (r.drop (i+1).toNat):=⟨_,rfl⟩
 rw[←hw,chkA_nz]at hst
 have hnx:∀ B,i<N→w=z→NEXT X' [(14,.tl nl tA r),(15,.p (iv N)),(16,.p (iv (i+1)))] ⟨[B],[]⟩:=fun B h h2=>NEXT.mk (hX (i+1) _ _ ⟨by omega,by omega,by rw[←hw];exact h2⟩ (by show (N - (i+1)).toNat<(N - i).toNat;omega) (.inr ⟨[],[],by rw[SIM_iff];cbv;simp[nlLe_self]⟩))
 rw[i2]at hst hse
 clear i2 hw hz hX
 cbv
 try simp only[nc_eq]at *
 rw[hrl,←hx]
 simp only[r21,r22]
 refine BR.lss r0 (fun h1=>?_) (fun h1=>(hse h1).symm)
 have hI:INB i N:=⟨i0,h1⟩
 have hst:=hst h1
 rw[hi1 h1]
 have fin:∀ st,(w=z→NEXT X' [(14,.tl nl tA r),(15,.p (iv N)),(16,.p (iv (i+1)))] st)→(a=1∨a=2)→BR (cmp .gtr b c) (1=z) (BR (cmp .lss b (-100)) (1=z) (BR (cmp .gtr c 100) (1=z) (NEXT X' [(14,.tl nl tA r),(15,.p (iv N)),(16,.p (iv (i+1)))] st))):=fun st hn ha=>by
  rw[if_neg (show ¬ (¬ a=1∧¬ a=2) by omega)]at hst
  refine BR.gtr r0 (fun h3=>?_) (fun h3=>BR.lss r0 (fun h4=>?_) (fun h4=>BR.gtr r0 (fun h5=>?_) (fun h5=>hn ?_)))
  ·rw[if_pos (by omega)]at hst;exact hst.symm
  ·rw[if_pos (by omega)]at hst;exact hst.symm
  ·rw[if_pos (by omega)]at hst;exact hst.symm
  ·rw[if_neg (by omega)]at hst;exact hst.symm
 refine ⟨hI,hI,BR.neq r0 (fun h2=>BR.neq r0 (fun h3=>?_) (fun h3=>fin _ (hnx _ h1) (by omega))) (fun h2=>fin _ (hnx _ h1) (by omega))⟩
 rw[if_pos (by omega)]at hst;exact hst.symm
theorem cRAdv (nl:Option Bool) (l:List AT):PurS Tryz.prog 51 [injT (.sl tA) (nl,l)] (.p (iv (advE l))):=by
 refine PurS.of (S:=[]) (T:=[]) (U:=[]) (tbl:=[]) (n:=57) hm31 cfg .nil .nil .nil .nil 0 Tryz.call51 Tryz.func51 (ac51_ok (some (0,0))) (by rw[Tryz.ntmps51];exact Nat.le_refl _) rfl ⟨_,rfl⟩ ?_
 intro cmp ar cv tn ic ai mx an ad ml sb mn ln em gt up ap sc vw cp rp p1 p2 s1 s2 X Y hX hY r0 r1 r2 r3 r4 r5 r6 r7 r8 r9 r10 r11 r12 r13 r14 r15 r16 r17 r18 r19 r20 r21 r22 r23 r24
 generalize hg0:advE=g0
 cbv
 have hll:ic (ln tA l)=l.length:=by rw[r4,r12]
 obtain ⟨N,hN⟩:∃ N:Int,N=l.length:=⟨_,rfl⟩
 have e0:g0 l=if l.length=0 then 3 else if l.length>6 then 4 else feA (l.drop 1):=by rw[←hg0];rfl
 rw[←hN]at hll
 rw[hll]
 refine BR.eql r0 (fun h1=>?_) (fun h1=>BR.gtr r0 (fun h2=>?_) (fun h2=>?_))
 ·rw[if_pos (by omega)]at e0;exact e0.symm
 ·rw[if_neg (by omega),if_pos (by omega)]at e0;exact e0.symm
 rw[if_neg (by omega),if_neg (by omega)]at e0
 obtain ⟨z,hz⟩:∃ z,z=feA (l.drop 1):=⟨_,rfl⟩
 rw[←hz]at e0
 rw[e0]
 refine LOOP.ind (σ:=Int) (fun i=>[(0,.tl nl tA l),(3,.p (iv i))]) (fun _=>⟨[],[]⟩) (fun i=>(N - i).toNat) (fun i=>1≤i∧i≤N∧feA (l.drop i.toNat)=z) 1 ⟨by omega,by omega,hz.symm⟩ (.inl ⟨rfl,rfl⟩) ?_
 intro i ⟨i0,i1,i2⟩ X' hX
 obtain ⟨x,hx⟩:∃ x:AT,x=gt tA l i:=⟨_,rfl⟩
 have hst:i<N→feA (l.drop i.toNat)=if chkA x≠0 then chkA x else feA (l.drop (i+1).toNat):=fun h=>by
  rw[gtR_drop (t:=tA) (by omega) (by omega),show gtR tA l i=x by rw[hx,r14]];rfl
 have hse:¬ i<N→feA (l.drop i.toNat)=0:=fun h=>by rw[gtR_end (by omega)];rfl
 have hi1:i<N→ar .add .i64 i 1=i+1:=fun h=>by rw[r1];exact wrap64 (n:=i+1) (by omega) (by omega)
 obtain ⟨a,b,c⟩:=x
 change Int at a b c
 obtain ⟨w,hw⟩:∃ w,w=feA (l.drop (i+1).toNat):=⟨_,rfl⟩
 rw[←hw,chkA_nz]at hst
 have hnx:i<N→w=z→NEXT X' [(0,.tl nl tA l),(3,.p (iv (i+1)))] ⟨[],[]⟩:=fun h h2=>NEXT.mk (hX (i+1) _ _ ⟨by omega,by omega,by rw[←hw];exact h2⟩ (by show (N - (i+1)).toNat<(N - i).toNat;omega) (.inl ⟨rfl,rfl⟩))
 rw[i2]at hst hse
 clear i2 hw hz hX
 cbv
 try simp only[nc_eq]at *
 rw[hll,←hx]
 simp only[r21,r22]
 refine BR.lss r0 (fun h1=>?_) (fun h1=>(hse h1).symm)
 have hI:INB i N:=⟨by omega,h1⟩
 have hst:=hst h1
 rw[hi1 h1]
 have hn:=hnx h1
 clear hnx
 repeat' (first | exact hI | refine And.intro ?_ ?_ | (refine BR.neq r0 ?_ ?_ <;> intro _) | (refine BR.lss r0 ?_ ?_ <;> intro _) | (refine BR.gtr r0 ?_ ?_ <;> intro _) | refine hn ?_)
 all_goals clear hn
 all_goals ((repeat' split at hst) <;> omega)
theorem cMin (nl:Option Bool) (l:List Int) (h:MNK l):PurS Tryz.prog 48 [injT (.sl tI) (nl,l)] (.p (iv (mniL l))):=by
 refine PurS.of (S:=[]) (T:=[]) (U:=[]) (tbl:=[]) (n:=25) hm31 cfg .nil .nil .nil .nil 0 Tryz.call48 Tryz.func48 (ac48_ok (some (0,0))) (by rw[Tryz.ntmps48];exact Nat.le_refl _) rfl ⟨_,rfl⟩ ?_
 intro cmp ar cv tn ic ai mx an ad ml sb mn ln em gt up ap sc vw cp rp p1 p2 s1 s2 X Y hX hY r0 r1 r2 r3 r4 r5 r6 r7 r8 r9 r10 r11 r12 r13 r14 r15 r16 r17 r18 r19 r20 r21 r22 r23 r24
 generalize hg0:mniL=g0
 cbv
 have hs:=h.s
 have h0:=h.ne
 have hp:=List.length_pos_iff.2 h0
 have hll:ic (ln tI l)=l.length:=by rw[r4,r12]
 obtain ⟨N,hN⟩:∃ N:Int,N=l.length:=⟨_,rfl⟩
 rw[←hN]at hll
 have e0:g0 l=mniF (gtR tI l 0) (l.drop 1):=by rw[←hg0];rfl
 rw[hll]
 have hI0:INB 0 N:=⟨Int.le_refl _,by omega⟩
 refine BR.lss r0 (fun h=>absurd h (by omega)) (fun _=>⟨hI0,hI0,?_⟩)
 refine LOOP.ind (σ:=Int×Int) (fun (m,i)=>[(0,.tl nl tI l),(3,.p (iv m)),(4,.p (iv i))]) (fun _=>⟨[],[]⟩) (fun (_,i)=>(N - i).toNat) (fun (m,i)=>1≤i∧i≤N∧mniF m (l.drop i.toNat)=g0 l) (gt tI l 0,1) ⟨by omega,by omega,by rw[e0,r14];rfl⟩ (.inl ⟨rfl,rfl⟩) ?_
 intro ⟨m,i⟩ ⟨i0,i1,i2⟩ X' hX
 change Int at m
 obtain ⟨x,hx⟩:∃ x:Int,x=gt tI l i:=⟨_,rfl⟩
 have hst:i<N→mniF m (l.drop i.toNat)=mniF (min m x) (l.drop (i+1).toNat):=fun h=>by rw[gtR_drop (t:=tI) (by omega) (by omega),hx,r14];rfl
 have hse:¬ i<N→mniF m (l.drop i.toNat)=m:=fun h=>by rw[gtR_end (by omega)];rfl
 have hi1:i<N→ar .add .i64 i 1=i+1:=fun h=>by rw[r1];exact wrap64 (n:=i+1) (by omega) (by omega)
 rw[i2]at hst hse
 have hmx:mx false m x=min m x:=by rw[r6];unfold mxR;simp only[Bool.false_eq_true,if_false,if_true];omega
 cbv
 try simp only[nc_eq]at *
 rw[hll,←hx]
 refine BR.lss r0 (fun h1=>?_) (fun h1=>(hse h1).symm)
 have hI:INB i N:=⟨by omega,h1⟩
 rw[hi1 h1]
 try rw[hmx]
 exact ⟨hI,hI,NEXT.mk (hX (min m x,i+1) _ _ ⟨by omega,by omega,(hst h1).symm⟩ (by show (N - (i+1)).toNat<(N - i).toNat;omega) (.inl ⟨rfl,rfl⟩))⟩
theorem cMax (nl:Option Bool) (l:List Int) (h:MNK l):PurS Tryz.prog 49 [injT (.sl tI) (nl,l)] (.p (iv (mxiL l))):=by
 refine PurS.of (S:=[]) (T:=[]) (U:=[]) (tbl:=[]) (n:=25) hm31 cfg .nil .nil .nil .nil 0 Tryz.call49 Tryz.func49 (ac49_ok (some (0,0))) (by rw[Tryz.ntmps49];exact Nat.le_refl _) rfl ⟨_,rfl⟩ ?_
 intro cmp ar cv tn ic ai mx an ad ml sb mn ln em gt up ap sc vw cp rp p1 p2 s1 s2 X Y hX hY r0 r1 r2 r3 r4 r5 r6 r7 r8 r9 r10 r11 r12 r13 r14 r15 r16 r17 r18 r19 r20 r21 r22 r23 r24
 generalize hg0:mxiL=g0
 cbv
 have hs:=h.s
 have h0:=h.ne
 have hp:=List.length_pos_iff.2 h0
 have hll:ic (ln tI l)=l.length:=by rw[r4,r12]
 obtain ⟨N,hN⟩:∃ N:Int,N=l.length:=⟨_,rfl⟩
 rw[←hN]at hll
 have e0:g0 l=mxiF (gtR tI l 0) (l.drop 1):=by rw[←hg0];rfl
 rw[hll]
 have hI0:INB 0 N:=⟨Int.le_refl _,by omega⟩
 refine BR.lss r0 (fun h=>absurd h (by omega)) (fun _=>⟨hI0,hI0,?_⟩)
 refine LOOP.ind (σ:=Int×Int) (fun (m,i)=>[(0,.tl nl tI l),(3,.p (iv m)),(4,.p (iv i))]) (fun _=>⟨[],[]⟩) (fun (_,i)=>(N - i).toNat) (fun (m,i)=>1≤i∧i≤N∧mxiF m (l.drop i.toNat)=g0 l) (gt tI l 0,1) ⟨by omega,by omega,by rw[e0,r14];rfl⟩ (.inl ⟨rfl,rfl⟩) ?_
 intro ⟨m,i⟩ ⟨i0,i1,i2⟩ X' hX
 change Int at m
 obtain ⟨x,hx⟩:∃ x:Int,x=gt tI l i:=⟨_,rfl⟩
 have hst:i<N→mxiF m (l.drop i.toNat)=mxiF (max m x) (l.drop (i+1).toNat):=fun h=>by rw[gtR_drop (t:=tI) (by omega) (by omega),hx,r14];rfl
 have hse:¬ i<N→mxiF m (l.drop i.toNat)=m:=fun h=>by rw[gtR_end (by omega)];rfl
 have hi1:i<N→ar .add .i64 i 1=i+1:=fun h=>by rw[r1];exact wrap64 (n:=i+1) (by omega) (by omega)
 rw[i2]at hst hse
 have hmx:mx true m x=max m x:=by rw[r6];unfold mxR;simp only[Bool.false_eq_true,if_false,if_true];omega
 cbv
 try simp only[nc_eq]at *
 rw[hll,←hx]
 refine BR.lss r0 (fun h1=>?_) (fun h1=>(hse h1).symm)
 have hI:INB i N:=⟨by omega,h1⟩
 rw[hi1 h1]
 try rw[hmx]
 exact ⟨hI,hI,NEXT.mk (hX (max m x,i+1) _ _ ⟨by omega,by omega,(hst h1).symm⟩ (by show (N - (i+1)).toNat<(N - i).toNat;omega) (.inl ⟨rfl,rfl⟩))⟩
theorem cBnds (nl:Option Bool) (l:List AT) (b:Int) (h:IXP l b):PurS Tryz.prog 50 [injT (.sl tA) (nl,l),injT tI b] (.agg [.p (.v (.int .u8 (bndS l b))),.p (iv (ownA l b).1),.p (iv (ownA l b).2)]):=by
 refine PurS.of (S:=[]) (T:=[]) (U:=[]) (tbl:=[]) (n:=12) hm31 cfg .nil .nil .nil .nil 0 Tryz.call50 Tryz.func50 (ac50_ok (some (0,0))) (by rw[Tryz.ntmps50];exact Nat.le_refl _) rfl ⟨_,rfl⟩ ?_
 intro cmp ar cv tn ic ai mx an ad ml sb mn ln em gt up ap sc vw cp rp p1 p2 s1 s2 X Y hX hY r0 r1 r2 r3 r4 r5 r6 r7 r8 r9 r10 r11 r12 r13 r14 r15 r16 r17 r18 r19 r20 r21 r22 r23 r24
 generalize hg0:bndS=g0
 generalize hg1:ownA=g1
 cbv
 have hll:ic (ln tA l)=l.length:=by rw[r4,r12]
 obtain ⟨x,hx⟩:∃ x:AT,x=gt tA l b:=⟨_,rfl⟩
 have e0:g0 l b=if b=0 then 0 else x.1:=by rw[←hg0,hx,r14];rfl
 have e1:g1 l b=if b=0 then (-100,100) else x.2:=by rw[←hg1,hx,r14];rfl
 rw[hll,←hx]
 simp only[r21,r22]
 refine BR.eql r0 (fun h1=>?_) (fun h1=>?_)
 ·rw[e0,e1,if_pos h1,if_pos h1];exact ⟨rfl,rfl,rfl,trivial⟩
 ·rw[e0,e1,if_neg h1,if_neg h1]
  have:=h.a;have:=h.b
  have hI:INB b l.length:=⟨by omega,by omega⟩
  exact ⟨hI,hI,rfl,rfl,rfl,trivial⟩
theorem cOwn (nl:Option Bool) (l:List AT) (b:Int) (h:IXP l b):PurS Tryz.prog 52 [injT (.sl tA) (nl,l),injT tI b] (.tup [.p (iv (ownA l b).1),.p (iv (ownA l b).2)]):=by
 refine PurS.of (S:=[]) (T:=[]) (U:=[]) (tbl:=[]) (n:=18) hm31 cfg .nil .nil .nil .nil 0 Tryz.call52 Tryz.func52 (ac52_ok (some (0,0))) (by rw[Tryz.ntmps52];exact Nat.le_refl _) rfl ⟨_,rfl⟩ ?_
 intro cmp ar cv tn ic ai mx an ad ml sb mn ln em gt up ap sc vw cp rp p1 p2 s1 s2 X Y hX hY r0 r1 r2 r3 r4 r5 r6 r7 r8 r9 r10 r11 r12 r13 r14 r15 r16 r17 r18 r19 r20 r21 r22 r23 r24
 generalize hg0:ownA=g0
 cbv
 have hll:ic (ln tA l)=l.length:=by rw[r4,r12]
 obtain ⟨x,hx⟩:∃ x:AT,x=gt tA l b:=⟨_,rfl⟩
 have e1:g0 l b=if b=0 then (-100,100) else x.2:=by rw[←hg0,hx,r14];rfl
 rw[hll,←hx]
 simp only[r21,r22]
 refine BR.eql r0 (fun h1=>?_) (fun h1=>?_)
 ·rw[e1,if_pos h1];exact ⟨rfl,rfl,trivial⟩
 ·rw[e1,if_neg h1]
  have:=h.a;have:=h.b
  have hI:INB b l.length:=⟨by omega,by omega⟩
  exact ⟨hI,hI,hI,hI,rfl,rfl,trivial⟩
theorem cEnds (nl:Option Bool) (l:List AT) (b:Int) (h:IXP l b):PurS Tryz.prog 31 [injT (.sl tA) (nl,l),injT tI b] (.tup [.p (iv (ownA l b).1),.p (iv (ownA l b).2)]):=by
 refine PurS.of (S:=[]) (T:=[]) (U:=[]) (tbl:=[]) (n:=18) hm31 cfg .nil .nil .nil .nil 0 Tryz.call31 Tryz.func31 (ac31_ok (some (0,0))) (by rw[Tryz.ntmps31];exact Nat.le_refl _) rfl ⟨_,rfl⟩ ?_
 intro cmp ar cv tn ic ai mx an ad ml sb mn ln em gt up ap sc vw cp rp p1 p2 s1 s2 X Y hX hY r0 r1 r2 r3 r4 r5 r6 r7 r8 r9 r10 r11 r12 r13 r14 r15 r16 r17 r18 r19 r20 r21 r22 r23 r24
 generalize hg0:ownA=g0
 cbv
 have hll:ic (ln tA l)=l.length:=by rw[r4,r12]
 obtain ⟨x,hx⟩:∃ x:AT,x=gt tA l b:=⟨_,rfl⟩
 have e1:g0 l b=if b=0 then (-100,100) else x.2:=by rw[←hg0,hx,r14];rfl
 rw[hll,←hx]
 simp only[r21,r22]
 refine BR.eql r0 (fun h1=>?_) (fun h1=>?_)
 ·rw[e1,if_pos h1];exact ⟨rfl,rfl,trivial⟩
 ·rw[e1,if_neg h1]
  have:=h.a;have:=h.b
  have hI:INB b l.length:=⟨by omega,by omega⟩
  exact ⟨hI,hI,hI,hI,rfl,rfl,trivial⟩
end Go.Ab
