/- The program's rational numbers. -/
import Derived.Test.YtlmdgmppeacobaaGreatLo
set_option linter.unusedSimpArgs false
set_option linter.unusedVariables false
set_option maxRecDepth 20000
set_option maxHeartbeats 4000000
namespace Go.Ab
open Go.Proofs
abbrev tF:Ty:=.pair (.pair tN tN) .bool
theorem cUnit (nl:Option Bool) (l:List Int):PurS Tryz.prog 85 [injT tN (nl,l)] (.sb (unB l)):=by
 refine PurS.of (S:=[]) (T:=[]) (U:=[]) (tbl:=[]) (n:=12) hm31 cfg .nil .nil .nil .nil 0 Tryz.call85 Tryz.func85 (ac85_ok (some (0,0))) (by rw[Tryz.ntmps85];exact Nat.le_refl _) rfl ⟨_,rfl⟩ ?_
 intro cmp ar cv tn ic ai mx an ad ml sb mn ln em gt up ap sc vw cp rp p1 p2 s1 s2 X Y hX hY r0 r1 r2 r3 r4 r5 r6 r7 r8 r9 r10 r11 r12 r13 r14 r15 r16 r17 r18 r19 r20 r21 r22 r23 r24
 generalize hg0:unB=g0
 cbv
 have hl:ic (ln tW l)=l.length:=by rw[r4,r12]
 rw[hl]
 refine BR.eql r0 (fun h1=>?_) (fun h1=>?_)
 ·obtain ⟨x,rfl⟩:∃ x,l=[x]:=List.length_eq_one_iff.1 (by omega)
  have hg:gt tW [x] 0=x:=by rw[r14];rfl
  rw[hg]
  refine ⟨⟨by decide,by show (0:Int)<1;decide⟩,⟨by decide,by show (0:Int)<1;decide⟩,BR.eql r0 (fun h2=>?_) (fun h2=>?_)⟩
  ·rw[←hg0];unfold unB;rw[h2];rfl
  ·rw[←hg0];unfold unB;exact (decide_eq_false (fun h3=>h2 (List.cons.inj h3).1)).symm
 ·rw[←hg0];unfold unB;exact (decide_eq_false (fun h3=>h1 (by rw[h3];rfl))).symm
structure CKP (a b:List Int):Prop where
 la:LB a
 lb:LB b
 na:a.length≤100000
 nb:b.length≤100000
theorem cRatChk (s:Bool) (na:Option Bool) (a:List Int) (nb:Option Bool) (b:List Int) (h:CKP a b):PurS Tryz.prog 57 [injT tR (s,(na,a),(nb,b))] (.p (iv (rchk s a b))):=by
 refine PurS.of (S:=[(84,_),(86,_),(85,_)]) (T:=[]) (U:=[]) (tbl:=[]) (n:=59) hm31 cfg (.cons (spT1.ok (a:=(.sl (.int .u32))) fun x0 h=>cBChk x0.1 x0.2 h) (.cons (spT2.ok (a:=(.sl (.int .u32))) (b:=(.sl (.int .u32))) fun x0 x1 h=>cBGCD x0.1 x0.2 x1.1 x1.2 h) (.cons (spT1.ok (a:=(.sl (.int .u32))) (pre:=fun _=>True) fun x0 _=>cUnit x0.1 x0.2) .nil))) .nil .nil .nil 0 Tryz.call57 Tryz.func57 (ac57_ok (some (0,0))) (by rw[Tryz.ntmps57];exact Nat.le_refl _) rfl ⟨_,rfl⟩ ?_
 intro cmp ar cv tn ic ai mx an ad ml sb mn ln em gt up ap sc vw cp rp p1 p2 s1 s2 X Y hX hY r0 r1 r2 r3 r4 r5 r6 r7 r8 r9 r10 r11 r12 r13 r14 r15 r16 r17 r18 r19 r20 r21 r22 r23 r24
 generalize hg0:bchk=g0
 generalize hg1:gcdL=g1
 generalize hg2:unB=g2
 generalize hg3:rchk=g3
 cbv
 have hna:=h.na
 have hnb:=h.nb
 have hla:ic (ln tW a)=a.length:=by rw[r4,r12]
 have hlb:ic (ln tW b)=b.length:=by rw[r4,r12]
 have hsa:Sh a:=⟨by omega⟩
 have hsb:Sh b:=⟨by omega⟩
 rw[hla,hlb]
 have ea:a.length=0↔a=[]:=List.length_eq_zero_iff
 have eb:b.length=0↔b=[]:=List.length_eq_zero_iff
 have u2:g2 b=decide (b=[1]):=by rw[←hg2];rfl
 have u3:g2 (g1 a b)=decide (g1 a b=[1]):=by rw[←hg2];rfl
 have e:g3 s a b=if a.length>128∨b.length>128 then 4 else if g0 a≠0∨g0 b≠0∨b=[1]∨(a=[]∧(s=true∨b≠[])) then 2 else if b≠[]∧g1 a b≠[1] then 2 else 0:=by
  rw[←hg3,←hg0,←hg1];rfl
 have c2:¬ a.length>128→¬ b.length>128→(g0 a≠0∨g0 b≠0∨b=[1]∨(a=[]∧(s=true∨b≠[])))→2=g3 s a b:=fun h1 h2 h3=>by rw[e,if_neg (by omega),if_pos h3]
 have hbn:¬ a.length>128→¬ b.length>128→g0 a=0→g0 b=0→¬ b=[1]→¬ (a=[]∧(s=true∨b≠[]))→BR (cmp .gtr (b.length:Int) 0) (GCP a b∧BR (g2 (g1 a b)) (0=g3 s a b) (2=g3 s a b)) (0=g3 s a b):=fun h1 h2 h3 h4 h5 h6=>by
  have e':g3 s a b=if b≠[]∧g1 a b≠[1] then 2 else 0:=by
   rw[e,if_neg (by omega),if_neg]
   rintro (h7 | h7 | h7 | h7)
   ·exact h7 h3
   ·exact h7 h4
   ·exact h5 h7
   ·exact h6 h7
  refine BR.gtr r0 (fun h7=>?_) (fun h7=>?_)
  ·have hb:b≠[]:=fun h8=>by have:=eb.2 h8;omega
   have ha:a≠[]:=fun h8=>h6 ⟨h8,.inr hb⟩
   refine ⟨⟨⟨bchk_cn h.la (by rw[hg0];exact h3),by omega⟩,⟨bchk_cn h.lb (by rw[hg0];exact h4),by omega⟩,ha,hb⟩,BR.mk (fun h8=>?_) (fun h8=>?_)⟩
   ·rw[u3]at h8
    rw[e',if_neg];rintro ⟨_,h9⟩;exact h9 (of_decide_eq_true h8)
   ·rw[u3]at h8
    rw[e',if_pos ⟨hb,of_decide_eq_false h8⟩]
  ·have hb:b=[]:=eb.1 (by omega)
   rw[e',if_neg];rintro ⟨h9,_⟩;exact h9 hb
 refine BR.gtr r0 (fun h1=>?_) (fun h1=>BR.gtr r0 (fun h2=>?_) (fun h2=>⟨hsa,BR.neq r0 (fun h3=>?_) (fun h3=>⟨hsb,BR.neq r0 (fun h4=>?_) (fun h4=>BR.mk (fun h5=>?_) (fun h5=>?_))⟩)⟩))
 ·rw[e,if_pos (.inl (by omega))]
 ·rw[e,if_pos (.inr (by omega))]
 ·exact c2 (by omega) (by omega) (.inl h3)
 ·exact c2 (by omega) (by omega) (.inr (.inl h4))
 ·rw[u2]at h5
  exact c2 (by omega) (by omega) (.inr (.inr (.inl (of_decide_eq_true h5))))
 ·rw[u2]at h5
  have h5':=of_decide_eq_false h5
  have k3:=Classical.not_not.1 h3
  have k4:=Classical.not_not.1 h4
  refine BR.eql r0 (fun h6=>BR.mk (fun h7=>?_) (fun h7=>BR.gtr r0 (fun h8=>?_) (fun h8=>?_))) (fun h6=>?_)
  ·exact c2 (by omega) (by omega) (.inr (.inr (.inr ⟨ea.1 (by omega),.inl h7⟩)))
  ·exact c2 (by omega) (by omega) (.inr (.inr (.inr ⟨ea.1 (by omega),.inr (fun h9=>by have:=eb.2 h9;omega)⟩)))
  ·refine hbn (by omega) (by omega) k3 k4 h5' ?_
   rintro ⟨_,h9 | h9⟩
   ·rw[h7]at h9;exact absurd h9 (by decide)
   ·exact h9 (eb.1 (by omega))
  ·refine hbn (by omega) (by omega) k3 k4 h5' ?_
   rintro ⟨h9,_⟩
   have:=ea.2 h9;omega
def dl (b:List Int):List Int:=if b=[] then [1] else b
theorem vl_dl (b:List Int):vl (dl b)=dn b:=by unfold dl dn;split <;> rfl
theorem cOf (s:Bool) (na:Option Bool) (a:List Int) (nb:Option Bool) (b:List Int):PurS Tryz.prog 58 [injT tR (s,(na,a),(nb,b))] (.agg [.tl none tW a,.tl none tW (dl b),.sb s]):=by
 refine PurS.of (S:=[]) (T:=[]) (U:=[]) (tbl:=[]) (n:=21) hm31 cfg .nil .nil .nil .nil 0 Tryz.call58 Tryz.func58 (ac58_ok (some (0,0))) (by rw[Tryz.ntmps58];exact Nat.le_refl _) rfl ⟨_,rfl⟩ ?_
 intro cmp ar cv tn ic ai mx an ad ml sb mn ln em gt up ap sc vw cp rp p1 p2 s1 s2 X Y hX hY r0 r1 r2 r3 r4 r5 r6 r7 r8 r9 r10 r11 r12 r13 r14 r15 r16 r17 r18 r19 r20 r21 r22 r23 r24
 generalize hg0:dl=g0
 cbv
 have hlb:ic (ln tW b)=b.length:=by rw[r4,r12]
 rw[hlb]
 have eb:b.length=0↔b=[]:=List.length_eq_zero_iff
 have k:∀ t:Bool,s=t→BR (cmp .eql (b.length:Int) 0) ((nlLe na none∧True)∧(nlLe (some false) none∧[1]=g0 b)∧t=s∧True) ((nlLe na none∧True)∧(nlLe nb none∧b=g0 b)∧t=s∧True):=fun t ht=>by
  refine BR.eql r0 (fun h1=>⟨⟨nlLe_none.2 trivial,trivial⟩,⟨nlLe_none.2 trivial,?_⟩,ht.symm,trivial⟩) (fun h1=>⟨⟨nlLe_none.2 trivial,trivial⟩,⟨nlLe_none.2 trivial,?_⟩,ht.symm,trivial⟩)
  ·rw[←hg0];unfold dl;rw[if_pos (eb.1 (by omega))]
  ·rw[←hg0];unfold dl;rw[if_neg (fun h2=>h1 (by rw[eb.2 h2];rfl))]
 exact BR.mk (k true) (k false)
theorem cTimes (na:Option Bool) (a:List Int) (nb:Option Bool) (b:List Int) (h:MLB a b):PurS Tryz.prog 87 [injT tN (na,a),injT tN (nb,b)] (.tl (some false) tW (mulL a b)):=by
 refine PurS.of (S:=[(115,_)]) (T:=[]) (U:=[]) (tbl:=[]) (n:=14) hm31 cfg (.cons (spT2.ok (a:=(.sl (.int .u32))) (b:=(.sl (.int .u32))) fun x0 x1 h=>cBMul x0.1 x0.2 x1.1 x1.2 h) .nil) .nil .nil .nil 0 Tryz.call87 Tryz.func87 (ac87_ok (some (0,0))) (by rw[Tryz.ntmps87];exact Nat.le_refl _) rfl ⟨_,rfl⟩ ?_
 intro cmp ar cv tn ic ai mx an ad ml sb mn ln em gt up ap sc vw cp rp p1 p2 s1 s2 X Y hX hY r0 r1 r2 r3 r4 r5 r6 r7 r8 r9 r10 r11 r12 r13 r14 r15 r16 r17 r18 r19 r20 r21 r22 r23 r24
 cbv
 exact ⟨h,nlLe_self.2 trivial,trivial⟩
theorem cPlus (na:Option Bool) (a:List Int) (nb:Option Bool) (b:List Int) (h:ADB a b):PurS Tryz.prog 88 [injT tN (na,a),injT tN (nb,b)] (.tl (some false) tW (addL a b)):=by
 refine PurS.of (S:=[(116,_)]) (T:=[]) (U:=[]) (tbl:=[]) (n:=14) hm31 cfg (.cons (spT2.ok (a:=(.sl (.int .u32))) (b:=(.sl (.int .u32))) fun x0 x1 h=>cBAdd x0.1 x0.2 x1.1 x1.2 h) .nil) .nil .nil .nil 0 Tryz.call88 Tryz.func88 (ac88_ok (some (0,0))) (by rw[Tryz.ntmps88];exact Nat.le_refl _) rfl ⟨_,rfl⟩ ?_
 intro cmp ar cv tn ic ai mx an ad ml sb mn ln em gt up ap sc vw cp rp p1 p2 s1 s2 X Y hX hY r0 r1 r2 r3 r4 r5 r6 r7 r8 r9 r10 r11 r12 r13 r14 r15 r16 r17 r18 r19 r20 r21 r22 r23 r24
 cbv
 exact ⟨h,nlLe_self.2 trivial,trivial⟩
structure MNP (na:Option Bool) (a:List Int) (nb:Option Bool) (b:List Int):Prop where
 ab:SBB na a b
 nn:nb=some false∨b≠[]
def mnL (a b:List Int):List Int:=lm (if vl a<vl b then vl b - vl a else vl a - vl b)
def mnB (a b:List Int):Bool:=decide (vl a<vl b)
theorem cMinus (na:Option Bool) (a:List Int) (nb:Option Bool) (b:List Int) (h:MNP na a nb b):PurS Tryz.prog 89 [injT tN (na,a),injT tN (nb,b)] (.tup [.tl none tW (mnL a b),.sb (mnB a b)]):=by
 refine PurS.of (S:=[(117,_)]) (T:=[]) (U:=[]) (tbl:=[]) (n:=26) hm31 cfg (.cons (spT2.ok (a:=(.sl (.int .u32))) (b:=(.sl (.int .u32))) fun x0 x1 h=>cBSub x0.1 x0.2 x1.1 x1.2 h) .nil) .nil .nil .nil 0 Tryz.call89 Tryz.func89 (ac89_ok (some (0,0))) (by rw[Tryz.ntmps89];exact Nat.le_refl _) rfl ⟨_,rfl⟩ ?_
 intro cmp ar cv tn ic ai mx an ad ml sb mn ln em gt up ap sc vw cp rp p1 p2 s1 s2 X Y hX hY r0 r1 r2 r3 r4 r5 r6 r7 r8 r9 r10 r11 r12 r13 r14 r15 r16 r17 r18 r19 r20 r21 r22 r23 r24
 generalize hg0:subL=g0
 generalize hg1:subE=g1
 generalize hg2:mnL=g2
 generalize hg3:mnB=g3
 cbv
 have e0:g0 a b=if vl a<vl b then [] else lm (vl a - vl b):=by rw[←hg0];rfl
 have e0':g0 b a=if vl b<vl a then [] else lm (vl b - vl a):=by rw[←hg0];rfl
 have e1:g1 a b=if vl a<vl b then 7 else 0:=by rw[←hg1];rfl
 have e2:g2 a b=lm (if vl a<vl b then vl b - vl a else vl a - vl b):=by rw[←hg2];rfl
 have e3:g3 a b=decide (vl a<vl b):=by rw[←hg3];rfl
 refine ⟨h.ab,BR.eql r0 (fun h1=>?_) (fun h1=>?_)⟩
 ·have h1':g1 a b=0:=h1
  rw[e1]at h1'
  have hlt:¬ vl a<vl b:=fun h2=>by rw[if_pos h2]at h1';exact absurd h1' (by decide)
  refine ⟨⟨nlLe_none.2 trivial,?_⟩,?_,trivial⟩
  ·show g0 a b=g2 a b
   rw[e0,e2,if_neg hlt,if_neg hlt]
  ·rw[e3,decide_eq_false hlt]
 ·have h1':¬ g1 a b=0:=h1
  rw[e1]at h1'
  have hlt:vl a<vl b:=Classical.byContradiction fun h2=>h1' (if_neg h2)
  refine ⟨⟨h.ab.pb,h.ab.pa,h.nn⟩,⟨nlLe_none.2 trivial,?_⟩,?_,trivial⟩
  ·show g0 b a=g2 a b
   rw[e0',e2,if_neg (by omega),if_pos hlt]
  ·rw[e3,decide_eq_true hlt]
theorem PurS.weakA {P:Program} {f:FuncId} {ds ds':List DC} {d:DC} (h:PurS P f ds d) (hl:ds'.length=ds.length) (ha:∀ E i u,i<ds.length→RD E ((concL ds').getD i default) u→RD E ((concL ds).getD i default) u):PurS P f ds' d:=by
 obtain ⟨x,hd,h1,h2⟩:=h
 have e1:(concL ds).length=ds.length:=by rw[concL_eq,List.length_map]
 have e2:(concL ds').length=ds'.length:=by rw[concL_eq,List.length_map]
 exact ⟨x,hd,h1,fun G w vs hw hgl hs hR=>h2 G w vs hw hgl (by omega) fun i hi=>ha _ i _ (by omega) (hR i (by omega))⟩
structure CLP (nl:Option Bool) (l:List Int):Prop where
 nn:nl=some false∨l≠[]
 len:l.length≤100000
theorem cCloneF (l:List Int) (h:l.length≤100000):PurS Tryz.prog 110 [injT tN (some false,l)] (.tl none tW l):=by
 refine PurS.of (S:=[]) (T:=[]) (U:=[]) (tbl:=[]) (n:=8) hm31 cfg .nil .nil .nil .nil 0 Tryz.call110 Tryz.func110 (ac110_ok (some (0,0))) (by rw[Tryz.ntmps110];exact Nat.le_refl _) rfl ⟨_,rfl⟩ ?_
 intro cmp ar cv tn ic ai mx an ad ml sb mn ln em gt up ap sc vw cp rp p1 p2 s1 s2 X Y hX hY r0 r1 r2 r3 r4 r5 r6 r7 r8 r9 r10 r11 r12 r13 r14 r15 r16 r17 r18 r19 r20 r21 r22 r23 r24
 cbv
 have hz:ad 0 (ln tW l)=l.length:=by rw[r8,r12];exact Nat.zero_add _
 have hz2:ad 0 l.length=l.length:=by rw[r8];exact Nat.zero_add _
 have hc:ap tW (vw tW 0 [] 0 0) l=l:=by rw[r16,r18];rfl
 have hv:vw tW l.length l 0 l.length=l:=by
  rw[r18];unfold vwR;rw[Ty.norm_eq tW rfl,List.drop_zero,List.take_length]
 rw[hz,hc,hz2,hv]
 refine BR.mk (fun h=>by cases h) fun _=>⟨⟨Nat.le_refl _⟩,LIM_iff.2 ⟨by omega,by omega⟩,⟨Nat.le_refl _⟩,nlLe_none.2 trivial,rfl⟩
theorem cClone (nl:Option Bool) (l:List Int) (h:CLP nl l):PurS Tryz.prog 110 [injT tN (nl,l)] (.tl none tW l):=by
 rcases h.nn with rfl | hne
 ·exact cCloneF l h.len
 ·refine (cCloneF l h.len).weakA rfl fun E i u hi hr=>?_
  match i,hi with
  | 0,_=>exact tl_nonnil (nl:=nl) hne hr
structure LWP (a b:List Int):Prop where
 pa:NM a
 pb:NM b
 ne:b≠[]
def lwS (a b:List Int) (s:Bool):Bool:=qS (rnum s (vl a) (vl b))
def lwN (a b:List Int) (s:Bool):List Int:=qN (rnum s (vl a) (vl b))
def lwD (a b:List Int) (s:Bool):List Int:=qD (rnum s (vl a) (vl b))
theorem cLow (na:Option Bool) (a:List Int) (nb:Option Bool) (b:List Int) (s:Bool) (h:LWP a b):PurS Tryz.prog 100 [injT tF (((na,a),(nb,b)),s)] (.agg [.sb (lwS a b s),.tl none tW (lwN a b s),.tl none tW (lwD a b s)]):=by
 refine PurS.of (S:=[(86,_),(85,_),(120,_),(110,_)]) (T:=[]) (U:=[]) (tbl:=[]) (n:=65) hm31 cfg (.cons (spT2.ok (a:=(.sl (.int .u32))) (b:=(.sl (.int .u32))) fun x0 x1 h=>cBGCD x0.1 x0.2 x1.1 x1.2 h) (.cons (spT1.ok (a:=(.sl (.int .u32))) (pre:=fun _=>True) fun x0 _=>cUnit x0.1 x0.2) (.cons (spT2.ok (a:=(.sl (.int .u32))) (b:=(.sl (.int .u32))) fun x0 x1 h=>cBDivMod x0.1 x0.2 x1.1 x1.2 h) (.cons (spT1.ok (a:=(.sl (.int .u32))) fun x0 h=>cClone x0.1 x0.2 h) .nil)))) .nil .nil .nil 0 Tryz.call100 Tryz.func100 (ac100_ok (some (0,0))) (by rw[Tryz.ntmps100];exact Nat.le_refl _) rfl ⟨_,rfl⟩ ?_
 intro cmp ar cv tn ic ai mx an ad ml sb mn ln em gt up ap sc vw cp rp p1 p2 s1 s2 X Y hX hY r0 r1 r2 r3 r4 r5 r6 r7 r8 r9 r10 r11 r12 r13 r14 r15 r16 r17 r18 r19 r20 r21 r22 r23 r24
 generalize hg0:gcdL=g0
 generalize hg1:unB=g1
 generalize hg2:quoL=g2
 generalize hg3:remL=g3
 generalize hg4:lwS=g4
 generalize hg5:lwN=g5
 generalize hg6:lwD=g6
 cbv
 have hla:ic (ln tW a)=a.length:=by rw[r4,r12]
 have ea:a.length=0↔a=[]:=List.length_eq_zero_iff
 have hbv:vl b≠0:=fun h0=>h.ne (by rw[←h.pb.cn.eq,h0,lm_zero])
 have la:=h.pa.len
 have lb:=h.pb.len
 rw[hla]
 obtain ⟨n1,n2⟩:=rnum_low (s:=s) (n:=vl a) hbv
 refine BR.eql r0 (fun h1=>?_) (fun h1=>?_)
 ·have h2:a=[]:=ea.1 (by omega)
  have h3:vl a=0:=by rw[h2];rfl
  rw[h3]at n1 n2
  have n1':(rnum s 0 (vl b)).num=0:=by rw[n1];simp
  have n2':(rnum s 0 (vl b)).den=1:=by rw[n2,Nat.gcd_zero_left,Nat.div_self (by omega)]
  refine ⟨?_,⟨nlLe_none.2 trivial,?_⟩,⟨nlLe_none.2 trivial,?_⟩,trivial⟩
  ·rw[←hg4];unfold lwS qS;rw[h3,n1'];rfl
  ·rw[←hg5];unfold lwN qN;rw[h3,n1'];exact lm_zero
  ·rw[←hg6];unfold lwD qD;rw[h3,n2',if_pos rfl]
 have hne:a≠[]:=fun h2=>h1 (by rw[ea.2 h2];rfl)
 have hav:vl a≠0:=fun h0=>hne (by rw[←h.pa.cn.eq,h0,lm_zero])
 obtain ⟨G,hG⟩:∃ G,G=Nat.gcd (vl a) (vl b):=⟨_,rfl⟩
 have hGd:g0 a b=lm G:=by rw[←hg0,hG];rfl
 have hG1:G ∣ vl a:=by rw[hG];exact Nat.gcd_dvd_left _ _
 have hG2:G ∣ vl b:=by rw[hG];exact Nat.gcd_dvd_right _ _
 have hG0:G≠0:=fun h0=>by rw[h0]at hG1;exact hav (Nat.eq_zero_of_zero_dvd hG1)
 rw[←hG]at n1 n2
 have hap:vl a / G≠0:=fun h0=>by
  have:=Nat.div_mul_cancel hG1;rw[h0,Nat.zero_mul]at this;exact hav this.symm
 obtain ⟨Q,hQ⟩:∃ Q,Q=vl a / G:=⟨_,rfl⟩
 have e4:g4 a b s=s:=by
  rw[←hg4];unfold lwS qS;rw[n1,←hQ];rw[←hQ]at hap
  cases s
  ·simp only[Bool.false_eq_true,if_false];exact decide_eq_false (by omega)
  ·simp only[if_true];exact decide_eq_true (by omega)
 have e5:g5 a b s=lm (vl a / G):=by
  rw[←hg5];unfold lwN qN;rw[n1,←hQ]
  congr 1;split <;> simp
 have e6:g6 a b s=if vl b / G=1 then [] else lm (vl b / G):=by
  rw[←hg6];unfold lwD qD;rw[n2]
 have u1:∀ l,g1 l=decide (l=[1]):=fun l=>by rw[←hg1];rfl
 have key:∀ (t:Bool) (nA nB:Option Bool) (A B:List Int),s=t→CLP nA A→CLP nB B→A=lm (vl a / G)→B=lm (vl b / G)→CLP nA A∧BR (g1 B) (t=g4 a b s∧(nlLe none none∧A=g5 a b s)∧(nlLe (some true) none∧g6 a b s=[])∧True) (CLP nB B∧t=g4 a b s∧(nlLe none none∧A=g5 a b s)∧(nlLe none none∧B=g6 a b s)∧True):=fun t nA nB A B ht hA hB eA eB=>by
  refine ⟨hA,BR.mk (fun h2=>?_) (fun h2=>?_)⟩
  ·rw[u1]at h2
   have h3:=of_decide_eq_true h2
   rw[eB]at h3
   refine ⟨by rw[e4];exact ht.symm,⟨nlLe_none.2 trivial,by rw[e5];exact eA⟩,⟨nlLe_none.2 trivial,by rw[e6,if_pos (lm_one.1 h3)]⟩,trivial⟩
  ·rw[u1]at h2
   have h3:=of_decide_eq_false h2
   refine ⟨hB,by rw[e4];exact ht.symm,⟨nlLe_none.2 trivial,by rw[e5];exact eA⟩,⟨nlLe_none.2 trivial,?_⟩,trivial⟩
   rw[e6,if_neg (fun h4=>h3 (by rw[eB,h4];exact lm_one.2 rfl))];exact eB
 have hcl:∀ (q:Option Bool) (l:List Int),NM l→l≠[]→CLP q l:=fun q l h2 h3=>⟨.inr h3,by have:=h2.len;omega⟩
 have hA:∀ q,CLP q a:=fun q=>hcl q a h.pa hne
 have hB:∀ q,CLP q b:=fun q=>hcl q b h.pb h.ne
 refine ⟨⟨h.pa,h.pb,hne,h.ne⟩,?_⟩
 show BR (g1 (g0 a b)) _ (DVP a (g0 a b)∧DVP b (g0 a b)∧BR s (CLP (some false) (g2 a (g0 a b))∧BR (g1 (g2 b (g0 a b))) _ (CLP (some false) (g2 b (g0 a b))∧true=g4 a b s∧(_∧g2 a (g0 a b)=g5 a b s)∧(_∧g2 b (g0 a b)=g6 a b s)∧True)) (CLP (some false) (g2 a (g0 a b))∧BR (g1 (g2 b (g0 a b))) _ (CLP (some false) (g2 b (g0 a b))∧false=g4 a b s∧(_∧g2 a (g0 a b)=g5 a b s)∧(_∧g2 b (g0 a b)=g6 a b s)∧True)))
 refine BR.mk (fun h2=>?_) (fun h2=>?_)
 ·rw[u1,hGd]at h2
  have h3:=lm_one.1 (of_decide_eq_true h2)
  have eA:a=lm (vl a / G):=by rw[h3,Nat.div_one,h.pa.cn.eq]
  have eB:b=lm (vl b / G):=by rw[h3,Nat.div_one,h.pb.cn.eq]
  exact BR.mk (fun ht=>key true na nb a b ht (hA _) (hB _) eA eB) (fun ht=>key false na nb a b ht (hA _) (hB _) eA eB)
 ·have q1:g2 a (g0 a b)=lm (vl a / G):=by rw[←hg2];unfold quoL;rw[hGd,vl_lm]
  have q2:g2 b (g0 a b)=lm (vl b / G):=by rw[←hg2];unfold quoL;rw[hGd,vl_lm]
  have hGl:NM (g0 a b):=by
   rw[hGd]
   have hle:G≤vl a:=Nat.le_of_dvd (by omega) hG1
   have:=lm_mono hle
   rw[h.pa.cn.eq]at this
   exact ⟨CN_lm _,by omega⟩
  have hGne:g0 a b≠[]:=fun h3=>by rw[hGd]at h3;exact hG0 (lm_eq_nil.1 h3)
  have l1:(lm (vl a / G)).length≤512:=by have:=lm_mono (Nat.div_le_self (vl a) G);rw[h.pa.cn.eq]at this;omega
  have l2:(lm (vl b / G)).length≤512:=by have:=lm_mono (Nat.div_le_self (vl b) G);rw[h.pb.cn.eq]at this;omega
  have c1:CLP (some false) (g2 a (g0 a b)):=⟨.inl rfl,by rw[q1];omega⟩
  have c2:CLP (some false) (g2 b (g0 a b)):=⟨.inl rfl,by rw[q2];omega⟩
  refine ⟨⟨h.pa,hGl,hGne⟩,⟨h.pb,hGl,hGne⟩,?_⟩
  exact BR.mk (fun ht=>key true (some false) (some false) _ _ ht c1 c2 q1 q2) (fun ht=>key false (some false) (some false) _ _ ht c1 c2 q1 q2)
end Go.Ab
