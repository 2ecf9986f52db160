/- The program's rational numbers: sums,comparisons. -/
import Derived.Test.YtlmdgmppeacobaaGreatLp
set_option linter.unusedSimpArgs false
set_option linter.unusedVariables false
set_option maxRecDepth 20000
set_option maxHeartbeats 4000000
namespace Go.Ab
open Go.Proofs
def smS (s:Bool) (a b:List Int) (s':Bool) (c d:List Int):Bool:=if s=s' then s else if vl a*vl d<vl c*vl b then s' else s
def smV (s:Bool) (a b:List Int) (s':Bool) (c d:List Int):Nat:=if s=s' then vl a*vl d+vl c*vl b else if vl a*vl d<vl c*vl b then vl c*vl b - vl a*vl d else vl a*vl d - vl c*vl b
def smN (s:Bool) (a b:List Int) (s':Bool) (c d:List Int):List Int:=lm (smV s a b s' c d)
structure SMP (a b c d:List Int):Prop where
 ca:CN a
 cb:CN b
 cc:CN c
 cd:CN d
 la:a.length≤200
 lb:b.length≤200
 lc:c.length≤200
 ld:d.length≤200
theorem sm_rat {s s':Bool} {a b c d:List Int} (hb:vl b≠0) (hd:vl d≠0):rnum (smS s a b s' c d) (smV s a b s' c d) (vl b*vl d)=rnum s (vl a) (vl b)+rnum s' (vl c) (vl d):=by
 unfold rnum
 rw[Rat.mkRat_add_mkRat _ _ hb hd]
 congr 1
 unfold smS smV
 obtain ⟨x,hx⟩:∃ x,x=vl a*vl d:=⟨_,rfl⟩
 obtain ⟨y,hy⟩:∃ y,y=vl c*vl b:=⟨_,rfl⟩
 have hx':(vl a:Int)*(vl d:Int)=x:=by rw[hx];exact (Int.natCast_mul _ _).symm
 have hy':(vl c:Int)*(vl b:Int)=y:=by rw[hy];exact (Int.natCast_mul _ _).symm
 rw[←hx,←hy]
 cases s <;> cases s' <;> simp only[if_true,if_false,Bool.false_eq_true,Bool.true_eq_false,Int.neg_mul,hx',hy'] <;> (repeat' split) <;> simp_all <;> omega
theorem cSum (na:Option Bool) (a:List Int) (nb:Option Bool) (b:List Int) (s:Bool) (nc:Option Bool) (c:List Int) (nd:Option Bool) (d:List Int) (s':Bool) (h:SMP a b c d):PurS Tryz.prog 59 [injT tF (((na,a),(nb,b)),s),injT tF (((nc,c),(nd,d)),s')] (.agg [.tl none tW (smN s a b s' c d),.tl none tW (mulL b d),.sb (smS s a b s' c d)]):=by
 refine PurS.of (S:=[(87,_),(88,_),(89,_)]) (T:=[]) (U:=[]) (tbl:=[]) (n:=58) hm31 cfg (.cons (spT2.ok (a:=(.sl (.int .u32))) (b:=(.sl (.int .u32))) fun x0 x1 h=>cTimes x0.1 x0.2 x1.1 x1.2 h) (.cons (spT2.ok (a:=(.sl (.int .u32))) (b:=(.sl (.int .u32))) fun x0 x1 h=>cPlus x0.1 x0.2 x1.1 x1.2 h) (.cons (spT2.ok (a:=(.sl (.int .u32))) (b:=(.sl (.int .u32))) fun x0 x1 h=>cMinus x0.1 x0.2 x1.1 x1.2 h) .nil))) .nil .nil .nil 0 Tryz.call59 Tryz.func59 (ac59_ok (some (0,0))) (by rw[Tryz.ntmps59];exact Nat.le_refl _) rfl ⟨_,rfl⟩ ?_
 intro cmp ar cv tn ic ai mx an ad ml sb mn ln em gt up ap sc vw cp rp p1 p2 s1 s2 X Y hX hY r0 r1 r2 r3 r4 r5 r6 r7 r8 r9 r10 r11 r12 r13 r14 r15 r16 r17 r18 r19 r20 r21 r22 r23 r24
 generalize hg0:mulL=g0
 generalize hg1:addL=g1
 generalize hg2:mnL=g2
 generalize hg3:mnB=g3
 generalize hg4:smN=g4
 generalize hg5:smS=g5
 cbv
 have h1:=h.la
 have h2:=h.lb
 have h3:=h.lc
 have h4:=h.ld
 have hp:∀ l:List Int,CN l→l.length≤200→vl l<4294967296 ^ 200:=fun l hc hl=>Nat.lt_of_lt_of_le (vl_lt hc.lb) (Nat.pow_le_pow_right (by decide) hl)
 have hpp:∀ x y:List Int,CN x→CN y→x.length≤200→y.length≤200→vl x*vl y<4294967296 ^ 400:=fun x y cx cy lx ly=>by
  exact (fun K hK=>mul_powW (hp x cx lx) (hp y cy ly) hK:∀ K,200+200≤K→vl x*vl y<4294967296 ^ K) 400 (by decide)
 have h512:∀ v,v<4294967296 ^ 400→v<4294967296 ^ 512:=fun v hv=>powW_up v 400 hv 512 (by decide)
 have hnm:∀ l:List Int,CN l→l.length≤200→NM l:=fun l hc hl=>⟨hc,by omega⟩
 have hml:∀ x y:List Int,CN x→CN y→x.length≤200→y.length≤200→MLB x y:=fun x y cx cy lx ly=>⟨hnm x cx lx,hnm y cy ly,h512 _ (hpp x y cx cy lx ly)⟩
 obtain ⟨x,hx⟩:∃ x,x=vl a*vl d:=⟨_,rfl⟩
 obtain ⟨y,hy⟩:∃ y,y=vl c*vl b:=⟨_,rfl⟩
 have hxl:=hpp a d h.ca h.cd h1 h4
 have hyl:=hpp c b h.cc h.cb h3 h2
 rw[←hx]at hxl;rw[←hy]at hyl
 obtain ⟨P,hP⟩:∃ P,P=g0 a d:=⟨_,rfl⟩
 obtain ⟨Q,hQ⟩:∃ Q,Q=g0 c b:=⟨_,rfl⟩
 have hP':P=lm x:=by rw[hP,←hg0,hx];rfl
 have hQ':Q=lm y:=by rw[hQ,←hg0,hy];rfl
 have hPn:NM P:=by rw[hP'];exact .lm (h512 _ hxl)
 have hQn:NM Q:=by rw[hQ'];exact .lm (h512 _ hyl)
 have hvP:vl P=x:=by rw[hP',vl_lm]
 have hvQ:vl Q=y:=by rw[hQ',vl_lm]
 have e1:g1 P Q=lm (x+y):=by rw[←hg1];unfold addL;rw[hvP,hvQ]
 have e2:g2 P Q=lm (if x<y then y - x else x - y):=by rw[←hg2];unfold mnL;rw[hvP,hvQ]
 have e3:g3 P Q=decide (x<y):=by rw[←hg3];unfold mnB;rw[hvP,hvQ]
 have e4:g4 s a b s' c d=lm (if s=s' then x+y else if x<y then y - x else x - y):=by rw[←hg4];unfold smN smV;rw[←hx,←hy]
 have e5:g5 s a b s' c d=if s=s' then s else if x<y then s' else s:=by rw[←hg5];unfold smS;rw[←hx,←hy]
 have hadd:ADB P Q:=⟨hPn,hQn,by
  rw[hvP,hvQ]
  exact add_powW x y 400 hxl hyl 512 (by decide)⟩
 have hmn:MNP (some false) P (some false) Q:=⟨⟨hPn,hQn,.inl rfl⟩,.inl rfl⟩
 have hn:nlLe none none:=nlLe_none.2 trivial
 have hn2:nlLe (some false) none:=nlLe_none.2 trivial
 dsimp only
 rw[←hP,←hQ]
 rw[e1,e2,e3,e4,e5]
 refine ⟨hml a d h.ca h.cd h1 h4,hml c b h.cc h.cb h3 h2,?_⟩
 have hbd:=hml b d h.cb h.cd h2 h4
 by_cases hlt:x<y
 ·cases s <;> cases s' <;> simp[BR_true,BR_false,hlt,hbd,hadd,hmn,hn,hn2]
 ·cases s <;> cases s' <;> simp[BR_true,BR_false,hlt,hbd,hadd,hmn,hn,hn2]
theorem or2_zero {x y:Int}:or2 x y=0↔x=0∧y=0:=by
 unfold or2
 split
 ·rename_i h;exact ⟨fun h1=>absurd h1 h,fun h1=>h1.1⟩
 ·rename_i h;exact ⟨fun h1=>⟨Classical.not_not.1 h,h1⟩,fun h1=>h1.2⟩
theorem RK.dl {s:Bool} {a b:List Int} (h:RK s a b):CN (dl b)∧(Ab.dl b).length≤128∧vl (Ab.dl b)≠0:=by
 refine ⟨?_,?_,by rw[vl_dl];exact h.dn0.1⟩
 ·unfold Ab.dl;split
  ·exact CN.of_last (.cons (by decide) (by decide) .nil) (fun _=>by decide)
  ·exact h.cb
 ·unfold Ab.dl;split
  ·decide
  ·exact h.lb
theorem rv_dl (s:Bool) (a b:List Int):rv s a b=rnum s (vl a) (vl (dl b)):=by rw[vl_dl];rfl
theorem RK.smp {s s':Bool} {a b c d:List Int} (h:RK s a b) (h':RK s' c d):SMP a (Ab.dl b) c (Ab.dl d):=by
 have h1:=h.la
 have h2:=h'.la
 have h3:=h.dl
 have h4:=h'.dl
 exact ⟨h.ca,h3.1,h'.ca,h4.1,by omega,by omega,by omega,by omega⟩
theorem SMP.v {a b c d:List Int} (h:SMP a b c d) (s s':Bool):smV s a b s' c d<4294967296 ^ 512∧vl b*vl d<4294967296 ^ 512:=by
 have hp:∀ l:List Int,CN l→l.length≤200→vl l<4294967296 ^ 200:=fun l hc hl=>Nat.lt_of_lt_of_le (vl_lt hc.lb) (Nat.pow_le_pow_right (by decide) hl)
 have hpp:∀ x y:List Int,CN x→CN y→x.length≤200→y.length≤200→vl x*vl y<4294967296 ^ 400:=fun x y cx cy lx ly=>by
  exact (fun K hK=>mul_powW (hp x cx lx) (hp y cy ly) hK:∀ K,200+200≤K→vl x*vl y<4294967296 ^ K) 400 (by decide)
 have h1:=hpp a d h.ca h.cd h.la h.ld
 have h2:=hpp c b h.cc h.cb h.lc h.lb
 have h3:=hpp b d h.cb h.cd h.lb h.ld
 have h6:4294967296 ^ 400*2≤4294967296 ^ 512:=powW_two 400 512 (by decide)
 obtain ⟨P,hP⟩:∃ P,P=4294967296 ^ 512:=⟨_,rfl⟩
 obtain ⟨R,hR⟩:∃ R,R=4294967296 ^ 400:=⟨_,rfl⟩
 rw[←hP,←hR]at h6
 rw[←hR]at h1 h2 h3
 rw[←hP]
 refine ⟨?_,by omega⟩
 unfold smV
 split
 ·omega
 ·split <;> omega
structure CK2 (a b c d:List Int):Prop where
 x:CKP a b
 y:CKP c d
def adQ (s:Bool) (a b:List Int) (s':Bool) (c d:List Int):Rat:=rv s a b+rv s' c d
def adE (s:Bool) (a b:List Int) (s':Bool) (c d:List Int):Int:=
 if or2 (rchk s a b) (rchk s' c d)≠0 then or2 (rchk s a b) (rchk s' c d) else if (qN (adQ s a b s' c d)).length>128∨(qD (adQ s a b s' c d)).length>128 then 4 else 0
def adS (s:Bool) (a b:List Int) (s':Bool) (c d:List Int):Bool:=decide (adE s a b s' c d=0) && qS (adQ s a b s' c d)
def adN (s:Bool) (a b:List Int) (s':Bool) (c d:List Int):List Int:=if adE s a b s' c d=0 then qN (adQ s a b s' c d) else []
def adD (s:Bool) (a b:List Int) (s':Bool) (c d:List Int):List Int:=if adE s a b s' c d=0 then qD (adQ s a b s' c d) else []
theorem cRAdd (s:Bool) (na:Option Bool) (a:List Int) (nb:Option Bool) (b:List Int) (s':Bool) (nc:Option Bool) (c:List Int) (nd:Option Bool) (d:List Int) (h:CK2 a b c d):PurS Tryz.prog 41 [injT tR (s,(na,a),(nb,b)),injT tR (s',(nc,c),(nd,d))] (.tup [.agg [.sb (adS s a b s' c d),.tl none tW (adN s a b s' c d),.tl none tW (adD s a b s' c d)],.p (iv (adE s a b s' c d))]):=by
 refine PurS.of (S:=[(57,_),(56,_),(58,_),(59,_),(100,_)]) (T:=[]) (U:=[]) (tbl:=[(72,ac72 none,[.cell 6 (some 3),.tmp 7],39)]) (n:=11) hm31 cfg (.cons (spT1.ok (a:=(.pair .bool (.pair (.sl (.int .u32)) (.sl (.int .u32))))) fun x0 h=>cRatChk x0.1 x0.2.1.1 x0.2.1.2 x0.2.2.1 x0.2.2.2 h) (.cons (spT1.ok (a:=(.sl (.int .i64))) fun x0 h=>cOr x0.1 x0.2 h) (.cons (spT1.ok (a:=(.pair .bool (.pair (.sl (.int .u32)) (.sl (.int .u32))))) (pre:=fun _=>True) fun x0 _=>cOf x0.1 x0.2.1.1 x0.2.1.2 x0.2.2.1 x0.2.2.2) (.cons (spT2.ok (a:=(.pair (.pair (.sl (.int .u32)) (.sl (.int .u32))) .bool)) (b:=(.pair (.pair (.sl (.int .u32)) (.sl (.int .u32))) .bool)) fun x0 x1 h=>cSum x0.1.1.1 x0.1.1.2 x0.1.2.1 x0.1.2.2 x0.2 x1.1.1.1 x1.1.1.2 x1.1.2.1 x1.1.2.2 x1.2 h) (.cons (spT1.ok (a:=(.pair (.pair (.sl (.int .u32)) (.sl (.int .u32))) .bool)) fun x0 h=>cLow x0.1.1.1 x0.1.1.2 x0.1.2.1 x0.1.2.2 x0.2 h) .nil))))) .nil .nil (.cons Tryz.call72 Tryz.func72 (ac72_ok none) (by rw[Tryz.ntmps72];exact Nat.le_refl _) .nil) 6 Tryz.call41 Tryz.func41 (ac41_ok (some (0,0))) (by rw[Tryz.ntmps41];exact Nat.le_refl _) rfl ⟨_,rfl⟩ ?_
 intro cmp ar cv tn ic ai mx an ad ml sb mn ln em gt up ap sc vw cp rp p1 p2 s1 s2 X Y hX hY r0 r1 r2 r3 r4 r5 r6 r7 r8 r9 r10 r11 r12 r13 r14 r15 r16 r17 r18 r19 r20 r21 r22 r23 r24
 generalize hg0:rchk=g0
 generalize hg1:orL=g1
 generalize hg2:dl=g2
 generalize hg3:smN=g3
 generalize hg4:mulL=g4
 generalize hg5:smS=g5
 generalize hg6:lwS=g6
 generalize hg7:lwN=g7
 generalize hg8:lwD=g8
 generalize hg9:adS=g9
 generalize hg10:adN=g10
 generalize hg11:adD=g11
 generalize hg12:adE=g12
 cbv
 dsimp only
 have hn:nlLe none none:=nlLe_none.2 trivial
 have hn1:nlLe (some true) none:=nlLe_none.2 trivial
 obtain ⟨e,he⟩:∃ e,e=or2 (rchk s a b) (rchk s' c d):=⟨_,rfl⟩
 have ho:g1 [g0 s a b,g0 s' c d]=e:=by rw[←hg1,←hg0,orL2,he]
 have e12:g12 s a b s' c d=if e≠0 then e else if (qN (adQ s a b s' c d)).length>128∨(qD (adQ s a b s' c d)).length>128 then 4 else 0:=by rw[←hg12];unfold adE;rw[←he]
 have e9:g9 s a b s' c d=(decide (g12 s a b s' c d=0) && qS (adQ s a b s' c d)):=by rw[←hg9,←hg12];rfl
 have e10:g10 s a b s' c d=if g12 s a b s' c d=0 then qN (adQ s a b s' c d) else []:=by rw[←hg10,←hg12];rfl
 have e11:g11 s a b s' c d=if g12 s a b s' c d=0 then qD (adQ s a b s' c d) else []:=by rw[←hg11,←hg12];rfl
 rw[ho]
 have bad:∀ k,g12 s a b s' c d=k→k≠0→(false=g9 s a b s' c d∧(nlLe (some true) none∧g10 s a b s' c d=[])∧(nlLe (some true) none∧g11 s a b s' c d=[])∧True)∧k=g12 s a b s' c d∧True:=fun k h1 h2=>by
  rw[e9,e10,e11,h1,if_neg h2,if_neg h2,decide_eq_false h2]
  exact ⟨⟨rfl,⟨hn1,rfl⟩,⟨hn1,rfl⟩,trivial⟩,rfl,trivial⟩
 refine ⟨h.x,h.y,⟨by show 2≤100;decide⟩,BR.neq r0 (fun h1=>bad e (by rw[e12,if_pos h1]) h1) (fun h1=>?_)⟩
 have h1':e=0:=Classical.not_not.1 h1
 obtain ⟨c1,c2⟩:=or2_zero.1 (he ▸ h1')
 have k1:=(rchk_ok h.x.la h.x.lb).1 c1
 have k2:=(rchk_ok h.y.la h.y.lb).1 c2
 have hsm:=k1.smp k2
 obtain ⟨d1,d2,d3⟩:=k1.dl
 obtain ⟨f1,f2,f3⟩:=k2.dl
 obtain ⟨v1,v2⟩:=hsm.v s s'
 have q2:g2 b=dl b:=by rw[←hg2]
 have q2':g2 d=dl d:=by rw[←hg2]
 have q3:g3 s a (dl b) s' c (dl d)=lm (smV s a (dl b) s' c (dl d)):=by rw[←hg3];rfl
 have q4:g4 (dl b) (dl d)=lm (vl (dl b)*vl (dl d)):=by rw[←hg4];rfl
 have q5:g5 s a (dl b) s' c (dl d)=smS s a (dl b) s' c (dl d):=by rw[←hg5]
 have hq:rnum (smS s a (dl b) s' c (dl d)) (smV s a (dl b) s' c (dl d)) (vl (dl b)*vl (dl d))=adQ s a b s' c d:=by
  rw[sm_rat d3 f3];unfold adQ;rw[rv_dl,rv_dl]
 rw[q2,q2',q3,q4,q5]
 obtain ⟨N,hN⟩:∃ N,N=smV s a (dl b) s' c (dl d):=⟨_,rfl⟩
 obtain ⟨D,hD⟩:∃ D,D=vl (dl b)*vl (dl d):=⟨_,rfl⟩
 obtain ⟨S,hS⟩:∃ S,S=smS s a (dl b) s' c (dl d):=⟨_,rfl⟩
 have hD0:D≠0:=by rw[hD];exact Nat.mul_ne_zero d3 f3
 rw[←hN,←hD,←hS]at hq
 rw[←hN]at v1
 rw[←hD]at v2
 rw[←hN,←hD,←hS]
 have q6:g6 (lm N) (lm D) S=qS (adQ s a b s' c d):=by rw[←hg6];unfold lwS;rw[vl_lm,vl_lm,hq]
 have q7:g7 (lm N) (lm D) S=qN (adQ s a b s' c d):=by rw[←hg7];unfold lwN;rw[vl_lm,vl_lm,hq]
 have q8:g8 (lm N) (lm D) S=qD (adQ s a b s' c d):=by rw[←hg8];unfold lwD;rw[vl_lm,vl_lm,hq]
 rw[q6,q7,q8]
 have hl1:ic (ln tW (qN (adQ s a b s' c d)))=(qN (adQ s a b s' c d)).length:=by rw[r4,r12]
 have hl2:ic (ln tW (qD (adQ s a b s' c d)))=(qD (adQ s a b s' c d)).length:=by rw[r4,r12]
 rw[hl1,hl2]
 rw[if_neg (by omega)]at e12
 refine ⟨hsm,⟨.lm v1,.lm v2,fun h2=>hD0 (lm_eq_nil.1 h2)⟩,BR.gtr r0 (fun h2=>bad 4 (by rw[e12,if_pos (.inl (by omega))]) (by decide)) (fun h2=>BR.gtr r0 (fun h3=>bad 4 (by rw[e12,if_pos (.inr (by omega))]) (by decide)) (fun h3=>?_))⟩
 rw[if_neg (by omega)]at e12
 rw[e9,e10,e11,e12,if_pos rfl,if_pos rfl]
 exact ⟨⟨by simp,⟨hn,rfl⟩,⟨hn,rfl⟩,trivial⟩,rfl,trivial⟩
theorem rnum_zero (s:Bool) (d:Nat):rnum s 0 d=0:=by unfold rnum;cases s <;> simp
theorem rnum_not (s:Bool) (n d:Nat):rnum (!s) n d = - rnum s n d:=by unfold rnum;rw[Rat.neg_mkRat];cases s <;> simp
theorem rnum_pos {n d:Nat} (hn:n≠0) (hd:d≠0):0<rnum false n d:=by
 rw[Rat.lt_iff,(rnum_low (s:=false) hd).1]
 have h1:n / Nat.gcd n d≠0:=fun h0=>by
  have:=Nat.div_mul_cancel (Nat.gcd_dvd_left n d);rw[h0,Nat.zero_mul]at this;exact hn this.symm
 obtain ⟨Q,hQ⟩:∃ Q,Q=n / Nat.gcd n d:=⟨_,rfl⟩
 rw[←hQ]at h1 ⊢
 show (0:Int)*_<_*(1:Nat)
 simp;omega
theorem rnum_neg {n d:Nat} (hn:n≠0) (hd:d≠0):rnum true n d<0:=by
 have:=rnum_pos hn hd
 have h2:=rnum_not false n d
 have h3:rnum true n d = - rnum false n d:=h2
 rw[h3];grind
def cmQ (x y:Rat):Int:=if x<y then -1 else if x=y then 0 else 1
def cmE (s:Bool) (a b:List Int) (s':Bool) (c d:List Int):Int:=or2 (rchk s a b) (rchk s' c d)
def cmR (s:Bool) (a b:List Int) (s':Bool) (c d:List Int):Int:=if cmE s a b s' c d≠0 then 0 else cmQ (rv s a b) (rv s' c d)
theorem cRCmp (s:Bool) (na:Option Bool) (a:List Int) (nb:Option Bool) (b:List Int) (s':Bool) (nc:Option Bool) (c:List Int) (nd:Option Bool) (d:List Int) (h:CK2 a b c d):PurS Tryz.prog 32 [injT tR (s,(na,a),(nb,b)),injT tR (s',(nc,c),(nd,d))] (.tup [.p (iv (cmR s a b s' c d)),.p (iv (cmE s a b s' c d))]):=by
 refine PurS.of (S:=[(57,_),(56,_),(58,_),(59,_)]) (T:=[]) (U:=[]) (tbl:=[]) (n:=39) hm31 cfg (.cons (spT1.ok (a:=(.pair .bool (.pair (.sl (.int .u32)) (.sl (.int .u32))))) fun x0 h=>cRatChk x0.1 x0.2.1.1 x0.2.1.2 x0.2.2.1 x0.2.2.2 h) (.cons (spT1.ok (a:=(.sl (.int .i64))) fun x0 h=>cOr x0.1 x0.2 h) (.cons (spT1.ok (a:=(.pair .bool (.pair (.sl (.int .u32)) (.sl (.int .u32))))) (pre:=fun _=>True) fun x0 _=>cOf x0.1 x0.2.1.1 x0.2.1.2 x0.2.2.1 x0.2.2.2) (.cons (spT2.ok (a:=(.pair (.pair (.sl (.int .u32)) (.sl (.int .u32))) .bool)) (b:=(.pair (.pair (.sl (.int .u32)) (.sl (.int .u32))) .bool)) fun x0 x1 h=>cSum x0.1.1.1 x0.1.1.2 x0.1.2.1 x0.1.2.2 x0.2 x1.1.1.1 x1.1.1.2 x1.1.2.1 x1.1.2.2 x1.2 h) .nil)))) .nil .nil .nil 0 Tryz.call32 Tryz.func32 (ac32_ok (some (0,0))) (by rw[Tryz.ntmps32];exact Nat.le_refl _) rfl ⟨_,rfl⟩ ?_
 intro cmp ar cv tn ic ai mx an ad ml sb mn ln em gt up ap sc vw cp rp p1 p2 s1 s2 X Y hX hY r0 r1 r2 r3 r4 r5 r6 r7 r8 r9 r10 r11 r12 r13 r14 r15 r16 r17 r18 r19 r20 r21 r22 r23 r24
 generalize hg0:rchk=g0
 generalize hg1:orL=g1
 generalize hg2:dl=g2
 generalize hg3:smN=g3
 generalize hg4:mulL=g4
 generalize hg5:smS=g5
 generalize hg6:cmR=g6
 generalize hg7:cmE=g7
 cbv
 dsimp only
 obtain ⟨e,he⟩:∃ e,e=or2 (rchk s a b) (rchk s' c d):=⟨_,rfl⟩
 have ho:g1 [g0 s a b,g0 s' c d]=e:=by rw[←hg1,←hg0,orL2,he]
 have e7:g7 s a b s' c d=e:=by rw[←hg7,he];rfl
 have e6:g6 s a b s' c d=if e≠0 then 0 else cmQ (rv s a b) (rv s' c d):=by rw[←hg6];unfold cmR cmE;rw[←he]
 rw[ho,e7,e6]
 refine ⟨h.x,h.y,⟨by show 2≤100;decide⟩,BR.neq r0 (fun h1=>⟨by rw[if_pos h1],rfl,trivial⟩) (fun h1=>?_)⟩
 have h1':e=0:=Classical.not_not.1 h1
 obtain ⟨c1,c2⟩:=or2_zero.1 (he ▸ h1')
 have k1:=(rchk_ok h.x.la h.x.lb).1 c1
 have k2:=(rchk_ok h.y.la h.y.lb).1 c2
 have hsm:=k1.smp k2
 obtain ⟨d1,d2,d3⟩:=k1.dl
 obtain ⟨f1,f2,f3⟩:=k2.dl
 have q2:g2 b=dl b:=by rw[←hg2]
 have q2':g2 d=dl d:=by rw[←hg2]
 rw[q2,q2',if_neg h1,h1']
 have key:∀ t,t = !s'→BR (cmp .eql (ic (ln tW (g3 s a (dl b) t c (dl d)))) 0) (0=cmQ (rv s a b) (rv s' c d)∧(0:Int)=0∧True) (BR (g5 s a (dl b) t c (dl d)) (-1=cmQ (rv s a b) (rv s' c d)∧(0:Int)=0∧True) (1=cmQ (rv s a b) (rv s' c d)∧(0:Int)=0∧True)):=fun t ht=>by
  have q3:g3 s a (dl b) t c (dl d)=lm (smV s a (dl b) t c (dl d)):=by rw[←hg3];rfl
  have q5:g5 s a (dl b) t c (dl d)=smS s a (dl b) t c (dl d):=by rw[←hg5]
  have hq:=sm_rat (s:=s) (s':=t) (a:=a) (c:=c) d3 f3
  rw[ht,rnum_not,←rv_dl,←rv_dl,←ht]at hq
  rw[q3,q5]
  obtain ⟨N,hN⟩:∃ N,N=smV s a (dl b) t c (dl d):=⟨_,rfl⟩
  obtain ⟨D,hD⟩:∃ D,D=vl (dl b)*vl (dl d):=⟨_,rfl⟩
  obtain ⟨S,hS⟩:∃ S,S=smS s a (dl b) t c (dl d):=⟨_,rfl⟩
  have hD0:D≠0:=by rw[hD];exact Nat.mul_ne_zero d3 f3
  rw[←hN,←hD,←hS]at hq
  rw[←hN,←hS]
  have hl:ic (ln tW (lm N))=(lm N).length:=by rw[r4,r12]
  rw[hl]
  refine BR.eql r0 (fun h2=>⟨?_,rfl,trivial⟩) (fun h2=>?_)
  ·have h3:N=0:=lm_len0.1 (by omega)
   rw[h3,rnum_zero]at hq
   have:rv s a b=rv s' c d:=by grind
   unfold cmQ;rw[this,if_neg (by grind),if_pos rfl]
  ·have h3:N≠0:=fun h4=>h2 (by rw[lm_len0.2 h4];rfl)
   refine BR.mk (fun h4=>⟨?_,rfl,trivial⟩) (fun h4=>⟨?_,rfl,trivial⟩)
   ·have h5:=rnum_neg h3 hD0
    rw[h4]at hq;rw[hq]at h5
    unfold cmQ;rw[if_pos (by grind)]
   ·have h5:=rnum_pos h3 hD0
    rw[h4]at hq;rw[hq]at h5
    unfold cmQ;rw[if_neg (by grind),if_neg (by grind)]
 refine BR.mk (fun hs=>⟨hsm,key false (by rw[hs];rfl)⟩) (fun hs=>⟨hsm,key true (by rw[hs];rfl)⟩)
end Go.Ab
namespace Go.Ab
open Go.Proofs
def natL (n:Int):List Int:=lm n.toNat
theorem cRFrom5 (n:Int) (h:INB n 18446744073709551616):PurS Tryz.prog 108 [injT tV n] (.tl none tW (natL n)):=by
 refine PurS.of (S:=[(118,_)]) (T:=[]) (U:=[]) (tbl:=[]) (n:=11) hm31 cfg (.cons (spT1.ok (a:=(.sl (.int .u32))) fun x0 h=>cRCut x0.1 x0.2 h) .nil) .nil .nil .nil 0 Tryz.call108 Tryz.func108 (ac108_ok (some (0,0))) (by rw[Tryz.ntmps108];exact Nat.le_refl _) rfl ⟨_,rfl⟩ ?_
 intro cmp ar cv tn ic ai mx an ad ml sb mn ln em gt up ap sc vw cp rp p1 p2 s1 s2 X Y hX hY r0 r1 r2 r3 r4 r5 r6 r7 r8 r9 r10 r11 r12 r13 r14 r15 r16 r17 r18 r19 r20 r21 r22 r23 r24
 generalize hg0:natL=g0
 generalize hg1:trm=g1
 cbv
 have h0:=h.lo
 have h1:=h.hi
 have hN:NZ 4294967296:=⟨by decide⟩
 have e1:cv .u32 (ar .rem .u64 n 4294967296)=n % 4294967296:=by
  rw[r2,r1]
  show IntKind.wrap .u32 (Int.tmod n 4294967296)=_
  rw[Int.tmod_eq_emod_of_nonneg h0,wrap_u32,Int.emod_emod]
 have e2:cv .u32 (ar .quo .u64 n 4294967296)=n / 4294967296:=by
  rw[r2,r1]
  show IntKind.wrap .u32 (IntKind.wrap .u64 (Int.tdiv n 4294967296))=_
  rw[Int.tdiv_eq_ediv_of_nonneg h0,wrap_u64 (by omega) (by omega),wrap_u32]
  omega
 dsimp only
 rw[e1,e2]
 refine ⟨hN,hN,⟨.cons (by omega) (by omega) (.cons (by omega) (by omega) .nil),by show 2≤100000;decide⟩,nlLe_none.2 trivial,?_⟩
 rw[←hg0,←hg1];unfold trm natL
 congr 1
 show (n % 4294967296).toNat+4294967296*((n / 4294967296).toNat+4294967296*0)=n.toNat
 omega
def absL (n:Int):List Int:=lm n.natAbs
structure I64 (n:Int):Prop where
 lo : -9223372036854775808≤n
 hi:n<9223372036854775808
theorem cRNat (n:Int) (h:I64 n):PurS Tryz.prog 82 [injT tI n] (.tl none tW (absL n)):=by
 refine PurS.of (S:=[(108,_)]) (T:=[]) (U:=[]) (tbl:=[]) (n:=12) hm31 cfg (.cons (spT1.ok (a:=(.int .u64)) fun x0 h=>cRFrom5 x0 h) .nil) .nil .nil .nil 0 Tryz.call82 Tryz.func82 (ac82_ok (some (0,0))) (by rw[Tryz.ntmps82];exact Nat.le_refl _) rfl ⟨_,rfl⟩ ?_
 intro cmp ar cv tn ic ai mx an ad ml sb mn ln em gt up ap sc vw cp rp p1 p2 s1 s2 X Y hX hY r0 r1 r2 r3 r4 r5 r6 r7 r8 r9 r10 r11 r12 r13 r14 r15 r16 r17 r18 r19 r20 r21 r22 r23 r24
 generalize hg0:natL=g0
 generalize hg1:absL=g1
 cbv
 have lo:=h.lo
 have hi:=h.hi
 have e:∀ k,g0 k=lm k.toNat:=fun k=>by rw[←hg0];rfl
 have e1:g1 n=lm n.natAbs:=by rw[←hg1];rfl
 rw[e1]
 refine BR.lss r0 (fun h0=>?_) (fun h0=>?_)
 ·have w1:cv .u64 n=n+18446744073709551616:=by
   rw[r2];show n % 18446744073709551616=_;omega
  have w2:ar .sub .u64 0 (cv .u64 n) = -n:=by
   rw[w1,r1];show (0 - (n+18446744073709551616)) % 18446744073709551616=_;omega
  rw[w2,e]
  exact ⟨⟨by omega,by omega⟩,nlLe_none.2 trivial,by rw[show (-n).toNat=n.natAbs by omega]⟩
 ·have w1:cv .u64 n=n:=by rw[r2];exact wrap_u64 (by omega) (by omega)
  rw[w1,e]
  exact ⟨⟨by omega,by omega⟩,nlLe_none.2 trivial,by rw[show n.toNat=n.natAbs by omega]⟩
theorem cOne  : PurS Tryz.prog 83 [] (.tl none tW [1]):=by
 refine PurS.of (S:=[]) (T:=[]) (U:=[]) (tbl:=[]) (n:=2) hm31 cfg .nil .nil .nil .nil 0 Tryz.call83 Tryz.func83 (ac83_ok (some (0,0))) (by rw[Tryz.ntmps83];exact Nat.le_refl _) rfl ⟨_,rfl⟩ ?_
 intro cmp ar cv tn ic ai mx an ad ml sb mn ln em gt up ap sc vw cp rp p1 p2 s1 s2 X Y hX hY r0 r1 r2 r3 r4 r5 r6 r7 r8 r9 r10 r11 r12 r13 r14 r15 r16 r17 r18 r19 r20 r21 r22 r23 r24
 cbv
 exact ⟨nlLe_none.2 trivial,rfl⟩
theorem low_z {s:Bool} {b:List Int} (cb:CN b) (hb:b≠[]):lwS [] b s=false∧lwN [] b s=[]∧lwD [] b s=[]:=by
 have hbv:vl b≠0:=fun h0=>hb (by rw[←cb.eq,h0,lm_zero])
 obtain ⟨n1,n2⟩:=rnum_low (s:=s) (n:=0) hbv
 have n1':(rnum s 0 (vl b)).num=0:=by rw[n1];simp
 have n2':(rnum s 0 (vl b)).den=1:=by rw[n2,Nat.gcd_zero_left,Nat.div_self (by omega)]
 unfold lwS lwN lwD qS qN qD
 rw[vl_nil,n1',n2',if_pos rfl]
 exact ⟨rfl,lm_zero,rfl⟩
theorem low_nz {s:Bool} {a b:List Int} (ca:CN a) (cb:CN b) (ha:a≠[]) (hb:b≠[]):lwS a b s=s∧lwN a b s=lm (vl a / Nat.gcd (vl a) (vl b))∧lwD a b s=if vl b / Nat.gcd (vl a) (vl b)=1 then [] else lm (vl b / Nat.gcd (vl a) (vl b)):=by
 have hbv:vl b≠0:=fun h0=>hb (by rw[←cb.eq,h0,lm_zero])
 have hav:vl a≠0:=fun h0=>ha (by rw[←ca.eq,h0,lm_zero])
 obtain ⟨n1,n2⟩:=rnum_low (s:=s) (n:=vl a) hbv
 have hap:vl a / Nat.gcd (vl a) (vl b)≠0:=fun h0=>by
  have:=Nat.div_mul_cancel (Nat.gcd_dvd_left (vl a) (vl b));rw[h0,Nat.zero_mul]at this;exact hav this.symm
 obtain ⟨Q,hQ⟩:∃ Q,Q=vl a / Nat.gcd (vl a) (vl b):=⟨_,rfl⟩
 unfold lwS lwN lwD qS qN qD
 rw[n1,n2]
 rw[←hQ]at hap ⊢
 refine ⟨?_,?_,rfl⟩
 ·cases s
  ·simp only[Bool.false_eq_true,if_false];exact decide_eq_false (by omega)
  ·simp only[if_true];exact decide_eq_true (by omega)
 ·congr 1;split <;> simp
structure MKP (a b:List Int):Prop where
 ca:CN a
 cb:CN b
 la:a.length≤1000
 lb:b.length≤1000
 ne:b≠[]
theorem cMake (s:Bool) (na:Option Bool) (a:List Int) (nb:Option Bool) (b:List Int) (h:MKP a b):PurS Tryz.prog 81 [injT .bool s,injT tN (na,a),injT tN (nb,b)] (.agg [.sb (lwS a b s),.tl none tW (lwN a b s),.tl none tW (lwD a b s)]):=by
 refine PurS.of (S:=[(92,_),(107,_),(83,_),(79,_)]) (T:=[]) (U:=[]) (tbl:=[]) (n:=34) hm31 cfg (.cons (spT2.ok (a:=(.sl (.int .u32))) (b:=(.sl (.int .u32))) fun x0 x1 h=>cRCom x0.1 x0.2 x1.1 x1.2 h) (.cons (spT2.ok (a:=(.sl (.int .u32))) (b:=(.sl (.int .u32))) fun x0 x1 h=>cRDiv x0.1 x0.2 x1.1 x1.2 h) (.cons (spT0.ok cOne) (.cons (spT2.ok (a:=(.sl (.int .u32))) (b:=(.sl (.int .u32))) fun x0 x1 h=>cEqNat x0.1 x0.2 x1.1 x1.2 h) .nil)))) .nil .nil .nil 0 Tryz.call81 Tryz.func81 (ac81_ok (some (0,0))) (by rw[Tryz.ntmps81];exact Nat.le_refl _) rfl ⟨_,rfl⟩ ?_
 intro cmp ar cv tn ic ai mx an ad ml sb mn ln em gt up ap sc vw cp rp p1 p2 s1 s2 X Y hX hY r0 r1 r2 r3 r4 r5 r6 r7 r8 r9 r10 r11 r12 r13 r14 r15 r16 r17 r18 r19 r20 r21 r22 r23 r24
 generalize hg0:gcdL=g0
 generalize hg1:quoL=g1
 generalize hg2:remL=g2
 generalize hg3:eqI=g3
 generalize hg4:lwS=g4
 generalize hg5:lwN=g5
 generalize hg6:lwD=g6
 cbv
 dsimp only
 have hla:ic (ln tW a)=a.length:=by rw[r4,r12]
 have ea:a.length=0↔a=[]:=List.length_eq_zero_iff
 have la:=h.la
 have lb:=h.lb
 rw[hla]
 refine BR.eql r0 (fun h1=>?_) (fun h1=>?_)
 ·obtain ⟨k1,k2,k3⟩:=low_z (s:=s) h.cb h.ne
  have h2:a=[]:=ea.1 (by omega)
  rw[h2]
  exact ⟨by rw[←hg4,k1],⟨nlLe_none.2 trivial,by rw[←hg5,k2]⟩,⟨nlLe_none.2 trivial,by rw[←hg6,k3]⟩,trivial⟩
 ·have hne:a≠[]:=fun h2=>h1 (by rw[ea.2 h2];rfl)
  obtain ⟨k1,k2,k3⟩:=low_nz (s:=s) h.ca h.cb hne h.ne
  obtain ⟨G,hG⟩:∃ G,G=Nat.gcd (vl a) (vl b):=⟨_,rfl⟩
  have hav:vl a≠0:=fun h0=>hne (by rw[←h.ca.eq,h0,lm_zero])
  have hG1:G ∣ vl a:=by rw[hG];exact Nat.gcd_dvd_left _ _
  have hG0:G≠0:=fun h0=>by rw[h0]at hG1;exact hav (Nat.eq_zero_of_zero_dvd hG1)
  have hGd:g0 a b=lm G:=by rw[←hg0,hG];rfl
  rw[←hG]at k2 k3
  have q1:g1 a (g0 a b)=lm (vl a / G):=by rw[←hg1];unfold quoL;rw[hGd,vl_lm]
  have q2:g1 b (g0 a b)=lm (vl b / G):=by rw[←hg1];unfold quoL;rw[hGd,vl_lm]
  have lG:(lm G).length≤1000:=by have:=lm_mono (Nat.le_of_dvd (by omega) hG1);rw[h.ca.eq]at this;omega
  have l2:(lm (vl b / G)).length≤1000:=by have:=lm_mono (Nat.div_le_self (vl b) G);rw[h.cb.eq]at this;omega
  have nG:lm G≠[]:=fun h0=>hG0 (lm_eq_nil.1 h0)
  rw[q1,q2,hGd]
  have u3:g3 (lm (vl b / G)) [1]=decide (lm (vl b / G)=[1]):=by rw[←hg3];rfl
  refine ⟨⟨h.ca,h.cb,la,lb⟩,⟨h.ca,CN_lm _,la,lG,nG⟩,⟨h.cb,CN_lm _,lb,lG,nG⟩,⟨by omega⟩,BR.mk (fun h2=>?_) (fun h2=>?_)⟩
  ·rw[u3]at h2
   have h3:=lm_one.1 (of_decide_eq_true h2)
   exact ⟨by rw[←hg4,k1],⟨nlLe_none.2 trivial,by rw[←hg5,k2]⟩,⟨nlLe_none.2 trivial,by rw[←hg6,k3,if_pos h3]⟩,trivial⟩
  ·rw[u3]at h2
   have h3:¬ vl b / G=1:=fun h4=>of_decide_eq_false h2 (lm_one.2 h4)
   exact ⟨by rw[←hg4,k1],⟨nlLe_none.2 trivial,by rw[←hg5,k2]⟩,⟨nlLe_none.2 trivial,by rw[←hg6,k3,if_neg h3]⟩,trivial⟩
structure RK2 (s:Bool) (a b:List Int) (s':Bool) (c d:List Int):Prop where
 x:RK s a b
 y:RK s' c d
structure SR2 (a b:List Int):Prop where
 la:a.length≤1000
 lb:b.length≤1000
end Go.Ab
namespace Go.Ab
open Go.Proofs
theorem qN_nil {q:Rat}:qN q=[]↔q=0:=by
 unfold qN
 rw[lm_eq_nil,Int.natAbs_eq_zero];exact Rat.num_eq_zero
def ngI (n:Int):Bool:=decide (n<0)
theorem cRRFrom (n:Int) (h:I64 n):PurS Tryz.prog 55 [injT tI n] (.agg [.sb (ngI n),.tl none tW (absL n),.tl none tW []]):=by
 refine PurS.of (S:=[(81,_),(82,_),(83,_)]) (T:=[]) (U:=[]) (tbl:=[]) (n:=9) hm31 cfg (.cons (spT3.ok (a:=.bool) (b:=(.sl (.int .u32))) (c:=(.sl (.int .u32))) fun x0 x1 x2 h=>cMake x0 x1.1 x1.2 x2.1 x2.2 h) (.cons (spT1.ok (a:=(.int .i64)) fun x0 h=>cRNat x0 h) (.cons (spT0.ok cOne) .nil))) .nil .nil .nil 0 Tryz.call55 Tryz.func55 (ac55_ok (some (0,0))) (by rw[Tryz.ntmps55];exact Nat.le_refl _) rfl ⟨_,rfl⟩ ?_
 intro cmp ar cv tn ic ai mx an ad ml sb mn ln em gt up ap sc vw cp rp p1 p2 s1 s2 X Y hX hY r0 r1 r2 r3 r4 r5 r6 r7 r8 r9 r10 r11 r12 r13 r14 r15 r16 r17 r18 r19 r20 r21 r22 r23 r24
 generalize hg0:lwS=g0
 generalize hg1:lwN=g1
 generalize hg2:lwD=g2
 generalize hg3:absL=g3
 generalize hg4:ngI=g4
 cbv
 dsimp only
 have lo:=h.lo
 have hi:=h.hi
 have e3:g3 n=lm n.natAbs:=by rw[←hg3];rfl
 have e4:g4 n=decide (n<0):=by rw[←hg4];rfl
 have c1:CN [1]:=CN.of_last (.cons (by decide) (by decide) .nil) (fun _=>by decide)
 have l2:(lm n.natAbs).length≤2:=(lm_len _ _).2 (by show n.natAbs<18446744073709551616;omega)
 have hmk:MKP (lm n.natAbs) [1]:=⟨CN_lm _,c1,by omega,by decide,by decide⟩
 have key:∀ t,(n<0↔t=true)→g0 (lm n.natAbs) [1] t=decide (n<0)∧g1 (lm n.natAbs) [1] t=lm n.natAbs∧g2 (lm n.natAbs) [1] t=[]:=fun t ht=>by
  rw[←hg0,←hg1,←hg2]
  by_cases h0:n=0
  ·subst h0
   obtain ⟨k1,k2,k3⟩:=low_z (s:=t) c1 (by decide)
   have z:lm (Int.natAbs 0)=[]:=lm_zero
   rw[z,k1,k2,k3];exact ⟨rfl,rfl,rfl⟩
  ·have hne:lm n.natAbs≠[]:=fun h1=>by have:=lm_eq_nil.1 h1;omega
   obtain ⟨k1,k2,k3⟩:=low_nz (s:=t) (CN_lm n.natAbs) c1 hne (by decide)
   have v1:vl [1]=1:=rfl
   rw[k1,k2,k3,v1,vl_lm,Nat.gcd_one_right,Nat.div_one,if_pos rfl]
   refine ⟨?_,rfl,rfl⟩
   cases t
   ·exact (decide_eq_false (fun h1=>by have:=ht.1 h1;exact absurd this (by decide))).symm
   ·exact (decide_eq_true (ht.2 rfl)).symm
 rw[e3,e4]
 refine BR.lss r0 (fun h1=>?_) (fun h1=>?_)
 ·obtain ⟨k1,k2,k3⟩:=key true (by simp[h1])
  exact ⟨h,hmk,k1,⟨nlLe_none.2 trivial,k2⟩,⟨nlLe_none.2 trivial,k3⟩,trivial⟩
 ·obtain ⟨k1,k2,k3⟩:=key false (by simp[h1])
  exact ⟨h,hmk,k1,⟨nlLe_none.2 trivial,k2⟩,⟨nlLe_none.2 trivial,k3⟩,trivial⟩
end Go.Ab
