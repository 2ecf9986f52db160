/- Comparing and copying; numbers of the program. -/
import Derived.Test.YtlmdgmppeacobaaGreatLm
set_option linter.unusedSimpArgs false
set_option linter.unusedVariables false
set_option maxRecDepth 20000
set_option maxHeartbeats 4000000
namespace Go.Ab
open Go.Proofs
def eqI (a b:List Int):Bool:=decide (a=b)
theorem cEqInts (na:Option Bool) (a:List Int) (nb:Option Bool) (b:List Int) (h:Short 2000 a):PurS Tryz.prog 28 [injT (.sl tI) (na,a),injT (.sl tI) (nb,b)] (.sb (eqI a b)):=by
 refine PurS.of (S:=[]) (T:=[]) (U:=[]) (tbl:=[]) (n:=26) hm31 cfg .nil .nil .nil .nil 0 Tryz.call28 Tryz.func28 (ac28_ok (some (0,0))) (by rw[Tryz.ntmps28];exact Nat.le_refl _) rfl ⟨_,rfl⟩ ?_
 intro cmp ar cv tn ic ai mx an ad ml sb mn ln em gt up ap sc vw cp rp p1 p2 s1 s2 X Y hX hY r0 r1 r2 r3 r4 r5 r6 r7 r8 r9 r10 r11 r12 r13 r14 r15 r16 r17 r18 r19 r20 r21 r22 r23 r24
 generalize hg0:eqI=g0
 cbv
 refine BR.mk ?_ ?_ <;> intro hc
 ·subst_vars
  simp only[Short_iff,cmpR,arR,mxR,INB_iff,SLB_iff,SLM_iff,NZ_iff,NN_iff,EQN_iff,LEN_iff,LIM_iff,MK_iff,decide_eq_true_eq,decide_eq_false_iff_not,ne_eq,Bool.and_eq_true,nc_eq]at *
  grind [eqI]
 ·refine LOOP.ind (σ:=Int) (fun i=>[(0,.tl na tI a),(1,.tl nb tI b),(5,.p (iv i))]) (fun _=>⟨[],[]⟩) (fun i=>(a.length - i).toNat) (fun i=>0≤i∧i≤a.length∧(a.drop i.toNat=b.drop i.toNat↔a=b)) 0 (by simp) (.inl ⟨rfl,rfl⟩) ?_
  intro i hI X' hX
  have hd:=drop_eq (t:=tI) (a:=a) (b:=b) (i:=i)
  have he:=gtR_end (l:=a) (i:=i)
  have he':=gtR_end (l:=b) (i:=i)
  have h:=h.h
  cbv
  repeat' (first | exact True.intro | refine And.intro ?_ ?_ | (refine BR.mk ?_ ?_ <;> intro _) | (refine CASE.mk ?_;intro _) | refine NEXT.mk (hX _ _ _ ?_ ?_ (.inl ⟨rfl,rfl⟩)))
  all_goals clear hX
  all_goals subst_vars
  all_goals try simp only[Short_iff,cmpR,arR,mxR,INB_iff,SLB_iff,SLM_iff,NZ_iff,NN_iff,EQN_iff,LEN_iff,LIM_iff,MK_iff,decide_eq_true_eq,decide_eq_false_iff_not,ne_eq,Bool.and_eq_true]at *
  all_goals try dsimp only[Ty.den]at *
  all_goals try simp only[nc_eq]at *
  all_goals try (simp (disch:=omega) only[wrap64]at *)
  all_goals grind [eqI]
theorem cEqLimbs (na:Option Bool) (a:List Int) (nb:Option Bool) (b:List Int) (h:Short 2000 a):PurS Tryz.prog 105 [injT tN (na,a),injT tN (nb,b)] (.sb (eqI a b)):=by
 refine PurS.of (S:=[]) (T:=[]) (U:=[]) (tbl:=[]) (n:=26) hm31 cfg .nil .nil .nil .nil 0 Tryz.call105 Tryz.func105 (ac105_ok (some (0,0))) (by rw[Tryz.ntmps105];exact Nat.le_refl _) rfl ⟨_,rfl⟩ ?_
 intro cmp ar cv tn ic ai mx an ad ml sb mn ln em gt up ap sc vw cp rp p1 p2 s1 s2 X Y hX hY r0 r1 r2 r3 r4 r5 r6 r7 r8 r9 r10 r11 r12 r13 r14 r15 r16 r17 r18 r19 r20 r21 r22 r23 r24
 generalize hg0:eqI=g0
 cbv
 refine BR.mk ?_ ?_ <;> intro hc
 ·subst_vars
  simp only[Short_iff,cmpR,arR,mxR,INB_iff,SLB_iff,SLM_iff,NZ_iff,NN_iff,EQN_iff,LEN_iff,LIM_iff,MK_iff,decide_eq_true_eq,decide_eq_false_iff_not,ne_eq,Bool.and_eq_true,nc_eq]at *
  grind [eqI]
 ·refine LOOP.ind (σ:=Int) (fun i=>[(0,.tl na tW a),(1,.tl nb tW b),(5,.p (iv i))]) (fun _=>⟨[],[]⟩) (fun i=>(a.length - i).toNat) (fun i=>0≤i∧i≤a.length∧(a.drop i.toNat=b.drop i.toNat↔a=b)) 0 (by simp) (.inl ⟨rfl,rfl⟩) ?_
  intro i hI X' hX
  have hd:=drop_eq (t:=tW) (a:=a) (b:=b) (i:=i)
  have he:=gtR_end (l:=a) (i:=i)
  have he':=gtR_end (l:=b) (i:=i)
  have h:=h.h
  cbv
  repeat' (first | exact True.intro | refine And.intro ?_ ?_ | (refine BR.mk ?_ ?_ <;> intro _) | (refine CASE.mk ?_;intro _) | refine NEXT.mk (hX _ _ _ ?_ ?_ (.inl ⟨rfl,rfl⟩)))
  all_goals clear hX
  all_goals subst_vars
  all_goals try simp only[Short_iff,cmpR,arR,mxR,INB_iff,SLB_iff,SLM_iff,NZ_iff,NN_iff,EQN_iff,LEN_iff,LIM_iff,MK_iff,decide_eq_true_eq,decide_eq_false_iff_not,ne_eq,Bool.and_eq_true]at *
  all_goals try dsimp only[Ty.den]at *
  all_goals try simp only[nc_eq]at *
  all_goals try (simp (disch:=omega) only[wrap64]at *)
  all_goals grind [eqI]
theorem cEqNat (na:Option Bool) (a:List Int) (nb:Option Bool) (b:List Int) (h:Short 2000 a):PurS Tryz.prog 79 [injT tN (na,a),injT tN (nb,b)] (.sb (eqI a b)):=by
 refine PurS.of (S:=[(105,_)]) (T:=[]) (U:=[]) (tbl:=[]) (n:=8) hm31 cfg (.cons (spT2.ok (a:=(.sl (.int .u32))) (b:=(.sl (.int .u32))) fun x0 x1 h=>cEqLimbs x0.1 x0.2 x1.1 x1.2 h) .nil) .nil .nil .nil 0 Tryz.call79 Tryz.func79 (ac79_ok (some (0,0))) (by rw[Tryz.ntmps79];exact Nat.le_refl _) rfl ⟨_,rfl⟩ ?_
 intro cmp ar cv tn ic ai mx an ad ml sb mn ln em gt up ap sc vw cp rp p1 p2 s1 s2 X Y hX hY r0 r1 r2 r3 r4 r5 r6 r7 r8 r9 r10 r11 r12 r13 r14 r15 r16 r17 r18 r19 r20 r21 r22 r23 r24
 generalize hg0:eqI=g0
 cbv
 refine ⟨h,BR.mk (fun h=>h.symm) (fun h=>h.symm)⟩
theorem cCpInts (nl:Option Bool) (l:List Int) (hl:Short 2000 l):PurS Tryz.prog 23 [injT (.sl tI) (nl,l)] (.tl none tI l):=by
 refine PurS.of (S:=[]) (T:=[]) (U:=[]) (tbl:=[]) (n:=19) hm31 cfg .nil .nil .nil .nil 0 Tryz.call23 Tryz.func23 (ac23_ok (some (0,0))) (by rw[Tryz.ntmps23];exact Nat.le_refl _) rfl ⟨_,rfl⟩ ?_
 intro cmp ar cv tn ic ai mx an ad ml sb mn ln em gt up ap sc vw cp rp p1 p2 s1 s2 X Y hX hY r0 r1 r2 r3 r4 r5 r6 r7 r8 r9 r10 r11 r12 r13 r14 r15 r16 r17 r18 r19 r20 r21 r22 r23 r24
 cbv
 have hl:=hl.h
 refine LOOP.ind (σ:=List Int×Int) (fun (a,i)=>[(0,.tl nl tI l),(3,.og 0 tI a),(4,.p (iv i))]) (fun (a,i)=>⟨[],[(ml (ln tI a) 1,3)]⟩) (fun (a,i)=>(l.length - i).toNat) (fun (a,i)=>0≤i∧i≤l.length∧a ++ l.drop i.toNat=l) ([],0) (by simp) (.inr ⟨[],[none],?_⟩) ?_
 ·rw[SIM_iff];cbv;simp[nlLe_self]
 intro ⟨a,i⟩ hI X' hX
 cbv
 have hd:=gtR_drop (t:=tI) (l:=l) (i:=i)
 have he:=gtR_end (l:=l) (i:=i)
 repeat' (first | exact True.intro | refine And.intro ?_ ?_ | (refine BR.mk ?_ ?_ <;> intro _) | (refine CASE.mk ?_;intro _) | refine NEXT.mk (hX (_,_) _ _ ?_ ?_ (.inl ⟨rfl,rfl⟩)))
 all_goals clear hX
 all_goals subst_vars
 all_goals try simp only[Short_iff,cmpR,arR,mxR,INB_iff,SLB_iff,SLM_iff,NZ_iff,NN_iff,EQN_iff,LEN_iff,LIM_iff,MK_iff,decide_eq_true_eq,decide_eq_false_iff_not,ne_eq,Bool.and_eq_true]at *
 all_goals try dsimp only[Ty.den]at *
 all_goals try simp only[nc_eq]at *
 all_goals try (simp (disch:=omega) only[wrap64]at *)
 all_goals grind [nlLe_none,nlLe_self]
def eqR (s:Bool) (a b:List Int) (s':Bool) (a' b':List Int):Bool:=decide (s=s') && eqI a a' && eqI b b'
theorem cEqR (s:Bool) (na:Option Bool) (a:List Int) (nb:Option Bool) (b:List Int) (s':Bool) (na':Option Bool) (a':List Int) (nb':Option Bool) (b':List Int) (ha:Short 2000 a) (hb:Short 2000 b):PurS Tryz.prog 46 [injT tR (s,(na,a),(nb,b)),injT tR (s',(na',a'),(nb',b'))] (.sb (eqR s a b s' a' b')):=by
 refine PurS.of (S:=[(79,_)]) (T:=[]) (U:=[]) (tbl:=[]) (n:=24) hm31 cfg (.cons (spT2.ok (a:=(.sl (.int .u32))) (b:=(.sl (.int .u32))) fun x0 x1 h=>cEqNat x0.1 x0.2 x1.1 x1.2 h) .nil) .nil .nil .nil 0 Tryz.call46 Tryz.func46 (ac46_ok (some (0,0))) (by rw[Tryz.ntmps46];exact Nat.le_refl _) rfl ⟨_,rfl⟩ ?_
 intro cmp ar cv tn ic ai mx an ad ml sb mn ln em gt up ap sc vw cp rp p1 p2 s1 s2 X Y hX hY r0 r1 r2 r3 r4 r5 r6 r7 r8 r9 r10 r11 r12 r13 r14 r15 r16 r17 r18 r19 r20 r21 r22 r23 r24
 generalize hg0:eqI=g0
 generalize hg1:eqR=g1
 cbv
 have e:g1 s a b s' a' b'=(decide (s=s') && g0 a a' && g0 b b'):=by rw[←hg0,←hg1];rfl
 have k1:∀ t:Bool,s=t→s'=t→Short 2000 a∧BR (g0 a a') (Short 2000 b∧BR (g0 b b') (true=g1 s a b s' a' b') (false=g1 s a b s' a' b')) (false=g1 s a b s' a' b'):=fun t h1 h2=>by
  refine ⟨ha,BR.mk (fun h3=>⟨hb,BR.mk (fun h4=>?_) (fun h4=>?_)⟩) (fun h3=>?_)⟩
  ·rw[e,h1,h2,h3,h4];simp
  ·rw[e,h1,h2,h3,h4];simp
  ·rw[e,h1,h2,h3];simp
 refine BR.mk (fun h1=>BR.mk (fun h2=>k1 true h1 h2) (fun h2=>?_)) (fun h1=>BR.mk (fun h2=>?_) (fun h2=>k1 false h1 h2))
 ·rw[e,h1,h2];simp
 ·rw[e,h1,h2];simp
def rnum (s:Bool) (n d:Nat):Rat:=mkRat (if s then -(n:Int) else n) d
def qS (q:Rat):Bool:=decide (q.num<0)
def qN (q:Rat):List Int:=lm q.num.natAbs
def qD (q:Rat):List Int:=if q.den=1 then [] else lm q.den
def dn (l:List Int):Nat:=if l=[] then 1 else vl l
def rv (s:Bool) (a b:List Int):Rat:=rnum s (vl a) (dn b)
theorem rnum_low {s:Bool} {n d:Nat} (h:d≠0):(rnum s n d).num=(if s then -((n / Nat.gcd n d:Nat):Int) else ((n / Nat.gcd n d:Nat):Int))∧(rnum s n d).den=d / Nat.gcd n d:=by
 have e:(if s then -(n:Int) else n).natAbs=n:=by split <;> simp
 have hg:((Nat.gcd n d:Nat):Int) ∣ (n:Int):=Int.natCast_dvd_natCast.2 (Nat.gcd_dvd_left n d)
 unfold rnum
 rw[Rat.mkRat_def,dif_neg h,Rat.normalize_eq]
 simp only[e]
 refine ⟨?_,trivial⟩
 cases s
 ·simp only[Bool.false_eq_true,if_false];exact (Int.natCast_ediv _ _).symm
 ·simp only[if_true];rw[Int.neg_ediv_of_dvd hg,Int.natCast_ediv]
def unB (l:List Int):Bool:=decide (l=[1])
def rchk (s:Bool) (a b:List Int):Int:=
 if a.length>128∨b.length>128 then 4
 else if bchk a≠0∨bchk b≠0∨b=[1]∨(a=[]∧(s=true∨b≠[])) then 2
 else if b≠[]∧gcdL a b≠[1] then 2 else 0
structure RK (s:Bool) (a b:List Int):Prop where
 ca:CN a
 cb:CN b
 la:a.length≤128
 lb:b.length≤128
 b1:b≠[1]
 z:a=[]→s=false∧b=[]
 g:b≠[]→Nat.gcd (vl a) (vl b)=1
theorem bchk_cn {l:List Int} (h:LB l) (hc:bchk l=0):CN l:=by
 refine CN.of_last h fun hne h0=>?_
 have hl:=List.length_pos_iff.2 hne
 unfold bchk endB at hc
 split at hc
 ·exact absurd hc (by decide)
 ·split at hc
  ·exact absurd hc (by decide)
  ·rename_i h2
   exact h2 (by simp only[decide_eq_true_eq];exact ⟨hl,h0⟩)
theorem lm_one {n:Nat}:lm n=[1]↔n=1:=⟨fun h=>by have:=vl_lm n;rw[h]at this;exact this.symm,fun h=>by subst h;rw[lm_pos (by decide),show 1 / 4294967296=0 from rfl,lm_zero];rfl⟩
theorem rchk_ok {s:Bool} {a b:List Int} (ha:LB a) (hb:LB b):rchk s a b=0↔RK s a b:=by
 unfold rchk gcdL
 constructor
 ·intro h
  split at h
  ·exact absurd h (by decide)
  ·split at h
   ·exact absurd h (by decide)
   ·rename_i h1 h2
    split at h
    ·exact absurd h (by decide)
    ·rename_i h3
     refine ⟨bchk_cn ha ?_,bchk_cn hb ?_,by omega,by omega,fun h4=>h2 (.inr (.inr (.inl h4))),fun h4=>?_,fun h4=>?_⟩
     ·exact Classical.byContradiction fun h4=>h2 (.inl h4)
     ·exact Classical.byContradiction fun h4=>h2 (.inr (.inl h4))
     ·have h5:¬ (s=true∨b≠[]):=fun h5=>h2 (.inr (.inr (.inr ⟨h4,h5⟩)))
      refine ⟨?_,Classical.byContradiction fun h6=>h5 (.inr h6)⟩
      cases s
      ·rfl
      ·exact absurd (.inl rfl) h5
     ·exact lm_one.1 (Classical.byContradiction fun h5=>h3 ⟨h4,h5⟩)
 ·intro h
  have la:=h.la
  have lb:=h.lb
  rw[if_neg (by omega),if_neg,if_neg]
  ·rintro ⟨h1,h2⟩;exact h2 (lm_one.2 (h.g h1))
  ·rintro (h1 | h1 | h1 | ⟨h1,h2⟩)
   ·exact h1 (NM.chk ⟨h.ca,by omega⟩)
   ·exact h1 (NM.chk ⟨h.cb,by omega⟩)
   ·exact h.b1 h1
   ·obtain ⟨h3,h4⟩:=h.z h1
    rcases h2 with h2 | h2
    ·rw[h3]at h2;exact absurd h2 (by decide)
    ·exact h2 h4
theorem RK.dn0 {s:Bool} {a b:List Int} (h:RK s a b):dn b≠0∧Nat.gcd (vl a) (dn b)=1:=by
 unfold dn
 split
 ·exact ⟨by decide,Nat.gcd_one_right _⟩
 ·rename_i hb
  refine ⟨fun h0=>hb ?_,h.g hb⟩
  rw[←h.cb.eq,h0,lm_zero]
theorem RK.rv {s:Bool} {a b:List Int} (h:RK s a b):(rv s a b).num=(if s then -(vl a:Int) else vl a)∧(rv s a b).den=dn b:=by
 obtain ⟨h0,h1⟩:=h.dn0
 have:=rnum_low (s:=s) (n:=vl a) h0
 rw[h1,Nat.div_one,Nat.div_one]at this
 exact this
theorem RK.back {s:Bool} {a b:List Int} (h:RK s a b):qS (Ab.rv s a b)=s∧qN (Ab.rv s a b)=a∧qD (Ab.rv s a b)=b:=by
 obtain ⟨h1,h2⟩:=h.rv
 unfold qS qN qD
 rw[h1,h2]
 refine ⟨?_,?_,?_⟩
 ·cases s
  ·simp only[Bool.false_eq_true,if_false];exact decide_eq_false (by omega)
  ·simp only[if_true]
   have:vl a≠0:=fun h0=>by
    have:a=[]:=by rw[←h.ca.eq,h0,lm_zero]
    exact absurd (h.z this).1 (by decide)
   exact decide_eq_true (by omega)
 ·have e:(if s then -(vl a:Int) else (vl a:Int)).natAbs=vl a:=by split <;> simp
  rw[e];exact h.ca.eq
 ·unfold dn
  by_cases hb:b=[]
  ·rw[if_pos hb,if_pos rfl,hb]
  ·rw[if_neg hb,if_neg,h.cb.eq]
   intro h3
   exact h.b1 (by rw[←h.cb.eq,h3];exact lm_one.2 rfl)
end Go.Ab
