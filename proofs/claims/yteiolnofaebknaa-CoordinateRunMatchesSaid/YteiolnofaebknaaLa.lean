/- Checks of fates. -/
import Derived.Test.YteiolnofaebknaaCod3
set_option linter.unusedSimpArgs false
set_option linter.unusedVariables false
namespace Go.Ab
open Go.Proofs
theorem hm33:Try.prog.follows .mixedOrders=true:=by kernel_rfl
def badM (x:Int):Bool:=decide (x < -1∨x>8)
def wrongM (l:List Int):Int:=if l.length>256 then 4 else if l.any badM then 1 else 0
def idxM:List Int→Int→Int
 | [],_=>-1
 | x :: l,i=>if badM x=true then i else idxM l (i+1)
theorem idxM_any:∀ (l:List Int) (i:Int),0≤i→(decide (0≤idxM l i)=l.any badM)
 | [],i,_=>by simp[idxM]
 | x :: l,i,h=>by
  have:=idxM_any l (i+1) (by omega)
  simp only[idxM,List.any_cons]
  by_cases hb:badM x=true
  ·simp[hb,h]
  ·simp[hb,this]
theorem wrong_ok {l:List Int} (h:wrongM l=0):∀ x∈l,-1≤x∧x≤8:=by
 intro x hx
 unfold wrongM at h
 split at h
 ·cases h
 ·split at h
  ·cases h
  ·rename_i hb
   simp only[Bool.not_eq_true,List.any_eq_false]at hb
   have:=hb x hx
   simp[badM]at this;omega
theorem c44 (x:Int):PurS Try.prog 60 [injT tI x] (.sb (badM x)):=by
 refine PurS.of (S:=[]) (T:=[]) (U:=[]) (tbl:=[]) (n:=9) hm33 cfg .nil .nil .nil .nil 0 Try.call60 Try.func60 (ac60_ok (some (0,0))) (by rw[Try.ntmps60];exact Nat.le_refl _) rfl ⟨_,rfl⟩ ?_
 intro cmp ar cv tn ic ai mx an ad ml sb mn ln em gt up ap sc vw cp rp p1 p2 s1 s2 X Y hX hY r0 r1 r2 r3 r4 r5 r6 r7 r8 r9 r10 r11 r12 r13 r14 r15 r16 r17 r18 r19 r20 r21 r22 r23 r24
 generalize hg0:badM=g0
 cbv
 repeat' (first | exact True.intro | refine And.intro ?_ ?_ | (refine BR.mk ?_ ?_ <;> intro _) | (refine CASE.mk ?_;intro _))
 all_goals subst_vars
 all_goals try simp only[Short_iff,cmpR,arR,mxR,INB_iff,SLB_iff,SLM_iff,NZ_iff,NN_iff,EQN_iff,LEN_iff,LIM_iff,MK_iff,decide_eq_true_eq,decide_eq_false_iff_not,ne_eq,Bool.and_eq_true]at *
 all_goals try dsimp only[Ty.den]at *
 all_goals try simp only[nc_eq]at *
 all_goals try (simp (disch:=omega) only[wrap64]at *)
 all_goals grind [badM]
theorem c50 (nl:Option Bool) (l:List Int) (hl:Short 300 l):PurS Try.prog 65 [injT (.sl tI) (nl,l),.fn (.func 60) [] []] (.p (iv (idxM l 0))):=by
 refine PurS.of (S:=[(60,_)]) (T:=[]) (U:=[]) (tbl:=[]) (n:=19) hm33 cfg (.cons (spT1.ok (a:=(.int .i64)) (pre:=fun _=>True) fun x0 _=>c44 x0) .nil) .nil .nil .nil 0 Try.call65 Try.func65 (ac65_ok (some (0,0))) (by rw[Try.ntmps65];exact Nat.le_refl _) rfl ⟨_,rfl⟩ ?_
 intro cmp ar cv tn ic ai mx an ad ml sb mn ln em gt up ap sc vw cp rp p1 p2 s1 s2 X Y hX hY r0 r1 r2 r3 r4 r5 r6 r7 r8 r9 r10 r11 r12 r13 r14 r15 r16 r17 r18 r19 r20 r21 r22 r23 r24
 generalize hg0:badM=g0
 generalize hg1:idxM=g1
 cbv
 refine LOOP.ind (σ:=Int) (fun i=>[(0,.tl nl tI l),(1,.fn (.func 60) [] []),(7,.p (iv (ic (ln tI l)))),(8,.p (iv i))]) (fun _=>⟨[],[]⟩) (fun i=>(l.length - i).toNat) (fun i=>0≤i∧i≤l.length∧idxM (l.drop i.toNat) i=idxM l 0) 0 (by simp) (.inl ⟨rfl,rfl⟩) ?_
 intro i hI X' hX
 cbv
 have hd:=gtR_drop (t:=tI) (l:=l) (i:=i)
 have he:=gtR_end (l:=l) (i:=i)
 repeat' (first | exact True.intro | refine And.intro ?_ ?_ | (refine BR.mk ?_ ?_ <;> intro _) | (refine CASE.mk ?_;intro _) | refine NEXT.mk (hX _ _ _ ?_ ?_ (.inl ⟨rfl,rfl⟩)))
 all_goals clear hX
 all_goals subst_vars
 all_goals try simp only[Short_iff,cmpR,arR,mxR,INB_iff,SLB_iff,SLM_iff,NZ_iff,NN_iff,EQN_iff,LEN_iff,LIM_iff,MK_iff,decide_eq_true_eq,decide_eq_false_iff_not,ne_eq,Bool.and_eq_true]at *
 all_goals try dsimp only[Ty.den]at *
 all_goals try simp only[nc_eq]at *
 all_goals try (simp (disch:=omega) only[wrap64]at *)
 all_goals grind [idxM]
theorem c43 (nl:Option Bool) (l:List Int) (hl:Short 300 l):PurS Try.prog 59 [injT (.sl tI) (nl,l),.fn (.func 60) [] []] (.sb (l.any badM)):=by
 refine PurS.of (S:=[(65,_)]) (T:=[]) (U:=[]) (tbl:=[]) (n:=9) hm33 cfg (.cons (spTF1.ok (a:=(.sl (.int .i64))) fun x h=>c50 x.1 x.2 h) .nil) .nil .nil .nil 0 Try.call59 Try.func59 (ac59_ok (some (0,0))) (by rw[Try.ntmps59];exact Nat.le_refl _) rfl ⟨_,rfl⟩ ?_
 intro cmp ar cv tn ic ai mx an ad ml sb mn ln em gt up ap sc vw cp rp p1 p2 s1 s2 X Y hX hY r0 r1 r2 r3 r4 r5 r6 r7 r8 r9 r10 r11 r12 r13 r14 r15 r16 r17 r18 r19 r20 r21 r22 r23 r24
 generalize hg0:idxM=g0
 generalize hg1:badM=g1
 generalize hg2:List.any=g2
 cbv
 have h:=idxM_any l 0 (by omega)
 repeat' (first | exact True.intro | refine And.intro ?_ ?_ | (refine BR.mk ?_ ?_ <;> intro _) | (refine CASE.mk ?_;intro _))
 all_goals subst_vars
 all_goals try simp only[Short_iff,cmpR,arR,mxR,INB_iff,SLB_iff,SLM_iff,NZ_iff,NN_iff,EQN_iff,LEN_iff,LIM_iff,MK_iff,decide_eq_true_eq,decide_eq_false_iff_not,ne_eq,Bool.and_eq_true]at *
 all_goals try dsimp only[Ty.den]at *
 all_goals try simp only[nc_eq]at *
 all_goals try (simp (disch:=omega) only[wrap64]at *)
 all_goals grind
theorem c30 (nl:Option Bool) (l:List Int) (hl:Short 300 l):PurS Try.prog 56 [injT (.sl tI) (nl,l)] (.p (iv (wrongM l))):=by
 refine PurS.of (S:=[(59,_)]) (T:=[]) (U:=[]) (tbl:=[]) (n:=10) hm33 cfg (.cons (spTF1.ok (a:=(.sl (.int .i64))) fun x h=>c43 x.1 x.2 h) .nil) .nil .nil .nil 0 Try.call56 Try.func56 (ac56_ok (some (0,0))) (by rw[Try.ntmps56];exact Nat.le_refl _) rfl ⟨_,rfl⟩ ?_
 intro cmp ar cv tn ic ai mx an ad ml sb mn ln em gt up ap sc vw cp rp p1 p2 s1 s2 X Y hX hY r0 r1 r2 r3 r4 r5 r6 r7 r8 r9 r10 r11 r12 r13 r14 r15 r16 r17 r18 r19 r20 r21 r22 r23 r24
 generalize hg0:wrongM=g0
 generalize hg1:List.any=g1
 generalize hg2:badM=g2
 cbv
 repeat' (first | exact True.intro | refine And.intro ?_ ?_ | (refine BR.mk ?_ ?_ <;> intro _) | (refine CASE.mk ?_;intro _))
 all_goals subst_vars
 all_goals try simp only[Short_iff,cmpR,arR,mxR,INB_iff,SLB_iff,SLM_iff,NZ_iff,NN_iff,EQN_iff,LEN_iff,LIM_iff,MK_iff,decide_eq_true_eq,decide_eq_false_iff_not,ne_eq,Bool.and_eq_true]at *
 all_goals try dsimp only[Ty.den]at *
 all_goals try simp only[nc_eq]at *
 all_goals try (simp (disch:=omega) only[wrap64]at *)
 all_goals grind [wrongM]
end Go.Ab
