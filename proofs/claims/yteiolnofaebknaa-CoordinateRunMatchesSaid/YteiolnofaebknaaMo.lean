/- The reference's check of fates. -/
import Derived.Test.YteiolnofaebknaaMe
set_option linter.unusedSimpArgs false
set_option linter.unusedVariables false
namespace Go.Ab
open Go.Proofs
theorem c52 (nl:Option Bool) (l:List Int):PurS Try.prog 52 [injT (.sl tI) (nl,l)] (.p (iv (wrongM l))):=by
 refine PurS.of (S:=[]) (T:=[]) (U:=[]) (tbl:=[]) (n:=25) hm33 cfg .nil .nil .nil .nil 0 Try.call52 Try.func52 (ac52_ok (some (0,0))) (by rw[Try.ntmps52];exact Nat.le_refl _) rfl ⟨_,rfl⟩ ?_
 intro cmp ar cv tn ic ai mx an ad ml sb mn ln em gt up ap sc vw cp rp p1 p2 s1 s2 X Y hX hY r0 r1 r2 r3 r4 r5 r6 r7 r8 r9 r10 r11 r12 r13 r14 r15 r16 r17 r18 r19 r20 r21 r22 r23 r24
 generalize hg0:wrongM=g0
 cbv
 refine ⟨fun h=>?_,fun h=>LOOP.ind (σ:=Int) (fun i=>[(0,.tl nl tI l),(3,.p (iv i))]) (fun _=>⟨[],[]⟩) (fun i=>(l.length - i).toNat) (fun i=>0≤i∧i≤l.length∧(l.drop i.toNat).any badM=l.any badM) 0 ?_ (.inl ⟨rfl,rfl⟩) ?_⟩
 ·skip
  repeat' (first | exact True.intro | refine And.intro ?_ ?_ | (refine BR.mk ?_ ?_ <;> intro _) | (refine CASE.mk ?_;intro _))
  all_goals subst_vars
  all_goals try simp only[Short_iff,cmpR,arR,mxR,INB_iff,SLB_iff,SLM_iff,NZ_iff,NN_iff,EQN_iff,LEN_iff,LIM_iff,MK_iff,decide_eq_true_eq,decide_eq_false_iff_not,ne_eq,Bool.and_eq_true]at *
  all_goals try dsimp only[Ty.den]at *
  all_goals try simp only[nc_eq]at *
  all_goals try (simp (disch:=omega) only[wrap64]at *)
  grind [wrongM,badM]
 ·simp
 ·intro i hI X' hX
  cbv
  have hd:=gtR_drop (t:=tI) (l:=l) (i:=i)
  have he:=gtR_end (l:=l) (i:=i)
  repeat' (first | exact True.intro | refine And.intro ?_ ?_ | (refine BR.mk ?_ ?_ <;> intro _) | (refine CASE.mk ?_;intro _) | refine NEXT.mk (hX _ _ _ ?_ ?_ (.inl ⟨rfl,rfl⟩)))
  all_goals clear hX
  all_goals subst_vars
  all_goals try simp only[Short_iff,cmpR,arR,mxR,INB_iff,SLB_iff,SLM_iff,NZ_iff,NN_iff,EQN_iff,LEN_iff,LIM_iff,MK_iff,decide_eq_true_eq,decide_eq_false_iff_not,ne_eq,Bool.and_eq_true]at *
  all_goals try dsimp only[Ty.den]at *
  all_goals try simp only[nc_eq]at *
  all_goals try (simp (disch:=omega) only[wrap64]at *)
  all_goals grind [wrongM,badM]
end Go.Ab
