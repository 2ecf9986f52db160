/- The heap's Pop. -/
import Derived.Test.YteiolnofaebknaaLg
set_option linter.unusedSimpArgs false
set_option linter.unusedVariables false
set_option maxRecDepth 20000
set_option maxHeartbeats 2000000
namespace Go.Ab
open Go.Proofs
structure DOWNK (N n:Nat) (q:List tPar.den) (i m:Int):Prop where
 h:n≤300∧q.length=N∧n≤N∧0≤i∧i≤m∧m≤n
theorem DOWNK_iff {N n:Nat} {q:List tPar.den} {i m:Int}:DOWNK N n q i m↔n≤300∧q.length=N∧n≤N∧0≤i∧i≤m∧m≤n:=⟨fun h=>h.1,fun h=>⟨h⟩⟩
def spDown (m:Nat→List tPar.den→Int→Int→List tPar.den):OpsS→CallS:=fun o _ ds st K=>match ds with
 | [.ifc 99 (.ptr a 0),.p (.v (.int .i64 i)),.p (.v (.int .i64 j))]=>heapAt a st fun b N n q=>DOWNK N n q i j∧frS [a,b] [] [.ifc 99 (.ptr 0 0),.p (iv i),.p (iv j)] (heapS N n q) .bad (heapS N n (m (o.ad n 1) q i j)) ds st K
 | _=>False
theorem cDownT:∀ ds st K,spDown downM OpsS.real 67 ds st K→FnS Try.prog 67 ds st K:=fun ds st K h=>by
 unfold spDown at h
 split at h
 ·obtain ⟨b,N,n,q,hu,h⟩:=heapAt_some h
  obtain ⟨h1,h2,h3,h4,h5,h6⟩:=hu.h
  exact frS_ok (cDown N n q _ _ h1 h2 h3 h4 h5 h6) h
 ·exact h.elim
def popM (q:List tPar.den) (n:Nat):List tPar.den:=downM (n+1+1) ((q.set 0 (gtR tPar q n)).set n (gtR tPar q 0)) 0 n
theorem cPop (N n m:Nat) (q:List tPar.den) (x:tPar.den) (hm:n=m+1) (hx:x=gtR tPar (popM q m) m) (hn:n≤300) (hq:q.length=N) (hN:n≤N):FnS Try.prog 64 ([.ifc 99 (.ptr 0 0)]) (heapS N n q ) fun x_ s_=>x_=(.ifc 97 (injT tPar x))∧s_=(heapS N m (popM q m)):=by
 refine FnS.of (S:=[]) (T:=[(67,_)]) (U:=[]) (tbl:=[(86,ac86 none,[.tmp 2],25),(88,ac88 none,[],20),(62,ac62 none,[.tmp 2],5)]) (n:=15) hm33 cfg .nil (.cons cDownT .nil) .nil (.cons Try.call86 Try.func86 (ac86_ok none) (by rw[Try.ntmps86];exact Nat.le_refl _) (.cons Try.call88 Try.func88 (ac88_ok none) (by rw[Try.ntmps88];exact Nat.le_refl _) (.cons Try.call62 Try.func62 (ac62_ok none) (by rw[Try.ntmps62];exact Nat.le_refl _) .nil))) 6 Try.call64 Try.func64 (ac64_ok (some (2,0))) (by rw[Try.ntmps64];exact Nat.le_refl _) rfl _ _ _ (by rfl) ?_
 intro cmp ar cv tn ic ai mx an ad ml sb mn ln em gt up ap sc vw cp rp p1 p2 s1 s2 X Y hX hY r0 r1 r2 r3 r4 r5 r6 r7 r8 r9 r10 r11 r12 r13 r14 r15 r16 r17 r18 r19 r20 r21 r22 r23 r24
 generalize hg0:downM=g0
 generalize hg1:popM=g1
 cbv
 repeat' (first | exact True.intro | refine And.intro ?_ ?_ | (refine BR.mk ?_ ?_ <;> intro _) | (refine CASE.mk ?_;intro _))
 all_goals try (refine RET.mk ⟨[some 0,some 1],[],?_⟩;rw[SIM_iff];cbv)
 all_goals subst_vars
 all_goals try simp only[Short_iff,cmpR,arR,mxR,INB_iff,SLB_iff,SLM_iff,NZ_iff,NN_iff,EQN_iff,LEN_iff,LIM_iff,MK_iff,decide_eq_true_eq,decide_eq_false_iff_not,ne_eq,Bool.and_eq_true,DOWNK_iff,and_true,true_and]at *
 all_goals try dsimp only[Ty.den]at *
 all_goals try simp only[nc_eq]at *
 all_goals have hw:IntKind.i64.wrap (((m+1:Nat):Int) - 1)=(m:Int):=by rw[wrap64 (by omega) (by omega)];omega
 all_goals try simp only[hw]at *
 all_goals have hu:∀ (l:List tPar.den) (k:Int) (x:tPar.den),l.length=q.length→upR tPar q.length l k x=l.set k.toNat x:=fun l k x h=>upR_len h k x
 all_goals try simp (disch:=simp) only[hu]at *
 all_goals first | omega | grind [popM]
structure POPK (N n:Nat) (q:List tPar.den):Prop where
 h:0<n∧n≤300∧q.length=N∧n≤N
theorem POPK_iff {N n:Nat} {q:List tPar.den}:POPK N n q↔0<n∧n≤300∧q.length=N∧n≤N:=⟨fun h=>h.1,fun h=>⟨h⟩⟩
def spPop (pm:List tPar.den→Nat→List tPar.den):OpsS→CallS:=fun o _ ds st K=>match ds with
 | [.ifc 99 (.ptr a 0)]=>heapAt a st fun b N n q=>POPK N n q∧frS [a,b] [] [.ifc 99 (.ptr 0 0)] (heapS N n q) (.ifc 97 (injT tPar (o.gt tPar (pm q (o.sb n 1)) (o.ic (o.sb n 1))))) (heapS N (o.sb n 1) (pm q (o.sb n 1))) ds st K
 | _=>False
theorem cPopT:∀ ds st K,spPop popM OpsS.real 64 ds st K→FnS Try.prog 64 ds st K:=fun ds st K h=>by
 unfold spPop at h
 split at h
 ·obtain ⟨b,N,n,q,hu,h⟩:=heapAt_some h
  obtain ⟨h1,h2,h3,h4⟩:=hu.h
  exact frS_ok (cPop N n (n - 1) q _ (by omega) rfl h2 h3 h4) h
 ·exact h.elim
end Go.Ab
