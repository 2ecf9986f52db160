/- Contracts of the heap's functions: down,Pop. -/
import Derived.Test.YteiolnofaebknaaLf
set_option linter.unusedSimpArgs false
set_option linter.unusedVariables false
set_option maxRecDepth 20000
set_option maxHeartbeats 2000000
namespace Go.Ab
open Go.Proofs
def lessQ (q:List tPar.den) (a b:Int):Prop:=(gtR tPar q a).1<(gtR tPar q b).1∨(gtR tPar q a).1=(gtR tPar q b).1∧(gtR tPar q a).2.1<(gtR tPar q b).2.1
instance (q:List tPar.den) (a b:Int):Decidable (lessQ q a b):=by unfold lessQ;exact inferInstance
def kidM (q:List tPar.den) (i m:Int):Int:=if 2*i+1+1<m∧lessQ q (2*i+1+1) (2*i+1) then 2*i+1+1 else 2*i+1
def downM:Nat→List tPar.den→Int→Int→List tPar.den
 | 0,q,_,_=>q
 | k+1,q,i,m=>if 2*i+1≥m then q else
   if lessQ q (kidM q i m) i then downM k ((q.set i.toNat (gtR tPar q (kidM q i m))).set (kidM q i m).toNat (gtR tPar q i)) (kidM q i m) m else q
theorem kid_ok {q:List tPar.den} {i m:Int} (h:0≤i):i<kidM q i m:=by unfold kidM;split <;> omega
theorem kid_lt {q:List tPar.den} {i m:Int} (h:2*i+1<m):kidM q i m<m:=by unfold kidM;split <;> omega
theorem cDown (N n:Nat) (q:List tPar.den) (i m:Int) (hn:n≤300) (hq:q.length=N) (hN:n≤N) (h0:0≤i) (h1:i≤m) (h2:m≤n):FnS Try.prog 67 ([.ifc 99 (.ptr 0 0),.p (iv i),.p (iv m)]) (heapS N n q ) fun x_ s_=>x_=(.bad)∧s_=(heapS N n (downM (n+1) q i m)):=by
 refine FnS.of (S:=[]) (T:=[]) (U:=[]) (tbl:=[(85,ac85 none,[.tmp 6],16),(89,ac89 none,[.tmp 4],24),(88,ac88 none,[],20)]) (n:=48) hm33 cfg .nil .nil .nil (.cons Try.call85 Try.func85 (ac85_ok none) (by rw[Try.ntmps85];exact Nat.le_refl _) (.cons Try.call89 Try.func89 (ac89_ok none) (by rw[Try.ntmps89];exact Nat.le_refl _) (.cons Try.call88 Try.func88 (ac88_ok none) (by rw[Try.ntmps88];exact Nat.le_refl _) .nil))) 6 Try.call67 Try.func67 (ac67_ok (some (2,0))) (by rw[Try.ntmps67];exact Nat.le_refl _) rfl _ _ _ (by rfl) ?_
 intro cmp ar cv tn ic ai mx an ad ml sb mn ln em gt up ap sc vw cp rp p1 p2 s1 s2 X Y hX hY r0 r1 r2 r3 r4 r5 r6 r7 r8 r9 r10 r11 r12 r13 r14 r15 r16 r17 r18 r19 r20 r21 r22 r23 r24
 generalize hg0:downM=g0
 cbv
 refine LOOP.ind (σ:=List tPar.den×Int×Nat) (fun (q,j,_)=>[(0,.ifc 99 (.ptr 0 0)),(1,.p (iv i)),(2,.p (iv m)),(7,.p (iv j))]) (fun (q,j,_)=>heapS N n q) (fun (q,j,_)=>(m - j).toNat) (fun (q',j',k)=>0≤j'∧j'≤m∧m - j'<k∧q'.length=N∧downM k q' j' m=downM (n+1) q i m) (q,i,n+1) ⟨h0,h1,by grind,hq,rfl⟩ (.inl ⟨rfl,rfl⟩) ?_
 intro ⟨q',j',k⟩ hI X' hX
 dsimp only at hI
 obtain ⟨q2,hq2⟩:∃ q2,q2=(q'.set j'.toNat (gtR tPar q' (kidM q' j' m))).set (kidM q' j' m).toNat (gtR tPar q' j'):=⟨_,rfl⟩
 obtain ⟨i2,hi2⟩:∃ i2,i2=kidM q' j' m:=⟨_,rfl⟩
 obtain ⟨k,rfl⟩:∃ m,k=m+1:=⟨k - 1,by grind⟩
 cbv
 repeat' (first | exact True.intro | refine And.intro ?_ ?_ | (refine BR.mk ?_ ?_ <;> intro _) | (refine CASE.mk ?_;intro _))
 all_goals try (refine RET.mk ⟨[some 0,some 1],[],?_⟩;rw[SIM_iff];cbv)
 any_goals refine NEXT.mk ?_
 any_goals (refine hX (q2,i2,k) _ _ ?_ ?_ (.inr ⟨[some 0,some 1],[],?_⟩))
 any_goals (rw[SIM_iff];cbv)
 all_goals clear hX
 all_goals subst_vars
 all_goals try simp only[Short_iff,cmpR,arR,mxR,INB_iff,SLB_iff,SLM_iff,NZ_iff,NN_iff,EQN_iff,LEN_iff,LIM_iff,MK_iff,decide_eq_true_eq,decide_eq_false_iff_not,ne_eq,Bool.and_eq_true,and_true,true_and]at *
 all_goals try dsimp only[Ty.den]at *
 all_goals try simp only[nc_eq]at *
 all_goals try (simp (disch:=omega) only[wrap64]at *)
 all_goals have hu:∀ (l:List tPar.den) (k:Int) (x:tPar.den),l.length=q.length→upR tPar q.length l k x=l.set k.toNat x:=fun l k x h=>upR_len h k x
 all_goals try simp (disch:=(simp[hI.2.2.2.1])) only[hu]at *
 all_goals grind [downM,kidM,lessQ,kid_ok,kid_lt]
end Go.Ab
