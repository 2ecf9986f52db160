/- Contracts of the channel's methods: Hear. -/
import Derived.Test.YteiolnofaebknaaLh
set_option linter.unusedSimpArgs false
set_option linter.unusedVariables false
set_option maxRecDepth 20000
set_option maxHeartbeats 2000000
namespace Go.Ab
open Go.Proofs
theorem downM_len:∀ (k:Nat) (q:List tPar.den) (i m:Int),(downM k q i m).length=q.length
 | 0,q,i,m=>rfl
 | k+1,q,i,m=>by
  simp only[downM]
  split
  ·rfl
  ·split
   ·rw[downM_len k];simp
   ·rfl
theorem popM_len (q:List tPar.den) (n:Nat):(popM q n).length=q.length:=by unfold popM;rw[downM_len];simp
def hearM (t:Int):Nat→List tPar.den→List tChoice.den→Nat×List tPar.den×List tChoice.den
 | 0,q,out=>(0,q,out)
 | m+1,q,out=>if (gtR tPar q 0).1≤t then hearM t m (popM q m) (out ++ [(gtR tPar (popM q m) m).2.2]) else (m+1,q,out)
theorem hearM_step {t:Int} {n:Nat} {q:List tPar.den} {out:List tChoice.den} (h:0<n):hearM t n q out=if (gtR tPar q 0).1≤t then hearM t (n - 1) (popM q (n - 1)) (out ++ [(gtR tPar (popM q (n - 1)) ((n - 1:Nat):Int)).2.2]) else (n,q,out):=by
 obtain ⟨m,rfl⟩:∃ m,n=m+1:=⟨n - 1,by omega⟩
 rfl
theorem hearM_end {t:Int} {n:Nat} {q:List tPar.den} {out:List tChoice.den} (h:n=0∨¬ (gtR tPar q 0).1≤t):hearM t n q out=(n,q,out):=by
 cases n with
 | zero=>rfl
 | succ m=>simp only[hearM];rw[if_neg (by rcases h with h | h;cases h;exact h)]
def linkG (F:List Int) (now sent:Int) (N n:Nat) (q:List tPar.den) (g:List (Nat×Nat)):StS:=
 ⟨[{ cells:=[.arr 256 tI F,.p (iv now),.p (iv sent),.ptr 1 0],e:=103,fz:=false },{ cells:=[.ms 2 0 6 none n],e:=100,fz:=false },{ cells:=[.arr N tPar q],e:=97,fz:=false,ap:=true }],g⟩
theorem cHear (F:List Int) (now sent:Int) (N n n1:Nat) (q q1:List tPar.den) (o1:List tChoice.den) (k1:Nat) (t:Int) (hr:hearM t n q []=(n1,q1,o1)) (hk:k1=o1.length*4) (ht:atM now t=0) (hq:q.length=N) (hN:n≤N) (hn:n≤64):FnS Try.prog 58 ([.ptr 0 0,.p (iv t)]) (linkS F now sent N n q ) fun x_ s_=>x_=(.tup [.og 0 tChoice o1,.p (iv 0)])∧s_=(linkG F t sent N n1 q1 [(k1,25)]):=by
 refine FnS.of (S:=[]) (T:=[(64,_)]) (U:=[]) (tbl:=[(61,ac61 none,[.tmp 4],29),(62,ac62 none,[.tmp 2],5)]) (n:=57) hm33 cfg .nil (.cons cPopT .nil) .nil (.cons Try.call61 Try.func61 (ac61_ok none) (by rw[Try.ntmps61];exact Nat.le_refl _) (.cons Try.call62 Try.func62 (ac62_ok none) (by rw[Try.ntmps62];exact Nat.le_refl _) .nil)) 6 Try.call58 Try.func58 (ac58_ok (some (3,0))) (by rw[Try.ntmps58];exact Nat.le_refl _) rfl _ _ _ (by rfl) ?_
 intro cmp ar cv tn ic ai mx an ad ml sb mn ln em gt up ap sc vw cp rp p1 p2 s1 s2 X Y hX hY r0 r1 r2 r3 r4 r5 r6 r7 r8 r9 r10 r11 r12 r13 r14 r15 r16 r17 r18 r19 r20 r21 r22 r23 r24
 generalize hg0:popM=g0
 cbv
 repeat' (first | exact True.intro | refine And.intro ?_ ?_ | (refine BR.mk ?_ ?_ <;> intro _) | (refine CASE.mk ?_;intro _))
 all_goals try (refine LOOP.ind (σ:=Nat×List tPar.den×List tChoice.den) (fun (n,q,o)=>[(0,.ptr 0 0),(1,.p (iv t)),(4,.og 0 tChoice o)]) (fun (n,q,o)=>linkG F t sent N n q [(ml (ln tChoice o) 4,25)]) (fun (n,q,o)=>n) (fun (n',q',o')=>n'≤n∧n'+o'.length≤64∧q'.length=N∧hearM t n' q' o'=(n1,q1,o1)) (n,q,[]) ⟨Nat.le_refl _,by simpa using hn,hq,hr⟩ (.inr ⟨[some 0,some 1,some 2],[none],?_⟩) ?_)
 all_goals first | (show SIM _ _ _ _ _ _ _ _;rw[SIM_iff];cbv;simp[nlLe_self,lstEq];done) | skip
 all_goals first | (show ∀ _,_;skip) | (exfalso;subst_vars;simp only[Short_iff,cmpR,arR,mxR,INB_iff,SLB_iff,SLM_iff,NZ_iff,NN_iff,EQN_iff,LEN_iff,LIM_iff,MK_iff,decide_eq_true_eq,decide_eq_false_iff_not,ne_eq,Bool.and_eq_true]at *;grind [atM])
 all_goals intro ⟨n',q',o'⟩ hI X' hX
 all_goals dsimp only at hI
 all_goals obtain ⟨n2,hn2⟩:∃ x,x=n' - 1:=⟨_,rfl⟩
 all_goals obtain ⟨q2,hq2⟩:∃ x,x=popM q' n2:=⟨_,rfl⟩
 all_goals obtain ⟨o2,ho2⟩:∃ x,x=o' ++ [(gtR tPar q2 n2).2.2]:=⟨_,rfl⟩
 all_goals cbv
 repeat' (first | exact True.intro | refine And.intro ?_ ?_ | (refine BR.mk ?_ ?_ <;> intro _) | (refine CASE.mk ?_;intro _))
 all_goals try (refine RET.mk ⟨[some 0,some 1,some 2],[some 0],?_⟩;rw[SIM_iff];cbv)
 any_goals refine NEXT.mk ?_
 any_goals (refine hX (n2,q2,o2) _ _ ?_ ?_ (.inr ⟨[some 0,some 1,some 2],[some 0],?_⟩))
 any_goals (rw[SIM_iff];cbv)
 all_goals clear hX
 all_goals subst_vars
 all_goals try simp only[Short_iff,cmpR,arR,mxR,INB_iff,SLB_iff,SLM_iff,NZ_iff,NN_iff,EQN_iff,LEN_iff,LIM_iff,MK_iff,decide_eq_true_eq,decide_eq_false_iff_not,ne_eq,Bool.and_eq_true,POPK_iff,and_true,true_and]at *
 all_goals try dsimp only[Ty.den]at *
 all_goals try simp only[nc_eq]at *
 all_goals try (simp (disch:=omega) only[wrap64]at *)
 all_goals have e1:=hearM_end (t:=t) (n:=n') (q:=q') (out:=o')
 all_goals have e2:=hearM_step (t:=t) (n:=n') (q:=q') (out:=o')
 all_goals have e3:=popM_len q' (n' - 1)
 all_goals clear hr
 all_goals first | omega | grind
end Go.Ab
