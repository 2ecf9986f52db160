/- Contracts of the heap's functions. -/
import Derived.Test.YteiolnofaebknaaLd
set_option linter.unusedSimpArgs false
set_option linter.unusedVariables false
set_option maxRecDepth 20000
set_option maxHeartbeats 2000000
namespace Go.Ab
open Go.Proofs
def heapS (N n:Nat) (q:List tPar.den):StS:=
 ⟨[{ cells:=[.ms 1 0 6 none n],e:=100,fz:=false },{ cells:=[.arr N tPar q],e:=97,fz:=false,ap:=true }],[]⟩
def parM (j:Int):Int:=(j - 1).tdiv 2
theorem par_ok {j:Int} (h:0≤j):0≤parM j∧(j=0→parM j=0)∧(0<j→parM j<j):=by
 unfold parM
 by_cases h0:j=0
 ·subst h0;decide
 ·rw[Int.tdiv_eq_ediv_of_nonneg (by omega)];omega
theorem par_wrap {j:Int} (h:0≤j) (h':j<1000):IntKind.i64.wrap ((IntKind.i64.wrap (j - 1)).tdiv 2)=parM j:=by
 have:=par_ok h
 rw[wrap64 (n:=j - 1) (by omega) (by omega)]
 show IntKind.i64.wrap (parM j)=parM j
 by_cases h0:j=0
 ·exact wrap64 (by omega) (by omega)
 ·exact wrap64 (by omega) (by omega)
def upM:Nat→List tPar.den→Int→List tPar.den
 | 0,q,_=>q
 | k+1,q,j=>if parM j=j then q else
   if (gtR tPar q j).1<(gtR tPar q (parM j)).1∨(gtR tPar q j).1=(gtR tPar q (parM j)).1∧(gtR tPar q j).2.1<(gtR tPar q (parM j)).2.1 then
    upM k ((q.set (parM j).toNat (gtR tPar q j)).set j.toNat (gtR tPar q (parM j))) (parM j) else q
theorem upR_len {t:Ty} {n:Nat} {l:List t.den} (h:l.length=n) (k:Int) (x:t.den):upR t n l k x=l.set k.toNat x:=by unfold upR;rw[Ty.norm_eq t h]
theorem cUp (N n:Nat) (q:List tPar.den) (j:Int) (hn:n≤300) (hq:q.length=N) (hN:n≤N) (h0:0≤j) (h1:j<n):FnS Try.prog 66 ([.ifc 99 (.ptr 0 0),.p (iv j)]) (heapS N n q ) fun x_ s_=>x_=(.tup [])∧s_=(heapS N n (upM n q j)):=by
 refine FnS.of (S:=[]) (T:=[]) (U:=[]) (tbl:=[(85,ac85 none,[.tmp 6],16),(89,ac89 none,[.tmp 4],24),(88,ac88 none,[],20)]) (n:=23) hm33 cfg .nil .nil .nil (.cons Try.call85 Try.func85 (ac85_ok none) (by rw[Try.ntmps85];exact Nat.le_refl _) (.cons Try.call89 Try.func89 (ac89_ok none) (by rw[Try.ntmps89];exact Nat.le_refl _) (.cons Try.call88 Try.func88 (ac88_ok none) (by rw[Try.ntmps88];exact Nat.le_refl _) .nil))) 6 Try.call66 Try.func66 (ac66_ok (some (2,0))) (by rw[Try.ntmps66];exact Nat.le_refl _) rfl _ _ _ (by rfl) ?_
 intro cmp ar cv tn ic ai mx an ad ml sb mn ln em gt up ap sc vw cp rp p1 p2 s1 s2 X Y hX hY r0 r1 r2 r3 r4 r5 r6 r7 r8 r9 r10 r11 r12 r13 r14 r15 r16 r17 r18 r19 r20 r21 r22 r23 r24
 generalize hg0:upM=g0
 cbv
 refine LOOP.ind (σ:=List tPar.den×Int×Nat) (fun (q,j,_)=>[(0,.ifc 99 (.ptr 0 0)),(1,.p (iv j))]) (fun (q,j,_)=>heapS N n q) (fun (q,j,_)=>j.toNat) (fun (q',j',k)=>0≤j'∧j'<k∧k≤n∧q'.length=N∧upM k q' j'=upM n q j) (q,j,n) ⟨h0,h1,Nat.le_refl _,hq,rfl⟩ (.inl ⟨rfl,rfl⟩) ?_
 intro ⟨q',j',k⟩ hI X' hX
 dsimp only at hI
 obtain ⟨q2,hq2⟩:∃ q2,q2=(q'.set (parM j').toNat (gtR tPar q' j')).set j'.toNat (gtR tPar q' (parM j')):=⟨_,rfl⟩
 obtain ⟨i2,hi2⟩:∃ i2,i2=parM j':=⟨_,rfl⟩
 obtain ⟨k,rfl⟩:∃ m,k=m+1:=⟨k - 1,by grind⟩
 cbv
 repeat' (first | exact True.intro | refine And.intro ?_ ?_ | (refine BR.mk ?_ ?_ <;> intro _) | (refine CASE.mk ?_;intro _))
 all_goals try (refine RET.mk ⟨[some 0,some 1],[],?_⟩;rw[SIM_iff];cbv)
 any_goals refine NEXT.mk ?_
 any_goals (refine hX (q2,i2,k) _ _ ?_ ?_ (.inr ⟨[some 0,some 1],[],?_⟩))
 any_goals (rw[SIM_iff];cbv)
 all_goals clear hX
 all_goals subst_vars
 all_goals simp only[Short_iff,cmpR,arR,mxR,INB_iff,SLB_iff,SLM_iff,NZ_iff,NN_iff,EQN_iff,LEN_iff,LIM_iff,MK_iff,decide_eq_true_eq,decide_eq_false_iff_not,ne_eq,Bool.and_eq_true]at *
 all_goals try dsimp only[Ty.den]at *
 all_goals try simp only[nc_eq]at *
 all_goals have hw:=par_wrap hI.1 (by omega)
 all_goals have hp:=par_ok hI.1
 all_goals simp only[hw]at *
 all_goals clear hw
 all_goals have hu:∀ (l:List tPar.den) (k:Int) (x:tPar.den),l.length=q.length→upR tPar q.length l k x=l.set k.toNat x:=fun l k x h=>upR_len h k x
 all_goals try simp (disch:=(simp[hI.2.2.2.1])) only[hu]at *
 all_goals grind [upM]
def frS (fl hl:List Nat) (dsL:List DC) (stL:StS) (d:DC) (st':StS) (ds:List DC) (st:StS) (K:DC→StS→Prop):Prop:=
 leSs (fl.map some) (hl.map some) ds dsL∧((Nat.ble 0 stL.box.length && Nat.ble 0 stL.grp.length && dupFree (fl.map some) && dupFree (hl.map some) && lowB true 0 (fl.map some) 0 && lowB false 0 (hl.map some) 0)=true ∧
  leBoxes (fl.map some) (hl.map some) st.box 0 0 (fl.map some) stL.box∧leGrps st.grp (hl.map some) stL.grp∧leEnv (fl.map some) (hl.map some) [] []) ∧
 (Nat.ble stL.box.length st'.box.length && Nat.ble stL.grp.length st'.grp.length)=true ∧
 K (renS (rnOf fl st'.box st.box.length) (rnOf hl st'.grp st.grp.length) d) ⟨mergeL fl (st'.box.map (renB (rnOf fl st'.box st.box.length) (rnOf hl st'.grp st.grp.length))) st.box,mergeL hl st'.grp st.grp⟩
theorem frS_ok {P:Program} {f:FuncId} {fl hl:List Nat} {dsL:List DC} {stL:StS} {d:DC} {st':StS} {ds:List DC} {st:StS} {K:DC→StS→Prop} (h:FnS P f dsL stL fun x s=>x=d∧s=st') (hk:frS fl hl dsL stL d st' ds st K):FnS P f ds st K:=
 FnS.frame fl hl hk.1 (SIM_iff.2 hk.2.1) hk.2.2.1 h hk.2.2.2
structure UPK (N n:Nat) (q:List tPar.den) (j:Int):Prop where
 h:n≤300∧q.length=N∧n≤N∧0≤j∧j<n
theorem UPK_iff {N n:Nat} {q:List tPar.den} {j:Int}:UPK N n q j↔n≤300∧q.length=N∧n≤N∧0≤j∧j<n:=⟨fun h=>h.1,fun h=>⟨h⟩⟩
def heapAt (a:Nat) (st:StS) (K:Nat→Nat→Nat→List tPar.den→Prop):Prop:=match nthD st.box a with
 | some B=>(match B.cells with
  | [.ms b 0 6 none n]=>(match nthD st.box b with
   | some B=>(match B.cells with
    | [.arr N t q]=>(match castL tPar t q with | some q=>K b N n q | none=>False)
    | _=>False)
   | none=>False)
  | _=>False)
 | none=>False
theorem heapAt_some {a:Nat} {st:StS} {K:Nat→Nat→Nat→List tPar.den→Prop} (h:heapAt a st K):∃ b N n q,K b N n q:=by
 unfold heapAt at h
 repeat' split at h
 all_goals first | exact ⟨_,_,_,_,h⟩ | exact h.elim
def spUp (m:Nat→List tPar.den→Int→List tPar.den):OpsS→CallS:=fun _ _ ds st K=>match ds with
 | [.ifc 99 (.ptr a 0),.p (.v (.int .i64 j))]=>heapAt a st fun b N n q=>UPK N n q j∧frS [a,b] [] [.ifc 99 (.ptr 0 0),.p (iv j)] (heapS N n q) (.tup []) (heapS N n (m n q j)) ds st K
 | _=>False
theorem cUpT:∀ ds st K,spUp upM OpsS.real 66 ds st K→FnS Try.prog 66 ds st K:=fun ds st K h=>by
 unfold spUp at h
 split at h
 ·obtain ⟨b,N,n,q,hu,h⟩:=heapAt_some h
  obtain ⟨h1,h2,h3,h4,h5⟩:=hu.h
  exact frS_ok (cUp N n q _ h1 h2 h3 h4 h5) h
 ·exact h.elim
def takeM (q:List tPar.den) (n:Nat):List tPar.den:=q.take n
theorem vw_take {t:Ty} (l:List t.den) (n:Nat):vwR t l.length l 0 n=l.take n:=by unfold vwR;rw[Ty.norm_eq t rfl];simp
def pushS (n:Nat) (q:List tPar.den):StS:=
 ⟨[{ cells:=[.ms 2 0 6 none n],e:=100,fz:=false },{ cells:=[],e:=97,fz:=true,ap:=true },{ cells:=[.arr n tPar q],e:=97,fz:=false,ap:=true }],[]⟩
theorem cPush (N n:Nat) (q:List tPar.den) (x:tPar.den) (hn:n<300) (hq:q.length=N) (hN:n≤N):FnS Try.prog 63 ([.ifc 99 (.ptr 0 0),.ifc 97 (injT tPar x)]) (heapS N n q ) fun x_ s_=>x_=(.tup [])∧s_=(pushS (n+1) (upM (n+1) (takeM q n ++ ([x]:List tPar.den)) n)):=by
 refine FnS.of (S:=[]) (T:=[(66,_)]) (U:=[]) (tbl:=[(87,ac87 none,[],13),(62,ac62 none,[.tmp 2],5)]) (n:=12) hm33 cfg .nil (.cons cUpT .nil) .nil (.cons Try.call87 Try.func87 (ac87_ok none) (by rw[Try.ntmps87];exact Nat.le_refl _) (.cons Try.call62 Try.func62 (ac62_ok none) (by rw[Try.ntmps62];exact Nat.le_refl _) .nil)) 6 Try.call63 Try.func63 (ac63_ok (some (2,0))) (by rw[Try.ntmps63];exact Nat.le_refl _) rfl _ _ _ (by rfl) ?_
 intro cmp ar cv tn ic ai mx an ad ml sb mn ln em gt up ap sc vw cp rp p1 p2 s1 s2 X Y hX hY r0 r1 r2 r3 r4 r5 r6 r7 r8 r9 r10 r11 r12 r13 r14 r15 r16 r17 r18 r19 r20 r21 r22 r23 r24
 generalize hg0:upM=g0
 generalize hg1:takeM=g1
 cbv
 repeat' (first | exact True.intro | refine And.intro ?_ ?_ | (refine BR.mk ?_ ?_ <;> intro _) | (refine CASE.mk ?_;intro _))
 all_goals try (refine RET.mk ⟨[some 0,none,some 2],[],?_⟩;rw[SIM_iff];cbv)
 all_goals subst_vars
 all_goals simp only[Short_iff,cmpR,arR,mxR,INB_iff,SLB_iff,SLM_iff,NZ_iff,NN_iff,EQN_iff,LEN_iff,LIM_iff,MK_iff,decide_eq_true_eq,decide_eq_false_iff_not,ne_eq,Bool.and_eq_true,UPK_iff]at *
 all_goals try dsimp only[Ty.den]at *
 all_goals try simp only[nc_eq]at *
 all_goals try simp only[List.length_cons,List.length_nil,Nat.zero_add,List.length_append]at *
 all_goals have hv:vwR tPar q.length q 0 n=takeM q n:=vw_take (t:=tPar) q n
 all_goals have hl:(takeM q n).length=n:=by unfold takeM;rw[List.length_take];omega
 all_goals have hw:IntKind.i64.wrap (((n+1:Nat):Int) - 1)=(n:Int):=by rw[wrap64 (by omega) (by omega)];omega
 all_goals try rw[hv]
 all_goals try rw[hw]
 all_goals first | omega | (simp;done) | grind
structure PUSHK (N n:Nat) (q:List tPar.den):Prop where
 h:n<300∧q.length=N∧n≤N
theorem PUSHK_iff {N n:Nat} {q:List tPar.den}:PUSHK N n q↔n<300∧q.length=N∧n≤N:=⟨fun h=>h.1,fun h=>⟨h⟩⟩
def spPush (m:Nat→List tPar.den→Int→List tPar.den) (tk:List tPar.den→Nat→List tPar.den):OpsS→CallS:=fun o _ ds st K=>match ds with
 | [.ifc 99 (.ptr a 0),.ifc 97 x]=>(match getT tPar x with
  | some x=>heapAt a st fun b N n q=>PUSHK N n q∧frS [a,b] [] [.ifc 99 (.ptr 0 0),.ifc 97 (injT tPar x)] (heapS N n q) (.tup []) (pushS (o.ad n 1) (m (o.ad n 1) (o.ap tPar (tk q n) [x]) (o.ic n))) ds st K
  | none=>False)
 | _=>False
theorem cPushT:∀ ds st K,spPush upM takeM OpsS.real 63 ds st K→FnS Try.prog 63 ds st K:=fun ds st K h=>by
 unfold spPush at h
 split at h
 ·split at h
  ·obtain ⟨b,N,n,q,hu,h⟩:=heapAt_some h
   obtain ⟨h1,h2,h3⟩:=hu.h
   exact frS_ok (cPush N n q _ h1 h2 h3) h
  ·exact h.elim
 ·exact h.elim
end Go.Ab
