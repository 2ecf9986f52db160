/- Contracts of the channel's methods. -/
import Derived.Test.YteiolnofaebknaaLe
set_option linter.unusedSimpArgs false
set_option linter.unusedVariables false
set_option maxRecDepth 20000
set_option maxHeartbeats 2000000
namespace Go.Ab
open Go.Proofs
def out24M (n:Int):Bool:=decide (n<0∨n>16777215)
def lcheckM (c:tChoice.den):Int:=
 if c.1<0∨c.1>16777215∨c.2.1<0∨c.2.1>16777215∨c.1=c.2.1 then 1
 else if c.2.2.1>2 then 6
 else if c.2.2.2<1∨c.2.2.2>1048575 then 1
 else 0
theorem c45 (x:Int):PurS Try.prog 51 [injT tI x] (.sb (out24M x)):=by
 refine PurS.of (S:=[]) (T:=[]) (U:=[]) (tbl:=[]) (n:=9) hm33 cfg .nil .nil .nil .nil 0 Try.call51 Try.func51 (ac51_ok (some (0,0))) (by rw[Try.ntmps51];exact Nat.le_refl _) rfl ⟨_,rfl⟩ ?_
 intro cmp ar cv tn ic ai mx an ad ml sb mn ln em gt up ap sc vw cp rp p1 p2 s1 s2 X Y hX hY r0 r1 r2 r3 r4 r5 r6 r7 r8 r9 r10 r11 r12 r13 r14 r15 r16 r17 r18 r19 r20 r21 r22 r23 r24
 generalize hg0:out24M=g0
 cbv
 repeat' (first | exact True.intro | refine And.intro ?_ ?_ | (refine BR.mk ?_ ?_ <;> intro _) | (refine CASE.mk ?_;intro _))
 all_goals subst_vars
 all_goals try simp only[Short_iff,cmpR,arR,mxR,INB_iff,SLB_iff,SLM_iff,NZ_iff,NN_iff,EQN_iff,LEN_iff,LIM_iff,MK_iff,decide_eq_true_eq,decide_eq_false_iff_not,ne_eq,Bool.and_eq_true]at *
 all_goals try dsimp only[Ty.den]at *
 all_goals try simp only[nc_eq]at *
 all_goals try (simp (disch:=omega) only[wrap64]at *)
 all_goals grind [out24M]
theorem c33 (a t se m:Int):PurS Try.prog 36 [injT tChoice (a,(t,(se,m)))] (.p (iv (lcheckM (a,(t,(se,m)))))):=by
 refine PurS.of (S:=[(51,_)]) (T:=[]) (U:=[]) (tbl:=[]) (n:=35) hm33 cfg (.cons (spT1.ok (a:=(.int .i64)) (pre:=fun _=>True) fun x0 _=>c45 x0) .nil) .nil .nil .nil 0 Try.call36 Try.func36 (ac36_ok (some (0,0))) (by rw[Try.ntmps36];exact Nat.le_refl _) rfl ⟨_,rfl⟩ ?_
 intro cmp ar cv tn ic ai mx an ad ml sb mn ln em gt up ap sc vw cp rp p1 p2 s1 s2 X Y hX hY r0 r1 r2 r3 r4 r5 r6 r7 r8 r9 r10 r11 r12 r13 r14 r15 r16 r17 r18 r19 r20 r21 r22 r23 r24
 generalize hg0:lcheckM=g0
 generalize hg1:out24M=g1
 cbv
 repeat' (first | exact True.intro | refine And.intro ?_ ?_ | (refine BR.mk ?_ ?_ <;> intro _) | (refine CASE.mk ?_;intro _))
 all_goals subst_vars
 all_goals try simp only[Short_iff,cmpR,arR,mxR,INB_iff,SLB_iff,SLM_iff,NZ_iff,NN_iff,EQN_iff,LEN_iff,LIM_iff,MK_iff,decide_eq_true_eq,decide_eq_false_iff_not,ne_eq,Bool.and_eq_true]at *
 all_goals try dsimp only[Ty.den]at *
 all_goals try simp only[nc_eq]at *
 all_goals try (simp (disch:=omega) only[wrap64]at *)
 all_goals grind [out24M,lcheckM]
def linkE (F:List Int) (now sent:Int) (N n:Nat) (q:List tPar.den):StS:=
 ⟨[{ cells:=[.arr 256 tI F,.p (iv now),.p (iv sent),.ptr 1 0],e:=103,fz:=false },{ cells:=[.ms 3 0 6 none n],e:=100,fz:=false },{ cells:=[],e:=97,fz:=true,ap:=true },{ cells:=[.arr N tPar q],e:=97,fz:=false,ap:=true }],[]⟩
def fateM (F:List Int) (sent:Int):Int:=if sent<256 then gtR tI F sent else 0
def atM (now t:Int):Int:=if t<0∨t>1099511627776 then 1 else if t<now then 12 else 0
def sendE (F:List Int) (now sent:Int) (n:Nat) (t:Int) (c:tChoice.den):Int:=
 if atM now t≠0 then atM now t else if lcheckM c≠0 then lcheckM c else if fateM F sent≠-1∧n=64 then 17 else 0
def sendNow (F:List Int) (now sent:Int) (n:Nat) (t:Int) (c:tChoice.den):Int:=if sendE F now sent n t c=0 then t else now
def sendSent (F:List Int) (now sent:Int) (n:Nat) (t:Int) (c:tChoice.den):Int:=if sendE F now sent n t c=0 then sent+1 else sent
def sendN (F:List Int) (now sent:Int) (n:Nat) (t:Int) (c:tChoice.den):Nat:=if sendE F now sent n t c=0∧fateM F sent≠-1 then n+1 else n
def sendCap (F:List Int) (now sent:Int) (N n:Nat) (t:Int) (c:tChoice.den):Nat:=if sendE F now sent n t c=0∧fateM F sent≠-1 then n+1 else N
def sendQ (F:List Int) (now sent:Int) (n:Nat) (q:List tPar.den) (t:Int) (c:tChoice.den):List tPar.den:=if sendE F now sent n t c=0∧fateM F sent≠-1 then upM (n+1) (takeM q n ++ [((t+fateM F sent,(sent,c)):tPar.den)]) n else q
theorem cSend (F:List Int) (now sent:Int) (N n:Nat) (q:List tPar.den) (t:Int) (c:tChoice.den) (hq:q.length=N) (hN:n≤N) (hn:n≤64) (h0:0≤sent) (h1:sent<1000000) (hF:∀ i,-1≤gtR tI F i∧gtR tI F i≤8):FnS Try.prog 57 ([.ptr 0 0,.p (iv t),injT tChoice c]) (linkS F now sent N n q ) fun x_ s_=>x_=(.p (iv (sendE F now sent n t c)))∧s_=(linkE F (sendNow F now sent n t c) (sendSent F now sent n t c) (sendCap F now sent N n t c) (sendN F now sent n t c) (sendQ F now sent n q t c)):=by
 refine FnS.of (S:=[(36,_)]) (T:=[(63,_)]) (U:=[]) (tbl:=[(61,ac61 none,[.tmp 4],29),(62,ac62 none,[.tmp 2],5)]) (n:=72) hm33 cfg (.cons (spT1.ok (a:=(.pair (.int .i64) (.pair (.int .i64) (.pair (.int .u8) (.int .i64))))) (pre:=fun _=>True) fun x0 _=>c33 x0.1 x0.2.1 x0.2.2.1 x0.2.2.2) .nil) (.cons cPushT .nil) .nil (.cons Try.call61 Try.func61 (ac61_ok none) (by rw[Try.ntmps61];exact Nat.le_refl _) (.cons Try.call62 Try.func62 (ac62_ok none) (by rw[Try.ntmps62];exact Nat.le_refl _) .nil)) 6 Try.call57 Try.func57 (ac57_ok (some (3,0))) (by rw[Try.ntmps57];exact Nat.le_refl _) rfl _ _ _ (by rfl) ?_
 intro cmp ar cv tn ic ai mx an ad ml sb mn ln em gt up ap sc vw cp rp p1 p2 s1 s2 X Y hX hY r0 r1 r2 r3 r4 r5 r6 r7 r8 r9 r10 r11 r12 r13 r14 r15 r16 r17 r18 r19 r20 r21 r22 r23 r24
 generalize hg0:sendE=g0
 generalize hg1:sendNow=g1
 generalize hg2:sendSent=g2
 generalize hg3:sendCap=g3
 generalize hg4:sendN=g4
 generalize hg5:sendQ=g5
 generalize hg6:upM=g6
 generalize hg7:takeM=g7
 generalize hg8:lcheckM=g8
 cbv
 repeat' (first | exact True.intro | refine And.intro ?_ ?_ | (refine BR.mk ?_ ?_ <;> intro _) | (refine CASE.mk ?_;intro _))
 all_goals try first | (show RET _ _ _ ⟨[_,_,_,_,_],_⟩ _ _;refine RET.mk ⟨[some 0,some 1,none,some 4],[],?_⟩;rw[SIM_iff];cbv) | (refine RET.mk ⟨[some 0,some 1,none,some 2],[],?_⟩;rw[SIM_iff];cbv)
 all_goals subst_vars
 all_goals try simp only[Short_iff,cmpR,arR,mxR,INB_iff,SLB_iff,SLM_iff,NZ_iff,NN_iff,EQN_iff,LEN_iff,LIM_iff,MK_iff,decide_eq_true_eq,decide_eq_false_iff_not,ne_eq,Bool.and_eq_true,PUSHK_iff,and_true,true_and]at *
 all_goals try dsimp only[Ty.den]at *
 all_goals try simp only[nc_eq]at *
 all_goals have hf:=hF sent
 all_goals try (simp (disch:=omega) only[wrap64]at *)
 all_goals grind [sendE,sendNow,sendSent,sendCap,sendN,sendQ,fateM,atM]
end Go.Ab
