/- The laws' guard 'awake' returns true; contracts of the functions of a side. No conditions. -/
import Derived.Test.YteiolnofaebknaaLq
set_option linter.unusedSimpArgs false
set_option linter.unusedVariables false
set_option maxRecDepth 20000
set_option maxHeartbeats 2000000
namespace Go.Ab
open Go.Proofs
abbrev tSide:Ty:=.pair tI (.pair tI (.pair (.int .u8) (.pair tI (.pair (.int .u8) tI))))
abbrev SD:=Int×Int×Int×Int×Int×Int
abbrev CD:=Int×Int×Int×Int
def outM (n m:Int):Bool:=decide (n<0∨n>m)
def checkM (s:SD):Int:=
 if s.1<0∨s.1>16777215∨s.2.1<0∨s.2.1>16777215∨s.1=s.2.1 then 1
 else if s.2.2.1>2∨s.2.2.2.2.1>2 then 6
 else if s.2.2.2.1<0∨s.2.2.2.1>1048575∨s.2.2.2.2.2<0∨s.2.2.2.2.2>1048575 then 1
 else if (s.2.2.2.1=0∧s.2.2.1≠0)∨(s.2.2.2.2.2=0∧s.2.2.2.2.1≠0) then 16
 else 0
def likeM (a b:Int):Bool:=decide (a≠0∧a=b)
def leadsM (s:SD):Bool:=decide (s.1<s.2.1)
def zeroSd:SD:=(0,0,0,0,0,0)
def zeroCd:CD:=(0,0,0,0)
def yieldM (s:SD) (se:Int):Int:=if ¬ s.1<s.2.1∧likeM se s.2.2.2.2.1=true then IntKind.u8.wrap (3 - se) else se
def takeS (s:SD) (se:Int):SD×Int:=
 if se=s.2.2.1 then (s,0) else if s.2.2.2.1=1048575 then (zeroSd,17) else ((s.1,s.2.1,se,IntKind.i64.wrap (s.2.2.2.1+1),s.2.2.2.2.1,s.2.2.2.2.2),0)
def chooseM (s:SD) (w:Int):SD×Int:=
 if checkM s≠0 then (zeroSd,checkM s) else if w>2 then (zeroSd,6) else takeS s (yieldM s w)
def shearM (s:SD) (c:CD):SD×Int:=
 if checkM s≠0 then (zeroSd,checkM s) else if lcheckM c≠0 then (zeroSd,lcheckM c)
 else if c.1≠s.2.1∨c.2.1≠s.1 then (zeroSd,16) else if c.2.2.2≤s.2.2.2.2.2 then (s,0)
 else takeS (s.1,s.2.1,s.2.2.1,s.2.2.2.1,c.2.2.1,c.2.2.2) (yieldM (s.1,s.2.1,s.2.2.1,s.2.2.2.1,c.2.2.1,c.2.2.2) s.2.2.1)
def sayM (s:SD):CD×Int:=
 if checkM s≠0 then (zeroCd,checkM s) else if s.2.2.2.1=0 then (zeroCd,9) else ((s.1,s.2.1,s.2.2.1,s.2.2.2.1),0)
def newM (a o:Int):SD×Int:=if checkM (a,o,0,0,0,0)≠0 then (zeroSd,checkM (a,o,0,0,0,0)) else ((a,o,0,0,0,0),0)
theorem c39 (n m:Int):PurS Try.prog 39 [injT tI n,injT tI m] (.sb (outM n m)):=by
 refine PurS.of (S:=[]) (T:=[]) (U:=[]) (tbl:=[]) (n:=12) hm33 cfg .nil .nil .nil .nil 0 Try.call39 Try.func39 (ac39_ok (some (0,0))) (by rw[Try.ntmps39];exact Nat.le_refl _) rfl ⟨_,rfl⟩ ?_
 intro cmp ar cv tn ic ai mx an ad ml sb mn ln em gt up ap sc vw cp rp p1 p2 s1 s2 X Y hX hY r0 r1 r2 r3 r4 r5 r6 r7 r8 r9 r10 r11 r12 r13 r14 r15 r16 r17 r18 r19 r20 r21 r22 r23 r24
 generalize hg0:outM=g0
 cbv
 repeat' (first | exact True.intro | refine And.intro ?_ ?_ | (refine BR.mk ?_ ?_ <;> intro _) | (refine CASE.mk ?_;intro _))
 all_goals subst_vars
 all_goals try simp only[Short_iff,cmpR,arR,mxR,INB_iff,SLB_iff,SLM_iff,NZ_iff,NN_iff,EQN_iff,LEN_iff,LIM_iff,MK_iff,decide_eq_true_eq,decide_eq_false_iff_not,ne_eq,Bool.and_eq_true]at *
 all_goals try dsimp only[Ty.den]at *
 all_goals try simp only[nc_eq]at *
 all_goals try (simp (disch:=omega) only[wrap64]at *)
 all_goals grind [outM]
theorem c50b (n m:Int):PurS Try.prog 50 [injT (.int .u8) n,injT (.int .u8) m] (.sb (likeM n m)):=by
 refine PurS.of (S:=[]) (T:=[]) (U:=[]) (tbl:=[]) (n:=12) hm33 cfg .nil .nil .nil .nil 0 Try.call50 Try.func50 (ac50_ok (some (0,0))) (by rw[Try.ntmps50];exact Nat.le_refl _) rfl ⟨_,rfl⟩ ?_
 intro cmp ar cv tn ic ai mx an ad ml sb mn ln em gt up ap sc vw cp rp p1 p2 s1 s2 X Y hX hY r0 r1 r2 r3 r4 r5 r6 r7 r8 r9 r10 r11 r12 r13 r14 r15 r16 r17 r18 r19 r20 r21 r22 r23 r24
 generalize hg0:likeM=g0
 cbv
 repeat' (first | exact True.intro | refine And.intro ?_ ?_ | (refine BR.mk ?_ ?_ <;> intro _) | (refine CASE.mk ?_;intro _))
 all_goals subst_vars
 all_goals try simp only[Short_iff,cmpR,arR,mxR,INB_iff,SLB_iff,SLM_iff,NZ_iff,NN_iff,EQN_iff,LEN_iff,LIM_iff,MK_iff,decide_eq_true_eq,decide_eq_false_iff_not,ne_eq,Bool.and_eq_true]at *
 all_goals try dsimp only[Ty.den]at *
 all_goals try simp only[nc_eq]at *
 all_goals try (simp (disch:=omega) only[wrap64]at *)
 all_goals grind [likeM]
theorem c40 (a o se n h hn:Int):PurS Try.prog 40 [injT tSide (a,o,se,n,h,hn)] (.sb (leadsM (a,o,se,n,h,hn))):=by
 refine PurS.of (S:=[]) (T:=[]) (U:=[]) (tbl:=[]) (n:=8) hm33 cfg .nil .nil .nil .nil 0 Try.call40 Try.func40 (ac40_ok (some (0,0))) (by rw[Try.ntmps40];exact Nat.le_refl _) rfl ⟨_,rfl⟩ ?_
 intro cmp ar cv tn ic ai mx an ad ml sb mn ln em gt up ap sc vw cp rp p1 p2 s1 s2 X Y hX hY r0 r1 r2 r3 r4 r5 r6 r7 r8 r9 r10 r11 r12 r13 r14 r15 r16 r17 r18 r19 r20 r21 r22 r23 r24
 generalize hg0:leadsM=g0
 cbv
 repeat' (first | exact True.intro | refine And.intro ?_ ?_ | (refine BR.mk ?_ ?_ <;> intro _) | (refine CASE.mk ?_;intro _))
 all_goals subst_vars
 all_goals try simp only[Short_iff,cmpR,arR,mxR,INB_iff,SLB_iff,SLM_iff,NZ_iff,NN_iff,EQN_iff,LEN_iff,LIM_iff,MK_iff,decide_eq_true_eq,decide_eq_false_iff_not,ne_eq,Bool.and_eq_true]at *
 all_goals try dsimp only[Ty.den]at *
 all_goals try simp only[nc_eq]at *
 all_goals try (simp (disch:=omega) only[wrap64]at *)
 all_goals grind [leadsM]
theorem c19 (a o se n h hn:Int):PurS Try.prog 19 [injT tSide (a,o,se,n,h,hn)] (.p (iv (checkM (a,o,se,n,h,hn)))):=by
 refine PurS.of (S:=[(39,_)]) (T:=[]) (U:=[]) (tbl:=[]) (n:=59) hm33 cfg (.cons (spT2.ok (a:=(.int .i64)) (b:=(.int .i64)) (pre:=fun _ _=>True) fun x0 x1 _=>c39 x0 x1) .nil) .nil .nil .nil 0 Try.call19 Try.func19 (ac19_ok (some (0,0))) (by rw[Try.ntmps19];exact Nat.le_refl _) rfl ⟨_,rfl⟩ ?_
 intro cmp ar cv tn ic ai mx an ad ml sb mn ln em gt up ap sc vw cp rp p1 p2 s1 s2 X Y hX hY r0 r1 r2 r3 r4 r5 r6 r7 r8 r9 r10 r11 r12 r13 r14 r15 r16 r17 r18 r19 r20 r21 r22 r23 r24
 generalize hg0:outM=g0
 generalize hg1:checkM=g1
 cbv
 repeat' (first | exact True.intro | refine And.intro ?_ ?_ | (refine BR.mk ?_ ?_ <;> intro _) | (refine CASE.mk ?_;intro _))
 all_goals subst_vars
 all_goals try simp only[Short_iff,cmpR,arR,mxR,INB_iff,SLB_iff,SLM_iff,NZ_iff,NN_iff,EQN_iff,LEN_iff,LIM_iff,MK_iff,decide_eq_true_eq,decide_eq_false_iff_not,ne_eq,Bool.and_eq_true,mxR]at *
 all_goals try dsimp only[Ty.den]at *
 all_goals try simp only[nc_eq]at *
 all_goals try (simp (disch:=omega) only[wrap64]at *)
 all_goals grind [outM,checkM]
theorem c32 (a o se n h hn w:Int):PurS Try.prog 32 [injT tSide (a,o,se,n,h,hn),injT (.int .u8) w] (.p (.v (.int .u8 (yieldM (a,o,se,n,h,hn) w)))):=by
 refine PurS.of (S:=[(40,_),(50,_)]) (T:=[]) (U:=[]) (tbl:=[]) (n:=17) hm33 cfg (.cons (spT1.ok (a:=(.pair (.int .i64) (.pair (.int .i64) (.pair (.int .u8) (.pair (.int .i64) (.pair (.int .u8) (.int .i64))))))) (pre:=fun _=>True) fun x0 _=>c40 x0.1 x0.2.1 x0.2.2.1 x0.2.2.2.1 x0.2.2.2.2.1 x0.2.2.2.2.2) (.cons (spT2.ok (a:=(.int .u8)) (b:=(.int .u8)) (pre:=fun _ _=>True) fun x0 x1 _=>c50b x0 x1) .nil)) .nil .nil .nil 0 Try.call32 Try.func32 (ac32_ok (some (0,0))) (by rw[Try.ntmps32];exact Nat.le_refl _) rfl ⟨_,rfl⟩ ?_
 intro cmp ar cv tn ic ai mx an ad ml sb mn ln em gt up ap sc vw cp rp p1 p2 s1 s2 X Y hX hY r0 r1 r2 r3 r4 r5 r6 r7 r8 r9 r10 r11 r12 r13 r14 r15 r16 r17 r18 r19 r20 r21 r22 r23 r24
 generalize hg0:leadsM=g0
 generalize hg1:likeM=g1
 generalize hg2:yieldM=g2
 cbv
 repeat' (first | exact True.intro | refine And.intro ?_ ?_ | (refine BR.mk ?_ ?_ <;> intro _) | (refine CASE.mk ?_;intro _))
 all_goals subst_vars
 all_goals try simp only[Short_iff,cmpR,arR,mxR,INB_iff,SLB_iff,SLM_iff,NZ_iff,NN_iff,EQN_iff,LEN_iff,LIM_iff,MK_iff,decide_eq_true_eq,decide_eq_false_iff_not,ne_eq,Bool.and_eq_true]at *
 all_goals try dsimp only[Ty.den]at *
 all_goals try simp only[nc_eq]at *
 all_goals try (simp (disch:=omega) only[wrap64]at *)
 all_goals grind [leadsM,yieldM]
theorem c31 (a o se n h hn w:Int):PurS Try.prog 31 [injT tSide (a,o,se,n,h,hn),injT (.int .u8) w] (.tup [injT tSide (takeS (a,o,se,n,h,hn) w).1,.p (iv (takeS (a,o,se,n,h,hn) w).2)]):=by
 refine PurS.of (S:=[]) (T:=[]) (U:=[]) (tbl:=[]) (n:=24) hm33 cfg .nil .nil .nil .nil 0 Try.call31 Try.func31 (ac31_ok (some (0,0))) (by rw[Try.ntmps31];exact Nat.le_refl _) rfl ⟨_,rfl⟩ ?_
 intro cmp ar cv tn ic ai mx an ad ml sb mn ln em gt up ap sc vw cp rp p1 p2 s1 s2 X Y hX hY r0 r1 r2 r3 r4 r5 r6 r7 r8 r9 r10 r11 r12 r13 r14 r15 r16 r17 r18 r19 r20 r21 r22 r23 r24
 generalize hg0:takeS=g0
 cbv
 repeat' (first | exact True.intro | refine And.intro ?_ ?_ | (refine BR.mk ?_ ?_ <;> intro _) | (refine CASE.mk ?_;intro _))
 all_goals subst_vars
 all_goals try simp only[Short_iff,cmpR,arR,mxR,INB_iff,SLB_iff,SLM_iff,NZ_iff,NN_iff,EQN_iff,LEN_iff,LIM_iff,MK_iff,decide_eq_true_eq,decide_eq_false_iff_not,ne_eq,Bool.and_eq_true]at *
 all_goals try dsimp only[Ty.den]at *
 all_goals try simp only[nc_eq]at *
 all_goals try (simp (disch:=omega) only[wrap64]at *)
 all_goals grind [takeS,zeroSd]
theorem c11 (a o se n h hn w:Int):PurS Try.prog 11 [injT tSide (a,o,se,n,h,hn),injT (.int .u8) w] (.tup [injT tSide (chooseM (a,o,se,n,h,hn) w).1,.p (iv (chooseM (a,o,se,n,h,hn) w).2)]):=by
 refine PurS.of (S:=[(19,_),(32,_),(31,_)]) (T:=[]) (U:=[]) (tbl:=[]) (n:=23) hm33 cfg (.cons (spT1.ok (a:=(.pair (.int .i64) (.pair (.int .i64) (.pair (.int .u8) (.pair (.int .i64) (.pair (.int .u8) (.int .i64))))))) (pre:=fun _=>True) fun x0 _=>c19 x0.1 x0.2.1 x0.2.2.1 x0.2.2.2.1 x0.2.2.2.2.1 x0.2.2.2.2.2) (.cons (spT2.ok (a:=(.pair (.int .i64) (.pair (.int .i64) (.pair (.int .u8) (.pair (.int .i64) (.pair (.int .u8) (.int .i64))))))) (b:=(.int .u8)) (pre:=fun _ _=>True) fun x0 x1 _=>c32 x0.1 x0.2.1 x0.2.2.1 x0.2.2.2.1 x0.2.2.2.2.1 x0.2.2.2.2.2 x1) (.cons (spT2.ok (a:=(.pair (.int .i64) (.pair (.int .i64) (.pair (.int .u8) (.pair (.int .i64) (.pair (.int .u8) (.int .i64))))))) (b:=(.int .u8)) (pre:=fun _ _=>True) fun x0 x1 _=>c31 x0.1 x0.2.1 x0.2.2.1 x0.2.2.2.1 x0.2.2.2.2.1 x0.2.2.2.2.2 x1) .nil))) .nil .nil .nil 0 Try.call11 Try.func11 (ac11_ok (some (0,0))) (by rw[Try.ntmps11];exact Nat.le_refl _) rfl ⟨_,rfl⟩ ?_
 intro cmp ar cv tn ic ai mx an ad ml sb mn ln em gt up ap sc vw cp rp p1 p2 s1 s2 X Y hX hY r0 r1 r2 r3 r4 r5 r6 r7 r8 r9 r10 r11 r12 r13 r14 r15 r16 r17 r18 r19 r20 r21 r22 r23 r24
 generalize hg0:checkM=g0
 generalize hg1:yieldM=g1
 generalize hg2:takeS=g2
 generalize hg3:chooseM=g3
 cbv
 repeat' (first | exact True.intro | refine And.intro ?_ ?_ | (refine BR.mk ?_ ?_ <;> intro _) | (refine CASE.mk ?_;intro _))
 all_goals subst_vars
 all_goals try simp only[Short_iff,cmpR,arR,mxR,INB_iff,SLB_iff,SLM_iff,NZ_iff,NN_iff,EQN_iff,LEN_iff,LIM_iff,MK_iff,decide_eq_true_eq,decide_eq_false_iff_not,ne_eq,Bool.and_eq_true]at *
 all_goals try dsimp only[Ty.den]at *
 all_goals try simp only[nc_eq]at *
 all_goals try (simp (disch:=omega) only[wrap64]at *)
 all_goals grind [chooseM,zeroSd]
theorem c13 (a o se n h hn ca ct cse cn:Int):PurS Try.prog 13 [injT tSide (a,o,se,n,h,hn),injT tChoice (ca,ct,cse,cn)] (.tup [injT tSide (shearM (a,o,se,n,h,hn) (ca,ct,cse,cn)).1,.p (iv (shearM (a,o,se,n,h,hn) (ca,ct,cse,cn)).2)]):=by
 refine PurS.of (S:=[(19,_),(36,_),(32,_),(31,_)]) (T:=[]) (U:=[]) (tbl:=[]) (n:=55) hm33 cfg (.cons (spT1.ok (a:=(.pair (.int .i64) (.pair (.int .i64) (.pair (.int .u8) (.pair (.int .i64) (.pair (.int .u8) (.int .i64))))))) (pre:=fun _=>True) fun x0 _=>c19 x0.1 x0.2.1 x0.2.2.1 x0.2.2.2.1 x0.2.2.2.2.1 x0.2.2.2.2.2) (.cons (spT1.ok (a:=(.pair (.int .i64) (.pair (.int .i64) (.pair (.int .u8) (.int .i64))))) (pre:=fun _=>True) fun x0 _=>c33 x0.1 x0.2.1 x0.2.2.1 x0.2.2.2) (.cons (spT2.ok (a:=(.pair (.int .i64) (.pair (.int .i64) (.pair (.int .u8) (.pair (.int .i64) (.pair (.int .u8) (.int .i64))))))) (b:=(.int .u8)) (pre:=fun _ _=>True) fun x0 x1 _=>c32 x0.1 x0.2.1 x0.2.2.1 x0.2.2.2.1 x0.2.2.2.2.1 x0.2.2.2.2.2 x1) (.cons (spT2.ok (a:=(.pair (.int .i64) (.pair (.int .i64) (.pair (.int .u8) (.pair (.int .i64) (.pair (.int .u8) (.int .i64))))))) (b:=(.int .u8)) (pre:=fun _ _=>True) fun x0 x1 _=>c31 x0.1 x0.2.1 x0.2.2.1 x0.2.2.2.1 x0.2.2.2.2.1 x0.2.2.2.2.2 x1) .nil)))) .nil .nil .nil 0 Try.call13 Try.func13 (ac13_ok (some (0,0))) (by rw[Try.ntmps13];exact Nat.le_refl _) rfl ⟨_,rfl⟩ ?_
 intro cmp ar cv tn ic ai mx an ad ml sb mn ln em gt up ap sc vw cp rp p1 p2 s1 s2 X Y hX hY r0 r1 r2 r3 r4 r5 r6 r7 r8 r9 r10 r11 r12 r13 r14 r15 r16 r17 r18 r19 r20 r21 r22 r23 r24
 generalize hg0:checkM=g0
 generalize hg1:lcheckM=g1
 generalize hg2:yieldM=g2
 generalize hg3:takeS=g3
 generalize hg4:shearM=g4
 cbv
 repeat' (first | exact True.intro | refine And.intro ?_ ?_ | (refine BR.mk ?_ ?_ <;> intro _) | (refine CASE.mk ?_;intro _))
 all_goals subst_vars
 all_goals try simp only[Short_iff,cmpR,arR,mxR,INB_iff,SLB_iff,SLM_iff,NZ_iff,NN_iff,EQN_iff,LEN_iff,LIM_iff,MK_iff,decide_eq_true_eq,decide_eq_false_iff_not,ne_eq,Bool.and_eq_true]at *
 all_goals try dsimp only[Ty.den]at *
 all_goals try simp only[nc_eq]at *
 all_goals try (simp (disch:=omega) only[wrap64]at *)
 all_goals grind [shearM,zeroSd]
theorem c15 (a o se n h hn:Int):PurS Try.prog 15 [injT tSide (a,o,se,n,h,hn)] (.tup [injT tChoice (sayM (a,o,se,n,h,hn)).1,.p (iv (sayM (a,o,se,n,h,hn)).2)]):=by
 refine PurS.of (S:=[(19,_)]) (T:=[]) (U:=[]) (tbl:=[]) (n:=24) hm33 cfg (.cons (spT1.ok (a:=(.pair (.int .i64) (.pair (.int .i64) (.pair (.int .u8) (.pair (.int .i64) (.pair (.int .u8) (.int .i64))))))) (pre:=fun _=>True) fun x0 _=>c19 x0.1 x0.2.1 x0.2.2.1 x0.2.2.2.1 x0.2.2.2.2.1 x0.2.2.2.2.2) .nil) .nil .nil .nil 0 Try.call15 Try.func15 (ac15_ok (some (0,0))) (by rw[Try.ntmps15];exact Nat.le_refl _) rfl ⟨_,rfl⟩ ?_
 intro cmp ar cv tn ic ai mx an ad ml sb mn ln em gt up ap sc vw cp rp p1 p2 s1 s2 X Y hX hY r0 r1 r2 r3 r4 r5 r6 r7 r8 r9 r10 r11 r12 r13 r14 r15 r16 r17 r18 r19 r20 r21 r22 r23 r24
 generalize hg0:checkM=g0
 generalize hg1:sayM=g1
 cbv
 repeat' (first | exact True.intro | refine And.intro ?_ ?_ | (refine BR.mk ?_ ?_ <;> intro _) | (refine CASE.mk ?_;intro _))
 all_goals subst_vars
 all_goals try simp only[Short_iff,cmpR,arR,mxR,INB_iff,SLB_iff,SLM_iff,NZ_iff,NN_iff,EQN_iff,LEN_iff,LIM_iff,MK_iff,decide_eq_true_eq,decide_eq_false_iff_not,ne_eq,Bool.and_eq_true]at *
 all_goals try dsimp only[Ty.den]at *
 all_goals try simp only[nc_eq]at *
 all_goals try (simp (disch:=omega) only[wrap64]at *)
 all_goals grind [sayM,zeroCd]
theorem c17 (a o:Int):PurS Try.prog 17 [injT tI a,injT tI o] (.tup [injT tSide (newM a o).1,.p (iv (newM a o).2)]):=by
 refine PurS.of (S:=[(19,_)]) (T:=[]) (U:=[]) (tbl:=[]) (n:=18) hm33 cfg (.cons (spT1.ok (a:=(.pair (.int .i64) (.pair (.int .i64) (.pair (.int .u8) (.pair (.int .i64) (.pair (.int .u8) (.int .i64))))))) (pre:=fun _=>True) fun x0 _=>c19 x0.1 x0.2.1 x0.2.2.1 x0.2.2.2.1 x0.2.2.2.2.1 x0.2.2.2.2.2) .nil) .nil .nil .nil 0 Try.call17 Try.func17 (ac17_ok (some (0,0))) (by rw[Try.ntmps17];exact Nat.le_refl _) rfl ⟨_,rfl⟩ ?_
 intro cmp ar cv tn ic ai mx an ad ml sb mn ln em gt up ap sc vw cp rp p1 p2 s1 s2 X Y hX hY r0 r1 r2 r3 r4 r5 r6 r7 r8 r9 r10 r11 r12 r13 r14 r15 r16 r17 r18 r19 r20 r21 r22 r23 r24
 generalize hg0:checkM=g0
 generalize hg1:newM=g1
 cbv
 repeat' (first | exact True.intro | refine And.intro ?_ ?_ | (refine BR.mk ?_ ?_ <;> intro _) | (refine CASE.mk ?_;intro _))
 all_goals subst_vars
 all_goals try simp only[Short_iff,cmpR,arR,mxR,INB_iff,SLB_iff,SLM_iff,NZ_iff,NN_iff,EQN_iff,LEN_iff,LIM_iff,MK_iff,decide_eq_true_eq,decide_eq_false_iff_not,ne_eq,Bool.and_eq_true]at *
 all_goals try dsimp only[Ty.den]at *
 all_goals try simp only[nc_eq]at *
 all_goals try (simp (disch:=omega) only[wrap64]at *)
 all_goals grind [newM,zeroSd]
end Go.Ab
