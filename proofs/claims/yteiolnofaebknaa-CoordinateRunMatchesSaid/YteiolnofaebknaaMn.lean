/- The reference's side functions and its run. -/
import Derived.Test.YteiolnofaebknaaLB
set_option linter.unusedSimpArgs false
set_option linter.unusedVariables false
set_option maxRecDepth 100000
set_option maxHeartbeats 4000000
namespace Go.Ab
open Go.Proofs
def pairM (a b:Int):Bool:=decide (0≤a∧a≤16777215∧0≤b∧b≤16777215∧a≠b)
theorem rPair (n m:Int):PurS Try.prog 38 [injT tI n,injT tI m] (.sb (pairM n m)):=by
 refine PurS.of (S:=[]) (T:=[]) (U:=[]) (tbl:=[]) (n:=24) hm33 cfg .nil .nil .nil .nil 0 Try.call38 Try.func38 (ac38_ok (some (0,0))) (by rw[Try.ntmps38];exact Nat.le_refl _) rfl ⟨_,rfl⟩ ?_
 intro cmp ar cv tn ic ai mx an ad ml sb mn ln em gt up ap sc vw cp rp p1 p2 s1 s2 X Y hX hY r0 r1 r2 r3 r4 r5 r6 r7 r8 r9 r10 r11 r12 r13 r14 r15 r16 r17 r18 r19 r20 r21 r22 r23 r24
 generalize hg0:pairM=g0
 cbv
 repeat' (first | exact True.intro | refine And.intro ?_ ?_ | (refine BR.mk ?_ ?_ <;> intro _) | (refine CASE.mk ?_;intro _))
 all_goals subst_vars
 all_goals try simp only[Short_iff,cmpR,arR,mxR,INB_iff,SLB_iff,SLM_iff,NZ_iff,NN_iff,EQN_iff,LEN_iff,LIM_iff,MK_iff,decide_eq_true_eq,decide_eq_false_iff_not,ne_eq,Bool.and_eq_true]at *
 all_goals try dsimp only[Ty.den]at *
 all_goals try simp only[nc_eq]at *
 all_goals try (simp (disch:=omega) only[wrap64]at *)
 all_goals grind [pairM]
theorem rLike (n m:Int):PurS Try.prog 33 [injT (.int .u8) n,injT (.int .u8) m] (.sb (likeM n m)):=by
 refine PurS.of (S:=[]) (T:=[]) (U:=[]) (tbl:=[]) (n:=12) hm33 cfg .nil .nil .nil .nil 0 Try.call33 Try.func33 (ac33_ok (some (0,0))) (by rw[Try.ntmps33];exact Nat.le_refl _) rfl ⟨_,rfl⟩ ?_
 intro cmp ar cv tn ic ai mx an ad ml sb mn ln em gt up ap sc vw cp rp p1 p2 s1 s2 X Y hX hY r0 r1 r2 r3 r4 r5 r6 r7 r8 r9 r10 r11 r12 r13 r14 r15 r16 r17 r18 r19 r20 r21 r22 r23 r24
 generalize hg0:likeM=g0
 cbv
 repeat' (first | exact True.intro | refine And.intro ?_ ?_ | (refine BR.mk ?_ ?_ <;> intro _) | (refine CASE.mk ?_;intro _))
 all_goals subst_vars
 all_goals try simp only[Short_iff,cmpR,arR,mxR,INB_iff,SLB_iff,SLM_iff,NZ_iff,NN_iff,EQN_iff,LEN_iff,LIM_iff,MK_iff,decide_eq_true_eq,decide_eq_false_iff_not,ne_eq,Bool.and_eq_true]at *
 all_goals try dsimp only[Ty.den]at *
 all_goals try simp only[nc_eq]at *
 all_goals try (simp (disch:=omega) only[wrap64]at *)
 all_goals grind [likeM]
def oppM (n:Int):Int:=IntKind.u8.wrap (3 - n)
theorem rOpp (n:Int):PurS Try.prog 35 [injT (.int .u8) n] (.p (.v (.int .u8 (oppM n)))):=by
 refine PurS.of (S:=[]) (T:=[]) (U:=[]) (tbl:=[]) (n:=5) hm33 cfg .nil .nil .nil .nil 0 Try.call35 Try.func35 (ac35_ok (some (0,0))) (by rw[Try.ntmps35];exact Nat.le_refl _) rfl ⟨_,rfl⟩ ?_
 intro cmp ar cv tn ic ai mx an ad ml sb mn ln em gt up ap sc vw cp rp p1 p2 s1 s2 X Y hX hY r0 r1 r2 r3 r4 r5 r6 r7 r8 r9 r10 r11 r12 r13 r14 r15 r16 r17 r18 r19 r20 r21 r22 r23 r24
 generalize hg0:oppM=g0
 cbv
 rw[r1,←hg0];rfl
theorem rChk (a o se n h hn:Int):PurS Try.prog 20 [injT tSide (a,o,se,n,h,hn)] (.p (iv (checkM (a,o,se,n,h,hn)))):=by
 refine PurS.of (S:=[(38,_)]) (T:=[]) (U:=[]) (tbl:=[]) (n:=53) hm33 cfg (.cons (spT2.ok (a:=(.int .i64)) (b:=(.int .i64)) (pre:=fun _ _=>True) fun x0 x1 _=>rPair x0 x1) .nil) .nil .nil .nil 0 Try.call20 Try.func20 (ac20_ok (some (0,0))) (by rw[Try.ntmps20];exact Nat.le_refl _) rfl ⟨_,rfl⟩ ?_
 intro cmp ar cv tn ic ai mx an ad ml sb mn ln em gt up ap sc vw cp rp p1 p2 s1 s2 X Y hX hY r0 r1 r2 r3 r4 r5 r6 r7 r8 r9 r10 r11 r12 r13 r14 r15 r16 r17 r18 r19 r20 r21 r22 r23 r24
 generalize hg0:pairM=g0
 generalize hg1:checkM=g1
 cbv
 repeat' (first | exact True.intro | refine And.intro ?_ ?_ | (refine BR.mk ?_ ?_ <;> intro _) | (refine CASE.mk ?_;intro _))
 all_goals subst_vars
 all_goals try simp only[Short_iff,cmpR,arR,mxR,INB_iff,SLB_iff,SLM_iff,NZ_iff,NN_iff,EQN_iff,LEN_iff,LIM_iff,MK_iff,decide_eq_true_eq,decide_eq_false_iff_not,ne_eq,Bool.and_eq_true]at *
 all_goals try dsimp only[Ty.den]at *
 all_goals try simp only[nc_eq]at *
 all_goals try (simp (disch:=omega) only[wrap64]at *)
 all_goals grind [pairM,checkM]
theorem rTake (a o se n h hn w:Int):PurS Try.prog 34 [injT tSide (a,o,se,n,h,hn),injT (.int .u8) w] (.tup [injT tSide (takeS (a,o,se,n,h,hn) w).1,.p (iv (takeS (a,o,se,n,h,hn) w).2)]):=by
 refine PurS.of (S:=[]) (T:=[]) (U:=[]) (tbl:=[]) (n:=22) hm33 cfg .nil .nil .nil .nil 0 Try.call34 Try.func34 (ac34_ok (some (0,0))) (by rw[Try.ntmps34];exact Nat.le_refl _) rfl ⟨_,rfl⟩ ?_
 intro cmp ar cv tn ic ai mx an ad ml sb mn ln em gt up ap sc vw cp rp p1 p2 s1 s2 X Y hX hY r0 r1 r2 r3 r4 r5 r6 r7 r8 r9 r10 r11 r12 r13 r14 r15 r16 r17 r18 r19 r20 r21 r22 r23 r24
 generalize hg0:takeS=g0
 cbv
 repeat' (first | exact True.intro | refine And.intro ?_ ?_ | (refine BR.mk ?_ ?_ <;> intro _) | (refine CASE.mk ?_;intro _))
 all_goals subst_vars
 all_goals try simp only[Short_iff,cmpR,arR,mxR,INB_iff,SLB_iff,SLM_iff,NZ_iff,NN_iff,EQN_iff,LEN_iff,LIM_iff,MK_iff,decide_eq_true_eq,decide_eq_false_iff_not,ne_eq,Bool.and_eq_true]at *
 all_goals try dsimp only[Ty.den]at *
 all_goals try simp only[nc_eq]at *
 all_goals try (simp (disch:=omega) only[wrap64]at *)
 all_goals grind [takeS,zeroSd]
theorem rCho (a o se n h hn w:Int):PurS Try.prog 12 [injT tSide (a,o,se,n,h,hn),injT (.int .u8) w] (.tup [injT tSide (chooseM (a,o,se,n,h,hn) w).1,.p (iv (chooseM (a,o,se,n,h,hn) w).2)]):=by
 refine PurS.of (S:=[(20,_),(33,_),(35,_),(34,_)]) (T:=[]) (U:=[]) (tbl:=[]) (n:=38) hm33 cfg (.cons (spT1.ok (a:=(.pair (.int .i64) (.pair (.int .i64) (.pair (.int .u8) (.pair (.int .i64) (.pair (.int .u8) (.int .i64))))))) (pre:=fun _=>True) fun x0 _=>rChk x0.1 x0.2.1 x0.2.2.1 x0.2.2.2.1 x0.2.2.2.2.1 x0.2.2.2.2.2) (.cons (spT2.ok (a:=(.int .u8)) (b:=(.int .u8)) (pre:=fun _ _=>True) fun x0 x1 _=>rLike x0 x1) (.cons (spT1.ok (a:=(.int .u8)) (pre:=fun _=>True) fun x0 _=>rOpp x0) (.cons (spT2.ok (a:=(.pair (.int .i64) (.pair (.int .i64) (.pair (.int .u8) (.pair (.int .i64) (.pair (.int .u8) (.int .i64))))))) (b:=(.int .u8)) (pre:=fun _ _=>True) fun x0 x1 _=>rTake x0.1 x0.2.1 x0.2.2.1 x0.2.2.2.1 x0.2.2.2.2.1 x0.2.2.2.2.2 x1) .nil)))) .nil .nil .nil 0 Try.call12 Try.func12 (ac12_ok (some (0,0))) (by rw[Try.ntmps12];exact Nat.le_refl _) rfl ⟨_,rfl⟩ ?_
 intro cmp ar cv tn ic ai mx an ad ml sb mn ln em gt up ap sc vw cp rp p1 p2 s1 s2 X Y hX hY r0 r1 r2 r3 r4 r5 r6 r7 r8 r9 r10 r11 r12 r13 r14 r15 r16 r17 r18 r19 r20 r21 r22 r23 r24
 generalize hg0:checkM=g0
 generalize hg1:takeS=g1
 generalize hg2:chooseM=g2
 generalize hg3:likeM=g3
 generalize hg4:oppM=g4
 cbv
 have hck:checkM (a,o,se,n,h,hn)=0→a≠o:=fun h1 h2=>by subst h2;simp[checkM]at h1
 try rw[hg0]at hck
 repeat' (first | exact True.intro | refine And.intro ?_ ?_ | (refine BR.mk ?_ ?_ <;> intro _) | (refine CASE.mk ?_;intro _))
 all_goals subst_vars
 all_goals try simp only[Short_iff,cmpR,arR,mxR,INB_iff,SLB_iff,SLM_iff,NZ_iff,NN_iff,EQN_iff,LEN_iff,LIM_iff,MK_iff,decide_eq_true_eq,decide_eq_false_iff_not,ne_eq,Bool.and_eq_true]at *
 all_goals try dsimp only[Ty.den]at *
 all_goals try simp only[nc_eq]at *
 all_goals try (simp (disch:=omega) only[wrap64]at *)
 all_goals grind [chooseM,zeroSd,yieldM,likeM,oppM]
theorem rHrS (a o se n h hn c1 c2 c3 c4:Int):PurS Try.prog 14 [injT tSide (a,o,se,n,h,hn),injT tChoice (c1,c2,c3,c4)] (.tup [injT tSide (shearM (a,o,se,n,h,hn) (c1,c2,c3,c4)).1,.p (iv (shearM (a,o,se,n,h,hn) (c1,c2,c3,c4)).2)]):=by
 refine PurS.of (S:=[(20,_),(37,_),(33,_),(35,_),(34,_)]) (T:=[]) (U:=[]) (tbl:=[]) (n:=65) hm33 cfg (.cons (spT1.ok (a:=(.pair (.int .i64) (.pair (.int .i64) (.pair (.int .u8) (.pair (.int .i64) (.pair (.int .u8) (.int .i64))))))) (pre:=fun _=>True) fun x0 _=>rChk x0.1 x0.2.1 x0.2.2.1 x0.2.2.2.1 x0.2.2.2.2.1 x0.2.2.2.2.2) (.cons (spT1.ok (a:=(.pair (.int .i64) (.pair (.int .i64) (.pair (.int .u8) (.int .i64))))) (pre:=fun _=>True) fun x0 _=>r32c x0.1 x0.2.1 x0.2.2.1 x0.2.2.2) (.cons (spT2.ok (a:=(.int .u8)) (b:=(.int .u8)) (pre:=fun _ _=>True) fun x0 x1 _=>rLike x0 x1) (.cons (spT1.ok (a:=(.int .u8)) (pre:=fun _=>True) fun x0 _=>rOpp x0) (.cons (spT2.ok (a:=(.pair (.int .i64) (.pair (.int .i64) (.pair (.int .u8) (.pair (.int .i64) (.pair (.int .u8) (.int .i64))))))) (b:=(.int .u8)) (pre:=fun _ _=>True) fun x0 x1 _=>rTake x0.1 x0.2.1 x0.2.2.1 x0.2.2.2.1 x0.2.2.2.2.1 x0.2.2.2.2.2 x1) .nil))))) .nil .nil .nil 0 Try.call14 Try.func14 (ac14_ok (some (0,0))) (by rw[Try.ntmps14];exact Nat.le_refl _) rfl ⟨_,rfl⟩ ?_
 intro cmp ar cv tn ic ai mx an ad ml sb mn ln em gt up ap sc vw cp rp p1 p2 s1 s2 X Y hX hY r0 r1 r2 r3 r4 r5 r6 r7 r8 r9 r10 r11 r12 r13 r14 r15 r16 r17 r18 r19 r20 r21 r22 r23 r24
 generalize hg0:checkM=g0
 generalize hg1:takeS=g1
 generalize hg2:shearM=g2
 generalize hg3:likeM=g3
 generalize hg4:oppM=g4
 generalize hg5:lcheckM=g5
 cbv
 have hck:checkM (a,o,se,n,h,hn)=0→a≠o:=fun h1 h2=>by subst h2;simp[checkM]at h1
 try rw[hg0]at hck
 repeat' (first | exact True.intro | refine And.intro ?_ ?_ | (refine BR.mk ?_ ?_ <;> intro _) | (refine CASE.mk ?_;intro _))
 all_goals subst_vars
 all_goals try simp only[Short_iff,cmpR,arR,mxR,INB_iff,SLB_iff,SLM_iff,NZ_iff,NN_iff,EQN_iff,LEN_iff,LIM_iff,MK_iff,decide_eq_true_eq,decide_eq_false_iff_not,ne_eq,Bool.and_eq_true]at *
 all_goals try dsimp only[Ty.den]at *
 all_goals try simp only[nc_eq]at *
 all_goals try (simp (disch:=omega) only[wrap64]at *)
 all_goals grind [shearM,zeroSd,yieldM,likeM,oppM,takeS]
theorem rSay (a o se n h hn:Int):PurS Try.prog 16 [injT tSide (a,o,se,n,h,hn)] (.tup [injT tChoice (sayM (a,o,se,n,h,hn)).1,.p (iv (sayM (a,o,se,n,h,hn)).2)]):=by
 refine PurS.of (S:=[(20,_)]) (T:=[]) (U:=[]) (tbl:=[]) (n:=24) hm33 cfg (.cons (spT1.ok (a:=(.pair (.int .i64) (.pair (.int .i64) (.pair (.int .u8) (.pair (.int .i64) (.pair (.int .u8) (.int .i64))))))) (pre:=fun _=>True) fun x0 _=>rChk x0.1 x0.2.1 x0.2.2.1 x0.2.2.2.1 x0.2.2.2.2.1 x0.2.2.2.2.2) .nil) .nil .nil .nil 0 Try.call16 Try.func16 (ac16_ok (some (0,0))) (by rw[Try.ntmps16];exact Nat.le_refl _) rfl ⟨_,rfl⟩ ?_
 intro cmp ar cv tn ic ai mx an ad ml sb mn ln em gt up ap sc vw cp rp p1 p2 s1 s2 X Y hX hY r0 r1 r2 r3 r4 r5 r6 r7 r8 r9 r10 r11 r12 r13 r14 r15 r16 r17 r18 r19 r20 r21 r22 r23 r24
 generalize hg0:checkM=g0
 generalize hg1:sayM=g1
 cbv
 repeat' (first | exact True.intro | refine And.intro ?_ ?_ | (refine BR.mk ?_ ?_ <;> intro _) | (refine CASE.mk ?_;intro _))
 all_goals subst_vars
 all_goals try simp only[Short_iff,cmpR,arR,mxR,INB_iff,SLB_iff,SLM_iff,NZ_iff,NN_iff,EQN_iff,LEN_iff,LIM_iff,MK_iff,decide_eq_true_eq,decide_eq_false_iff_not,ne_eq,Bool.and_eq_true]at *
 all_goals try dsimp only[Ty.den]at *
 all_goals try simp only[nc_eq]at *
 all_goals try (simp (disch:=omega) only[wrap64]at *)
 all_goals grind [sayM,zeroCd]
theorem rNewS (a o:Int):PurS Try.prog 18 [injT tI a,injT tI o] (.tup [injT tSide (newM a o).1,.p (iv (newM a o).2)]):=by
 refine PurS.of (S:=[(38,_)]) (T:=[]) (U:=[]) (tbl:=[]) (n:=14) hm33 cfg (.cons (spT2.ok (a:=(.int .i64)) (b:=(.int .i64)) (pre:=fun _ _=>True) fun x0 x1 _=>rPair x0 x1) .nil) .nil .nil .nil 0 Try.call18 Try.func18 (ac18_ok (some (0,0))) (by rw[Try.ntmps18];exact Nat.le_refl _) rfl ⟨_,rfl⟩ ?_
 intro cmp ar cv tn ic ai mx an ad ml sb mn ln em gt up ap sc vw cp rp p1 p2 s1 s2 X Y hX hY r0 r1 r2 r3 r4 r5 r6 r7 r8 r9 r10 r11 r12 r13 r14 r15 r16 r17 r18 r19 r20 r21 r22 r23 r24
 generalize hg0:pairM=g0
 generalize hg1:newM=g1
 cbv
 repeat' (first | exact True.intro | refine And.intro ?_ ?_ | (refine BR.mk ?_ ?_ <;> intro _) | (refine CASE.mk ?_;intro _))
 all_goals subst_vars
 all_goals try simp only[Short_iff,cmpR,arR,mxR,INB_iff,SLB_iff,SLM_iff,NZ_iff,NN_iff,EQN_iff,LEN_iff,LIM_iff,MK_iff,decide_eq_true_eq,decide_eq_false_iff_not,ne_eq,Bool.and_eq_true]at *
 all_goals try dsimp only[Ty.den]at *
 all_goals try simp only[nc_eq]at *
 all_goals try (simp (disch:=omega) only[wrap64]at *)
 all_goals grind [newM,checkM,zeroSd,pairM]
end Go.Ab
