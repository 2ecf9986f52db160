/- Sum and Worst of the program. -/
import Derived.Test.YtlmdgmppeacobaaGreatLC
set_option linter.unusedSimpArgs false
set_option linter.unusedVariables false
set_option maxRecDepth 20000
set_option maxHeartbeats 4000000
namespace Go.Ab
open Go.Proofs
theorem fCombA (l:(Ty.sl tRs).den) (h:MC l.2):PurS Tryz.prog 40 [injT (.sl tRs) l,.fn (.func 41) [] []] (.tup [.tl none tR (sumL l.2),.p (iv (sumE l.2))]):=cCombA l.1 l.2 h
theorem fCombG (l:(Ty.sl tRs).den) (h:MC l.2):PurS Tryz.prog 40 [injT (.sl tRs) l,.fn (.func 42) [] []] (.tup [.tl none tR (worL l.2),.p (iv (worE l.2))]):=cCombG l.1 l.2 h
theorem cMSum (nl:Option Bool) (l:List RS) (h:MC l):PurS Tryz.prog 17 [injT (.sl tRs) (nl,l)] (.tup [.tl none tR (sumL l),.p (iv (sumE l))]):=by
 refine PurS.of (S:=[(40,_)]) (T:=[]) (U:=[]) (tbl:=[]) (n:=8) hm31 cfg (.cons (spFnL.ok fCombA) .nil) .nil .nil .nil 0 Tryz.call17 Tryz.func17 (ac17_ok (some (0,0))) (by rw[Tryz.ntmps17];exact Nat.le_refl _) rfl ⟨_,rfl⟩ ?_
 intro cmp ar cv tn ic ai mx an ad ml sb mn ln em gt up ap sc vw cp rp p1 p2 s1 s2 X Y hX hY r0 r1 r2 r3 r4 r5 r6 r7 r8 r9 r10 r11 r12 r13 r14 r15 r16 r17 r18 r19 r20 r21 r22 r23 r24
 generalize hg0:sumL=g0
 generalize hg1:sumE=g1
 cbv
 exact ⟨h,⟨nlLe_none.2 trivial,rfl⟩,rfl,trivial⟩
theorem cMWorst (nl:Option Bool) (l:List RS) (h:MC l):PurS Tryz.prog 18 [injT (.sl tRs) (nl,l)] (.tup [.tl none tR (worL l),.p (iv (worE l))]):=by
 refine PurS.of (S:=[(40,_)]) (T:=[]) (U:=[]) (tbl:=[]) (n:=8) hm31 cfg (.cons (spFnL.ok fCombG) .nil) .nil .nil .nil 0 Tryz.call18 Tryz.func18 (ac18_ok (some (0,0))) (by rw[Tryz.ntmps18];exact Nat.le_refl _) rfl ⟨_,rfl⟩ ?_
 intro cmp ar cv tn ic ai mx an ad ml sb mn ln em gt up ap sc vw cp rp p1 p2 s1 s2 X Y hX hY r0 r1 r2 r3 r4 r5 r6 r7 r8 r9 r10 r11 r12 r13 r14 r15 r16 r17 r18 r19 r20 r21 r22 r23 r24
 generalize hg0:worL=g0
 generalize hg1:worE=g1
 cbv
 exact ⟨h,⟨nlLe_none.2 trivial,rfl⟩,rfl,trivial⟩
end Go.Ab
