/- The reference's rational numbers: order,sums with errors,whole numbers. -/
import Derived.Test.YtlmdgmppeacobaaGreatLr
set_option linter.unusedSimpArgs false
set_option linter.unusedVariables false
set_option maxRecDepth 20000
set_option maxHeartbeats 4000000
namespace Go.Ab
open Go.Proofs
theorem qN_nil {q:Rat}:qN q=[]↔q=0:=by
 unfold qN
 rw[lm_eq_nil,Int.natAbs_eq_zero];exact Rat.num_eq_zero
def ngI (n:Int):Bool:=decide (n<0)
theorem cRRFrom (n:Int) (h:I64 n):PurS Tryz.prog 55 [injT tI n] (.agg [.sb (ngI n),.tl none tW (absL n),.tl none tW []]):=by
 refine PurS.of (S:=[(81,_),(82,_),(83,_)]) (T:=[]) (U:=[]) (tbl:=[]) (n:=9) hm31 cfg (.cons (spT3.ok (a:=.bool) (b:=(.sl (.int .u32))) (c:=(.sl (.int .u32))) fun x0 x1 x2 h=>cMake x0 x1.1 x1.2 x2.1 x2.2 h) (.cons (spT1.ok (a:=(.int .i64)) fun x0 h=>cRNat x0 h) (.cons (spT0.ok cOne) .nil))) .nil .nil .nil 0 Tryz.call55 Tryz.func55 (ac55_ok (some (0,0))) (by rw[Tryz.ntmps55];exact Nat.le_refl _) rfl ⟨_,rfl⟩ ?_
 intro cmp ar cv tn ic ai mx an ad ml sb mn ln em gt up ap sc vw cp rp p1 p2 s1 s2 X Y hX hY r0 r1 r2 r3 r4 r5 r6 r7 r8 r9 r10 r11 r12 r13 r14 r15 r16 r17 r18 r19 r20 r21 r22 r23 r24
 generalize hg0:lwS=g0
 generalize hg1:lwN=g1
 generalize hg2:lwD=g2
 generalize hg3:absL=g3
 generalize hg4:ngI=g4
 cbv
 dsimp only
 have lo:=h.lo
 have hi:=h.hi
 have e3:g3 n=lm n.natAbs:=by rw[←hg3];rfl
 have e4:g4 n=decide (n<0):=by rw[←hg4];rfl
 have c1:CN [1]:=CN.of_last (.cons (by decide) (by decide) .nil) (fun _=>by decide)
 have l2:(lm n.natAbs).length≤2:=(lm_len _ _).2 (by show n.natAbs<18446744073709551616;omega)
 have hmk:MKP (lm n.natAbs) [1]:=⟨CN_lm _,c1,by omega,by decide,by decide⟩
 have key:∀ t,(n<0↔t=true)→g0 (lm n.natAbs) [1] t=decide (n<0)∧g1 (lm n.natAbs) [1] t=lm n.natAbs∧g2 (lm n.natAbs) [1] t=[]:=fun t ht=>by
  rw[←hg0,←hg1,←hg2]
  by_cases h0:n=0
  ·subst h0
   obtain ⟨k1,k2,k3⟩:=low_z (s:=t) c1 (by decide)
   have z:lm (Int.natAbs 0)=[]:=lm_zero
   rw[z,k1,k2,k3];exact ⟨rfl,rfl,rfl⟩
  ·have hne:lm n.natAbs≠[]:=fun h1=>by have:=lm_eq_nil.1 h1;omega
   obtain ⟨k1,k2,k3⟩:=low_nz (s:=t) (CN_lm n.natAbs) c1 hne (by decide)
   have v1:vl [1]=1:=rfl
   rw[k1,k2,k3,v1,vl_lm,Nat.gcd_one_right,Nat.div_one,if_pos rfl]
   refine ⟨?_,rfl,rfl⟩
   cases t
   ·exact (decide_eq_false (fun h1=>by have:=ht.1 h1;exact absurd this (by decide))).symm
   ·exact (decide_eq_true (ht.2 rfl)).symm
 rw[e3,e4]
 refine BR.lss r0 (fun h1=>?_) (fun h1=>?_)
 ·obtain ⟨k1,k2,k3⟩:=key true (by simp[h1])
  exact ⟨h,hmk,k1,⟨nlLe_none.2 trivial,k2⟩,⟨nlLe_none.2 trivial,k3⟩,trivial⟩
 ·obtain ⟨k1,k2,k3⟩:=key false (by simp[h1])
  exact ⟨h,hmk,k1,⟨nlLe_none.2 trivial,k2⟩,⟨nlLe_none.2 trivial,k3⟩,trivial⟩
end Go.Ab
