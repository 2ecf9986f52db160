/- The laws on runs of losses. -/
import Derived.Test.YtchmkekndbfflaaLa
import Derived.Test.YtchmkekndbfflaaAw
import Derived.Test.YtchmkekndbfflaaAbE
set_option linter.unusedSimpArgs false
set_option linter.unusedVariables false
namespace Go.Ab
open Go.Proofs
theorem caw33 : PurS Try.prog 10 [] (.sb true) := ⟨_, rfl, s33_awake⟩
theorem caw33b : PurS Try.prog 10 [] (.p (.v (.bool true))) := ⟨_, rfl, s33_awake⟩

theorem lawLost (nl : Option Bool) (l : List Int) : PurS Try.prog 4 [injT (.sl tI) (nl, l)] (.sb true) := by
  refine PurS.of (S := [(10, _), (22, _), (23, _)]) (T := []) (tbl := []) (n := 32) hm33 cfg (.cons (spT0.ok caw33) (.cons (spT1.ok (a := (.sl (.int .i64))) fun x0 h => c22 x0.1 x0.2 h) (.cons (spT1.ok (a := (.sl (.int .i64))) fun x0 h => c23 x0.1 x0.2 h) .nil))) .nil .nil 0 Try.call4 Try.func4 (ac4_ok (some (0, 0))) (by rw [Try.ntmps4]; exact Nat.le_refl _) rfl ⟨_, rfl⟩ ?_
  intro cmp ar cv tn ic ai mx an ad ml sb mn ln em gt up ap sc vw cp rp p1 p2 s1 s2 X Y hX hY r0 r1 r2 r3 r4 r5 r6 r7 r8 r9 r10 r11 r12 r13 r14 r15 r16 r17 r18 r19 r20 r21 r22 r23 r24
  generalize hg0 : wrongM = g0
  generalize hg1 : lostR = g1
  cbv
  repeat' (first | exact True.intro | refine And.intro ?_ ?_ | (refine BR.mk ?_ ?_ <;> intro _) | (refine CASE.mk ?_; intro _))
  all_goals subst_vars
  all_goals try simp only [Short_iff, cmpR, arR, mxR, INB_iff, SLB_iff, SLM_iff, NZ_iff, NN_iff, EQN_iff, LEN_iff, LIM_iff, MK_iff, decide_eq_true_eq, decide_eq_false_iff_not, ne_eq, Bool.and_eq_true] at *
  all_goals try dsimp only [Ty.den] at *
  all_goals try simp only [nc_eq] at *
  all_goals try (simp (disch := omega) only [wrap64] at *)
  all_goals grind
theorem lost_typed : ∀ xs, TyVs Try.prog [22] xs → PurFn Try.prog 4 (xs.map .p) (.v (.bool true)) := law1 (P := Try.prog) (f := 4) (t1 := 22) (T1 := .sl tI) (by kernel_rfl) fun a _ => lawLost a.1 a.2
end Go.Ab

