/- LinkOrder: its small functions. -/
import Derived.Test.YtchmkekndbfflaaLj
set_option linter.unusedSimpArgs false
set_option linter.unusedVariables false
set_option maxRecDepth 20000
set_option maxHeartbeats 2000000
namespace Go.Ab
open Go.Proofs
theorem c27 (x : Int) : PurS Try.prog 27 [injT tI x] (injT tChoice (3, (4, (0, x)))) := by
  refine PurS.of (S := []) (T := []) (U := []) (tbl := []) (n := 5) hm33 cfg .nil .nil .nil .nil 0 Try.call27 Try.func27 (ac27_ok (some (0, 0))) (by rw [Try.ntmps27]; exact Nat.le_refl _) rfl ⟨_, rfl⟩ ?_
  intro cmp ar cv tn ic ai mx an ad ml sb mn ln em gt up ap sc vw cp rp p1 p2 s1 s2 X Y hX hY r0 r1 r2 r3 r4 r5 r6 r7 r8 r9 r10 r11 r12 r13 r14 r15 r16 r17 r18 r19 r20 r21 r22 r23 r24
  cbv
  repeat' (first | exact True.intro | refine And.intro ?_ ?_ | (refine BR.mk ?_ ?_ <;> intro _) | (refine CASE.mk ?_; intro _))
  all_goals subst_vars
  all_goals try simp only [Short_iff, cmpR, arR, mxR, INB_iff, SLB_iff, SLM_iff, NZ_iff, NN_iff, EQN_iff, LEN_iff, LIM_iff, MK_iff, decide_eq_true_eq, decide_eq_false_iff_not, ne_eq, Bool.and_eq_true] at *
  all_goals try dsimp only [Ty.den] at *
  all_goals try simp only [nc_eq] at *
  all_goals try (simp (disch := omega) only [wrap64] at *)
structure NEWK (l : List Int) : Prop where
  h : wrongM l = 0
def spNew (mF : List Int → List Int) : OpsS → CallS := fun _ _ ds st K => match ds with
  | [x] => (match asL tI x with
    | some l => NEWK l ∧ frS [] [] [.tl none tI l] ⟨[], []⟩ (.tup [.ptr 0 0, .p (iv 0)]) (linkS (mF l) 0 0 0 0 []) ds st K
    | none => False)
  | _ => False
theorem cNewT : ∀ ds st K, spNew fatesM OpsS.real 11 ds st K → FnS Try.prog 11 ds st K := fun ds st K h => by
  unfold spNew at h
  split at h
  · split at h
    · exact frS_ok (cNew none _ h.1.h) h.2
    · exact h.elim
  · exact h.elim
end Go.Ab

