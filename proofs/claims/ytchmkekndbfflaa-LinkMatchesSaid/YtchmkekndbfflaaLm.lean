/- Comparison of lists. -/
import Derived.Test.YtchmkekndbfflaaLk
set_option linter.unusedSimpArgs false
set_option linter.unusedVariables false
set_option maxRecDepth 20000
set_option maxHeartbeats 2000000
namespace Go.Ab
open Go.Proofs
theorem drop_eq {t : Ty} {a b : List t.den} {i : Int} (h : 0 ≤ i) (h1 : i < a.length) (h2 : a.length = b.length) : (a.drop i.toNat = b.drop i.toNat ↔ gtR t a i = gtR t b i ∧ a.drop (i + 1).toNat = b.drop (i + 1).toNat) := by
  rw [gtR_drop h h1, gtR_drop h (by omega)]; simp
theorem cChoices (na : Option Bool) (a : List tChoice.den) (nb : Option Bool) (b : List tChoice.den) (r : Bool) (hr : r = decide (a = b)) (h : a.length < 1000) : PurS Try.prog 17 [injT (.sl tChoice) (na, a), injT (.sl tChoice) (nb, b)] (.sb r) := by
  refine PurS.of (S := []) (T := []) (U := []) (tbl := []) (n := 26) hm33 cfg .nil .nil .nil .nil 0 Try.call17 Try.func17 (ac17_ok (some (0, 0))) (by rw [Try.ntmps17]; exact Nat.le_refl _) rfl ⟨_, rfl⟩ ?_
  intro cmp ar cv tn ic ai mx an ad ml sb mn ln em gt up ap sc vw cp rp p1 p2 s1 s2 X Y hX hY r0 r1 r2 r3 r4 r5 r6 r7 r8 r9 r10 r11 r12 r13 r14 r15 r16 r17 r18 r19 r20 r21 r22 r23 r24
  cbv
  refine BR.mk ?_ ?_ <;> intro hc
  · subst_vars
    simp only [Short_iff, cmpR, arR, mxR, INB_iff, SLB_iff, SLM_iff, NZ_iff, NN_iff, EQN_iff, LEN_iff, LIM_iff, MK_iff, decide_eq_true_eq, decide_eq_false_iff_not, ne_eq, Bool.and_eq_true, nc_eq] at *
    grind
  · refine LOOP.ind (σ := Int) (fun i => [(0, .tl na tChoice a), (1, .tl nb tChoice b), (5, .p (iv i))]) (fun _ => ⟨[], []⟩) (fun i => (a.length - i).toNat) (fun i => 0 ≤ i ∧ i ≤ a.length ∧ (a.drop i.toNat = b.drop i.toNat ↔ a = b)) 0 (by simp) (.inl ⟨rfl, rfl⟩) ?_
    intro i hI X' hX
    have hd := drop_eq (t := tChoice) (a := a) (b := b) (i := i)
    have he := gtR_end (l := a) (i := i)
    have he' := gtR_end (l := b) (i := i)
    cbv
    repeat' (first | exact True.intro | refine And.intro ?_ ?_ | (refine BR.mk ?_ ?_ <;> intro _) | (refine CASE.mk ?_; intro _) | refine NEXT.mk (hX _ _ _ ?_ ?_ (.inl ⟨rfl, rfl⟩)))
    all_goals clear hX
    all_goals subst_vars
    all_goals try simp only [Short_iff, cmpR, arR, mxR, INB_iff, SLB_iff, SLM_iff, NZ_iff, NN_iff, EQN_iff, LEN_iff, LIM_iff, MK_iff, decide_eq_true_eq, decide_eq_false_iff_not, ne_eq, Bool.and_eq_true] at *
    all_goals try dsimp only [Ty.den] at *
    all_goals try simp only [nc_eq] at *
    all_goals try (simp (disch := omega) only [wrap64] at *)

    all_goals grind
end Go.Ab

