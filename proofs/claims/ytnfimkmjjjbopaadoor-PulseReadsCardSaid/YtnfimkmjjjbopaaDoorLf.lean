/- pulse.Merge. -/
import Derived.Test.YtnfimkmjjjbopaaDoorLe
set_option linter.unusedSimpArgs false
set_option linter.unusedVariables false
set_option maxRecDepth 20000
set_option maxHeartbeats 4000000
namespace Go.Ab
open Go.Proofs
def swA (l : List (Option Bool × List Int)) : List Bool := (swO [] l).1
def swE (l : List (Option Bool × List Int)) : Int := (swO [] l).2
structure pSw (l : List (Option Bool × List Int)) : Prop where
  n : l.length ≤ 100
  t : pOf l
theorem cOfT (nl : Option Bool) (l : List (Option Bool × List Int)) (h : PRE (pSw l)) : PurS Tryd.prog 38 [injT (.sl tTr) (nl, l)] (.tup [.agg [.arr 1024 .bool (swA l)], .p (iv (swE l))]) := cOf nl l _ _ rfl rfl h.h.n ⟨h.h.t⟩
/-- The slots of a sweep from a place on. -/
def slF (S : List Bool) : Nat → List Int
  | 0 => []
  | m + 1 => if gtR .bool S (1024 - (m + 1 : Nat)) then (1024 - (m + 1 : Nat) : Int) :: slF S m else slF S m
def mrgE (l : List (Option Bool × List Int)) : Int := if l.length > 8 then 10 else swE l
def mrgT (l : List (Option Bool × List Int)) : List Int := if mrgE l ≠ 0 then [] else slF (swA l) 1024
def pMrg (l : List (Option Bool × List Int)) : Prop := l.length ≤ 2000 ∧ (l.length ≤ 8 → pOf l)
theorem cMerge (nl : Option Bool) (l : List (Option Bool × List Int)) (T : List Int) (e : Int) (hT : T = mrgT l) (he : e = mrgE l) (h : PRE (pMrg l)) : PurS Tryd.prog 15 [injT (.sl tTr) (nl, l)] (.tup [.tl none tI T, .p (iv e)]) := by
  refine PurS.of (S := [(38, _)]) (T := []) (tbl := [(39, ac39 none, [.tmp 2], 4)]) (n := 24) hmD cfg (.cons (spT1.ok (a := (.sl (.sl (.int .i64)))) fun x0 h => cOfT x0.1 x0.2 h) .nil) .nil (.cons Tryd.call39 Tryd.func39 (ac39_ok none) (by rw [Tryd.ntmps39]; exact Nat.le_refl _) .nil) 6 Tryd.call15 Tryd.func15 (ac15_ok (some (0, 0)) (some (3, 0))) (by rw [Tryd.ntmps15]; exact Nat.le_refl _) rfl ⟨_, rfl⟩ ?_
  intro cmp ar cv tn ic ai mx an ad ml sb mn ln em gt up ap sc vw cp rp p1 p2 s1 s2 X Y hX hY r0 r1 r2 r3 r4 r5 r6 r7 r8 r9 r10 r11 r12 r13 r14 r15 r16 r17 r18 r19 r20 r21 r22 r23 r24
  generalize hg0 : swA = g0
  generalize hg1 : swE = g1
  cbv
  have hp := h.h
  clear h
  have hlay : LAYOK [(1024, Value.bool false)] [SegT.a 1024 Ty.bool] := LAYOK.mk (by kernel_rfl)
  have hpre : cmp .gtr (ic (ln tTr l)) 8 = false → PRE (pSw l) := fun h => by
    rw [r0, r4, r12] at h
    have h' : l.length ≤ 8 := by have h2 : (l.length : Int) ≤ 8 := by simpa [cmpR] using h
                                 omega
    exact ⟨⟨by omega, hp.2 h'⟩⟩
  have hT2 : mrgT l = if mrgE l ≠ 0 then [] else slF (swA l) 1024 := rfl
  have he2 : mrgE l = if l.length > 8 then 10 else swE l := rfl
  have hn : nlLe (some true) none := by simp [nlLe_none]
  repeat' (first | exact True.intro | refine And.intro ?_ ?_ | (refine BR.nn r0 ?_) | (refine BR.lss r0 ?_ ?_ <;> intro _) | (refine BR.neq r0 ?_ ?_ <;> intro _) | (refine BR.eql r0 ?_ ?_ <;> intro _) | (refine BR.leq r0 ?_ ?_ <;> intro _) | (refine BR.gtr r0 ?_ ?_ <;> intro _) | (refine BR.geq r0 ?_ ?_ <;> intro _) | (refine BR.mk ?_ ?_ <;> intro _) | (refine CASE.mk ?_; intro _))
  · exact hn
  · clear hX hpre; subst_vars; simp only [Short_iff, cmpR, arR, mxR, INB_iff, SLB_iff, SLM_iff, NZ_iff, NN_iff, EQN_iff, LEN_iff, LIM_iff, MK_iff, decide_eq_true_eq, decide_eq_false_iff_not, ne_eq, Bool.and_eq_true] at *; grind
  · clear hX hpre; subst_vars; simp only [Short_iff, cmpR, arR, mxR, INB_iff, SLB_iff, SLM_iff, NZ_iff, NN_iff, EQN_iff, LEN_iff, LIM_iff, MK_iff, decide_eq_true_eq, decide_eq_false_iff_not, ne_eq, Bool.and_eq_true] at *; grind
  · exact hpre ‹_›
  · exact hlay
  · exact hn
  · clear hX hpre; subst_vars; simp only [Short_iff, cmpR, arR, mxR, INB_iff, SLB_iff, SLM_iff, NZ_iff, NN_iff, EQN_iff, LEN_iff, LIM_iff, MK_iff, decide_eq_true_eq, decide_eq_false_iff_not, ne_eq, Bool.and_eq_true] at *; grind
  · clear hX hpre; subst_vars; simp only [Short_iff, cmpR, arR, mxR, INB_iff, SLB_iff, SLM_iff, NZ_iff, NN_iff, EQN_iff, LEN_iff, LIM_iff, MK_iff, decide_eq_true_eq, decide_eq_false_iff_not, ne_eq, Bool.and_eq_true] at *; grind
  clear hpre
  refine ALLY.mk fun y => ?_
  cbv
  refine LOOP.ind (σ := List Int × Int) (fun (O, k) => [(0, .fn (.yield y) [] []), (5, .ptr 1 0), (6, .p (iv k))]) (fun (O, k) => ⟨[{ cells := [.og 0 tI O], e := 30, fz := false }, { cells := [.arr 1024 .bool (g0 l)], e := 67, fz := false }, { cells := [.ptr 1 0], e := 77, fz := false }], [(ml (ln tI O) 1, 3)]⟩) (fun (O, k) => (1024 - k).toNat)
    (fun (O, k) => 0 ≤ k ∧ k ≤ 1024 ∧ O.length ≤ k ∧ O ++ slF (g0 l) (1024 - k).toNat = slF (g0 l) 1024) ([], 0) (by simp) (.inr ⟨[some 0, some 1, some 2], [none], ?_⟩) ?_
  · rw [SIM_iff]; cbv
    simp
  intro ⟨O, k⟩ hI X' hY
  dsimp only at hI
  have hsl : k < 1024 → slF (g0 l) (1024 - k).toNat = if gtR .bool (g0 l) k then k :: slF (g0 l) (1024 - (k + 1)).toNat else slF (g0 l) (1024 - (k + 1)).toNat := fun h => by
    rw [show (1024 - k).toNat = (1024 - (k + 1)).toNat + 1 by omega, slF, show (1024 : Int) - ((1024 - (k + 1)).toNat + 1 : Nat) = k by omega]
  have hse : ¬ k < 1024 → slF (g0 l) (1024 - k).toNat = [] := fun h => by rw [show (1024 - k).toNat = 0 by omega]; rfl
  cbv
  repeat' (first | exact True.intro | refine And.intro ?_ ?_ | (refine BR.mk ?_ ?_ <;> intro _) | (refine CASE.mk ?_; intro _) | refine NEXT.mk (hY (_, _) _ _ ?_ ?_ (.inl ⟨rfl, rfl⟩)))
  all_goals clear hY
  all_goals subst_vars
  all_goals try simp only [Short_iff, cmpR, arR, mxR, INB_iff, SLB_iff, SLM_iff, NZ_iff, NN_iff, EQN_iff, LEN_iff, LIM_iff, MK_iff, decide_eq_true_eq, decide_eq_false_iff_not, ne_eq, Bool.and_eq_true] at *
  all_goals try dsimp only [Ty.den] at *
  all_goals try simp only [nc_eq] at *
  all_goals try (simp (disch := omega) only [wrap64] at *)
  all_goals first | exact nlLe_none.2 trivial | grind
end Go.Ab

