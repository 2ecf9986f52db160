/- fits and grows. -/
import Derived.Test.YtgcfdghbnpjpbaaLw
set_option linter.unusedSimpArgs false
set_option linter.unusedVariables false
set_option maxRecDepth 20000
set_option maxHeartbeats 8000000
namespace Go.Ab
open Go.Proofs
noncomputable def groM (l : List DUE) (cy per n : Int) : Bool := decide (wrnM l cy per ≠ 0) || decide ((worM l (planR l cy per) per).2 = 0 ∧ (worM l (planR l cy per) per).1 ≥ n)
theorem cGrows (nl : Option Bool) (l : List DUE) (cy per n : Int) (h : Short 2000 l) : PurS Try.prog 24 [injT (.sl tDue) (nl, l), injT tI cy, injT tI per, injT tI n] (.sb (groM l cy per n)) := by
 refine PurS.of (S := [(11, _), (21, _)]) (T := []) (U := []) (tbl := []) (n := 38) hm15 cfg (.cons (spT3.ok (a := (.sl (.pair (.int .i64) (.pair (.int .i64) (.int .i64))))) (b := (.int .i64)) (c := (.int .i64)) fun x0 x1 x2 h => cPlan x0.1 x0.2 x1 x2 h) (.cons (spT3.ok (a := (.sl (.pair (.int .i64) (.pair (.int .i64) (.int .i64))))) (b := (.sl (.sl (.int .i64)))) (c := (.int .i64)) fun x0 x1 x2 h => cWorthT x0.1 x0.2 x1.1 x1.2 x2 h) .nil)) .nil .nil .nil 0 Try.call24 Try.func24 (ac24_ok (some (0, 0))) (by rw [Try.ntmps24]; exact Nat.le_refl _) rfl ⟨_, rfl⟩ ?_
 intro cmp ar cv tn ic ai mx an ad ml sb mn ln em gt up ap sc vw cp rp p1 p2 s1 s2 X Y hX hY r0 r1 r2 r3 r4 r5 r6 r7 r8 r9 r10 r11 r12 r13 r14 r15 r16 r17 r18 r19 r20 r21 r22 r23 r24
 generalize hg0 : planR = g0
 generalize hg1 : wrnM = g1
 generalize hg2 : worM = g2
 generalize hg3 : groM = g3
 cbv
 have hz : g3 l cy per n = (decide (g1 l cy per ≠ 0) || decide ((g2 l (g0 l cy per) per).2 = 0 ∧ (g2 l (g0 l cy per) per).1 ≥ n)) := by rw [← hg0, ← hg1, ← hg2, ← hg3]; rfl
 rw [hz]
 show Short 2000 l ∧ Short 2000 l ∧ BR (cmp .neq (g1 l cy per) 0) _ (BR (cmp .eql (g2 l (g0 l cy per) per).2 0) (BR (cmp .geq (g2 l (g0 l cy per) per).1 n) _ _) _)
 refine ⟨h, h, BR.neq r0 (fun h1 => ?_) fun h1 => BR.eql r0 (fun h2 => BR.geq r0 (fun h3 => ?_) fun h3 => ?_) fun h2 => ?_⟩
 · simp [h1]
 · simp [h1, h2, h3]
 · simp [h1, h2, h3]
 · simp [h1, h2]
end Go.Ab
