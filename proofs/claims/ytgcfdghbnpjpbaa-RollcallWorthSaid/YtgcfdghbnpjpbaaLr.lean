/- RollcallWorth. -/
import Derived.Test.YtgcfdghbnpjpbaaLq
set_option linter.unusedSimpArgs false
set_option linter.unusedVariables false
set_option maxRecDepth 20000
set_option maxHeartbeats 8000000
namespace Go.Ab
open Go.Proofs
theorem cCopyRT (nl : Option Bool) (l : List ROW) (h : SHR l) : PurS Try.prog 20 [injT (.sl tRow) (nl, l)] (.tl none tRow (cpRow l)) := cCopyR nl l _ rfl h
theorem cWorthT (nl : Option Bool) (l : List DUE) (ns : Option Bool) (s : List ROW) (per : Int) (h : Short 2000 l) : PurS Try.prog 21 [injT (.sl tDue) (nl, l), injT (.sl tRow) (ns, s), injT tI per] (.tup [.p (iv (worM l s per).1), .p (iv (worM l s per).2)]) := cWorth nl l ns s per _ _ rfl h
theorem cRWorthT (nl : Option Bool) (l : List DUE) (ns : Option Bool) (s : List ROW) (per : Int) (h : Short 2000 l) : PurS Try.prog 22 [injT (.sl tDue) (nl, l), injT (.sl tRow) (ns, s), injT tI per] (.tup [.p (iv (worM l s per).1), .p (iv (worM l s per).2)]) := cRWorth nl l ns s per _ _ rfl h
theorem worR_cp (l : List DUE) (per : Int) : ∀ (s : List ROW) (c : Int) (dn : List Int) (sm : Int), worR l per (cpRow s) c dn sm = worR l per s c dn sm
 | [], _, _, _ => rfl
 | r :: s, c, dn, sm => by
   have ih := worR_cp l per s
   show worR l per ((none, r.2) :: cpRow s) c dn sm = _
   unfold worR
   simp only [ih]
theorem worM_cp (l : List DUE) (s : List ROW) (per : Int) : worM l (cpRow s) per = worM l s per := by
 unfold worM
 rw [worR_cp]
 simp [cpRow]
theorem eqR_cp (s : List ROW) : eqR (cpRow s) s = true := by
 unfold eqR cpRow
 rw [List.map_map]
 exact decide_eq_true rfl
theorem long_ok {l : List DUE} {s : List ROW} (h : lonB l s = false) : l.length ≤ 80 ∧ s.length ≤ 80 ∧ ∀ r ∈ s, r.2.length ≤ 80 := by
 unfold lonB at h
 simp only [Bool.or_eq_false_iff, decide_eq_false_iff_not, List.any_eq_false, decide_eq_true_eq] at h
 exact ⟨by omega, by omega, fun r hr => by have := h.2 r hr; omega⟩
theorem SHR_cp {s : List ROW} (h : SHR s) : SHR (cpRow s) := ⟨by simpa [cpRow] using h.a, fun r hr => by
 obtain ⟨x, hx, rfl⟩ := List.mem_map.1 hr
 exact h.b x hx⟩
theorem lawWorth (nl : Option Bool) (l : List DUE) (ns : Option Bool) (s : List ROW) (per : Int) : PurS Try.prog 4 [injT (.sl tDue) (nl, l), injT (.sl tRow) (ns, s), injT tI per] (.sb true) := by
 refine PurS.of (S := [(8, _), (9, _), (10, _), (20, _), (21, _), (22, _), (19, _), (17, _)]) (T := []) (U := []) (tbl := []) (n := 56) hm15 cfg (.cons (spT2.ok (a := (.sl (.pair (.int .i64) (.pair (.int .i64) (.int .i64))))) (b := (.sl (.sl (.int .i64)))) (pre := fun _ _ => True) fun x0 x1 _ => cLong x0.1 x0.2 x1.1 x1.2) (.cons (spT0.ok cAwake) (.cons (spT1.ok (a := (.sl (.pair (.int .i64) (.pair (.int .i64) (.int .i64))))) fun x0 h => cCopyD x0.1 x0.2 h) (.cons (spT1.ok (a := (.sl (.sl (.int .i64)))) fun x0 h => cCopyRT x0.1 x0.2 h) (.cons (spT3.ok (a := (.sl (.pair (.int .i64) (.pair (.int .i64) (.int .i64))))) (b := (.sl (.sl (.int .i64)))) (c := (.int .i64)) fun x0 x1 x2 h => cWorthT x0.1 x0.2 x1.1 x1.2 x2 h) (.cons (spT3.ok (a := (.sl (.pair (.int .i64) (.pair (.int .i64) (.int .i64))))) (b := (.sl (.sl (.int .i64)))) (c := (.int .i64)) fun x0 x1 x2 h => cRWorthT x0.1 x0.2 x1.1 x1.2 x2 h) (.cons (spT2.ok (a := (.sl (.pair (.int .i64) (.pair (.int .i64) (.int .i64))))) (b := (.sl (.pair (.int .i64) (.pair (.int .i64) (.int .i64))))) fun x0 x1 h => cEqD x0.1 x0.2 x1.1 x1.2 h) (.cons (spT2.ok (a := (.sl (.sl (.int .i64)))) (b := (.sl (.sl (.int .i64)))) fun x0 x1 h => cEqR x0.1 x0.2 x1.1 x1.2 h) .nil)))))))) .nil .nil .nil 0 Try.call4 Try.func4 (ac4_ok (some (0, 0))) (by rw [Try.ntmps4]; exact Nat.le_refl _) rfl ⟨_, rfl⟩ ?_
 intro cmp ar cv tn ic ai mx an ad ml sb mn ln em gt up ap sc vw cp rp p1 p2 s1 s2 X Y hX hY r0 r1 r2 r3 r4 r5 r6 r7 r8 r9 r10 r11 r12 r13 r14 r15 r16 r17 r18 r19 r20 r21 r22 r23 r24
 generalize hg0 : lonB = g0
 generalize hg1 : cpRow = g1
 generalize hg2 : worM = g2
 generalize hg3 : eqR = g3
 cbv
 refine BR.mk (fun _ => trivial) fun hlo => ?_
 have hlo : lonB l s = false := by rw [hg0]; exact hlo
 obtain ⟨h1, h2, h3⟩ := long_ok hlo
 have hs : Short 2000 l := ⟨by omega⟩
 have hr : SHR s := ⟨by omega, fun r hr => by have := h3 r hr; omega⟩
 have hr' : SHR (g1 s) := by rw [← hg1]; exact SHR_cp hr
 have e1 : g2 l (g1 s) per = g2 l s per := by rw [← hg1, ← hg2]; exact worM_cp l s per
 have e2 : g3 (g1 s) s = true := by rw [← hg1, ← hg3]; exact eqR_cp s
 refine ⟨hs, hr, hs, hs, ?_⟩
 show BR (cmp .eql (g2 l (g1 s) per).1 (g2 l s per).1) (BR (cmp .eql (g2 l (g1 s) per).2 (g2 l s per).2) (Short 2000 l ∧ BR true (SHR (g1 s) ∧ BR (g3 (g1 s) s) True (false = true)) (false = true)) (false = true)) (false = true)
 rw [e1, e2]
 exact BR.eql r0 (fun _ => BR.eql r0 (fun _ => ⟨hs, BR.mk (fun _ => ⟨hr', BR.mk (fun _ => trivial) fun h => Bool.noConfusion h⟩) fun h => Bool.noConfusion h⟩) fun h => absurd rfl h) fun h => absurd rfl h
theorem worth_typed : ∀ xs, TyVs Try.prog [22, 26, 3] xs → PurFn Try.prog 4 (xs.map .p) (.v (.bool true)) := law3 (P := Try.prog) (f := 4) (t1 := 22) (t2 := 26) (t3 := 3) (T1 := .sl tDue) (T2 := .sl tRow) (T3 := tI) (by kernel_rfl) fun l s per _ _ _ => lawWorth l.1 l.2 s.1 s.2 per
end Go.Ab
