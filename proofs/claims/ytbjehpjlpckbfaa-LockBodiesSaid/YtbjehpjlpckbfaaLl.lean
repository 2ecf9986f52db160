/- LockRoundTrip. -/
import Derived.Test.YtbjehpjlpckbfaaLk
set_option linter.unusedSimpArgs false
set_option linter.unusedVariables false
set_option maxRecDepth 20000
set_option maxHeartbeats 8000000
namespace Go.Ab
open Go.Proofs
theorem cAwake : PurS Try.prog 11 [] (.p (.v (.bool true))) := ⟨_, rfl, s32_awake⟩
theorem cPackP (a t se m : Int) (h : 0 ≤ se) : PurS Try.prog 29 [injT tChoice (a, (t, (se, m)))] (.tup [.tl none tB (packM (a, (t, (se, m)))), .p (iv (lcheckM (a, (t, (se, m)))))]) := (cPack a t se m _ h rfl).pur ⟨rfl, rfl⟩
structure UNPP (b : List Int) (to : Int) : Prop where
  h0 : ∀ x ∈ b, 0 ≤ x
  t0 : -9223372036854775808 ≤ to
  t1 : to ≤ 9223372036854775807
  l : b.length ≤ 1000000
theorem cUnpackT (nb : Option Bool) (b : List Int) (to : Int) (h : UNPP b to) : PurS Try.prog 30 [injT (.sl tB) (nb, b), injT tI to] (.tup [.agg [.p (iv (unpC b to).1), .p (iv (unpC b to).2.1), .p (uv (unpC b to).2.2.1), .p (iv (unpC b to).2.2.2)], .p (iv (unpE b to))]) :=
  cUnpack nb b to _ _ rfl rfl h.h0 ⟨h.t0, h.t1⟩ (Nat.le_trans h.l (by decide))
theorem cUnpackRT (nb : Option Bool) (b : List Int) (to : Int) (h : UNPP b to) : PurS Try.prog 28 [injT (.sl tB) (nb, b), injT tI to] (.tup [.agg [.p (iv (unpC b to).1), .p (iv (unpC b to).2.1), .p (uv (unpC b to).2.2.1), .p (iv (unpC b to).2.2.2)], .p (iv (unpE b to))]) :=
  cUnpackR nb b to _ _ rfl rfl h.h0 ⟨h.t0, h.t1⟩ (Nat.le_trans h.l (by decide))
structure PKP (se : Int) : Prop where
  h : 0 ≤ se
theorem cPackPT (a t se m : Int) (h : PKP se) : PurS Try.prog 29 [injT tChoice (a, (t, (se, m)))] (.tup [.tl none tB (packM (a, (t, (se, m)))), .p (iv (lcheckM (a, (t, (se, m)))))]) := cPackP a t se m h.h
theorem cPackRT (a t se m : Int) (h : PKP se) : PurS Try.prog 27 [injT tChoice (a, (t, (se, m)))] (.tup [.tl none tB (packM (a, (t, (se, m)))), .p (iv (lcheckM (a, (t, (se, m)))))]) := cPackR a t se m _ _ h.h rfl rfl
theorem lawTrip (a t se m : Int) (nb : Option Bool) (b : List Int) (to : Int) (hse : 0 ≤ se) (ht : -9223372036854775808 ≤ t ∧ t ≤ 9223372036854775807) (hb : ∀ x ∈ b, 0 ≤ x) (hto : -9223372036854775808 ≤ to ∧ to ≤ 9223372036854775807) : PurS Try.prog 6 [injT tChoice (a, (t, (se, m))), injT (.sl tB) (nb, b), injT tI to] (.sb true) := by
  refine PurS.of (S := [(11, _), (31, _), (29, _), (30, _), (57, _)]) (T := []) (U := []) (tbl := [(33, ac33 none, [.tmp 4], 8)]) (n := 92) hm32 cfg (.cons (spT0.ok cAwake) (.cons (spT1.ok (a := (.pair (.int .i64) (.pair (.int .i64) (.pair (.int .u8) (.int .i64))))) (pre := fun _ => True) fun x0 _ => cLChk x0.1 x0.2.1 x0.2.2.1 x0.2.2.2) (.cons (spT1.ok (a := (.pair (.int .i64) (.pair (.int .i64) (.pair (.int .u8) (.int .i64))))) fun x0 h => cPackPT x0.1 x0.2.1 x0.2.2.1 x0.2.2.2 h) (.cons (spT2.ok (a := (.sl (.int .u8))) (b := (.int .i64)) fun x0 x1 h => cUnpackT x0.1 x0.2 x1 h) (.cons (spT2.ok (a := (.sl (.int .u8))) (b := (.sl (.int .u8))) fun x0 x1 h => cEqB x0.1 x0.2 x1.1 x1.2 h) .nil))))) .nil .nil (.cons Try.call33 Try.func33 (ac33_ok none) (by rw [Try.ntmps33]; exact Nat.le_refl _) .nil) 6 Try.call6 Try.func6 (ac6_ok (some (0, 0))) (by rw [Try.ntmps6]; exact Nat.le_refl _) rfl ⟨_, rfl⟩ ?_
  intro cmp ar cv tn ic ai mx an ad ml sb mn ln em gt up ap sc vw cp rp p1 p2 s1 s2 X Y hX hY r0 r1 r2 r3 r4 r5 r6 r7 r8 r9 r10 r11 r12 r13 r14 r15 r16 r17 r18 r19 r20 r21 r22 r23 r24
  generalize hg0 : lcheckM = g0
  generalize hg1 : packM = g1
  generalize hg2 : unpE = g2
  generalize hg3 : unpC = g3
  generalize hg4 : eqI = g4
  cbv
  dsimp only
  obtain ⟨e, he⟩ : ∃ e, e = g0 (a, (t, (se, m))) := ⟨_, rfl⟩
  obtain ⟨B, hB⟩ : ∃ B, B = g1 (a, (t, (se, m))) := ⟨_, rfl⟩
  obtain ⟨f1, hf1⟩ : ∃ f, f = g2 B t := ⟨_, rfl⟩
  obtain ⟨⟨u1, u2, u3, u4⟩, hu⟩ : ∃ u : Int × Int × Int × Int, u = g3 B t := ⟨_, rfl⟩
  obtain ⟨f, hf⟩ : ∃ f, f = g2 b to := ⟨_, rfl⟩
  obtain ⟨⟨v1, v2, v3, v4⟩, hv⟩ : ∃ u : Int × Int × Int × Int, u = g3 b to := ⟨_, rfl⟩
  have hT0 : ¬ e = 0 → B = [] := fun h => by rw [hB, ← hg1]; unfold packM; rw [if_neg]; rw [hg0, ← he]; exact h
  have hT1 : e = 0 → f1 = 0 ∧ u1 = a ∧ u2 = t ∧ u3 = se ∧ u4 = m ∧ B.length = 56 := fun h => by
    have hl : lcheckM (a, (t, (se, m))) = 0 := by rw [hg0, ← he]; exact h
    have hBp : B = packL (a, (t, (se, m))) := by rw [hB, ← hg1]; unfold packM; rw [if_pos hl]
    obtain ⟨k1, k2⟩ := trip1 hl hse
    rw [← hBp, hg2, ← hf1] at k1
    rw [← hBp, hg3, ← hu] at k2
    have k3 : u1 = a ∧ u2 = t ∧ u3 = se ∧ u4 = m := by simpa using k2
    exact ⟨k1, k3.1, k3.2.1, k3.2.2.1, k3.2.2.2, by rw [hBp]; rfl⟩
  have hBb : ∀ x ∈ B, 0 ≤ x := fun x hx => by
    rw [hB, ← hg1] at hx
    unfold packM at hx
    split at hx
    · rcases packL_bit _ x hx with rfl | rfl <;> omega
    · cases hx
  have hBl : B.length ≤ 56 := by
    by_cases h : e = 0
    · rw [(hT1 h).2.2.2.2.2]; decide
    · rw [hT0 h]; decide
  have hU : f = 0 → g0 (v1, (v2, (v3, v4))) = 0 ∧ g1 (v1, (v2, (v3, v4))) = b ∧ v2 = to ∧ 0 ≤ v3 := fun h => by
    have k := trip2 (to := to) hb (by rw [hg2, ← hf]; exact h)
    rw [hg3, ← hv, hg0, hg1] at k
    exact k
  have hU0 : ¬ f = 0 → v1 = 0 ∧ v2 = 0 ∧ v3 = 0 ∧ v4 = 0 := fun h => by
    have k : unpC b to = (0, (0, (0, 0))) := by unfold unpC; rw [if_neg]; rw [hg2, ← hf]; exact h
    rw [hg3, ← hv] at k
    simpa using k
  have hq : ∀ x, g4 x x = true := fun x => by rw [← hg4]; simp [eqI]
  rw [← he, ← hB, ← hf1, ← hu, ← hf, ← hv]
  dsimp only
  obtain ⟨e2, he2⟩ : ∃ e, e = g0 (v1, (v2, (v3, v4))) := ⟨_, rfl⟩
  obtain ⟨B2, hB2⟩ : ∃ B, B = g1 (v1, (v2, (v3, v4))) := ⟨_, rfl⟩
  rw [← he2, ← hB2] at hU ⊢
  clear hf1 hu hf hv he hB he2 hB2
  have hlB : ic (ln tB B) = B.length := by rw [r4, r12]
  have hlb : ic (ln tB b) = b.length := by rw [r4, r12]
  have heq : ∀ x y z w x' y' z' w' : Int, an (cmp .eql x x') (an (cmp .eql y y') (an (cmp .eql z z') (an (cmp .eql w w') true))) = decide (x = x' ∧ y = y' ∧ z = z' ∧ w = w') := fun x y z w x' y' z' w' => by
    rw [r7, r0]; simp [cmpR]
  rw [heq, hlB, hlb]
  refine BR.gtr r0 (fun _ => trivial) fun hb2 => ⟨⟨hse⟩, ?_⟩
  refine BR.eql r0 (fun h1 => ?_) (fun h1 => ?_)
  · obtain ⟨k1, k2, k3, k4, k5, k6⟩ := hT1 h1
    refine ⟨⟨hBb, ht.1, ht.2, by omega⟩, BR.neq r0 (fun h => absurd k1 h) fun _ => BR.mk (fun _ => BR.neq r0 (fun h => absurd (show (B.length : Int) = 56 by omega) h) fun _ => ?_) (fun h => absurd h (by simp [k2, k3, k4, k5]))⟩
    refine ⟨⟨hb, hto.1, hto.2, by omega⟩, BR.neq r0 (fun h => ?_) (fun h => ?_)⟩
    · obtain ⟨rfl, rfl, rfl, rfl⟩ := hU0 h
      exact BR.mk (fun _ => trivial) (fun h => absurd h (by rw [heq]; simp))
    · obtain ⟨k1, k2, k3, k4⟩ := hU (Classical.not_not.1 h)
      refine ⟨⟨k4⟩, BR.eql r0 (fun _ => ⟨⟨by rw [k2]; omega⟩, BR.mk (fun _ => BR.eql r0 (fun _ => BR.eql r0 (fun _ => trivial) (fun h => absurd k1 h)) (fun h => absurd k3 h)) (fun h => absurd h (by rw [k2, hq]; decide))⟩) (fun h => absurd k1 h)⟩
  · have hB0 := hT0 h1
    refine BR.nn r0 (BR.neq r0 (fun h => absurd (show (B.length : Int) = 0 by rw [hB0]; rfl) h) fun _ => ?_)
    refine ⟨⟨hb, hto.1, hto.2, by omega⟩, BR.neq r0 (fun h => ?_) (fun h => ?_)⟩
    · obtain ⟨rfl, rfl, rfl, rfl⟩ := hU0 h
      exact BR.mk (fun _ => trivial) (fun h => absurd h (by rw [heq]; simp))
    · obtain ⟨k1, k2, k3, k4⟩ := hU (Classical.not_not.1 h)
      refine ⟨⟨k4⟩, BR.eql r0 (fun _ => ⟨⟨by rw [k2]; omega⟩, BR.mk (fun _ => BR.eql r0 (fun _ => BR.eql r0 (fun _ => trivial) (fun h => absurd k1 h)) (fun h => absurd k3 h)) (fun h => absurd h (by rw [k2, hq]; decide))⟩) (fun h => absurd k1 h)⟩
theorem trip_typed : ∀ xs, TyVs Try.prog [34, 54, 3] xs → PurFn Try.prog 6 (xs.map .p) (.v (.bool true)) := law3 (P := Try.prog) (f := 6) (t1 := 34) (t2 := 54) (t3 := 3) (T1 := tChoice) (T2 := .sl tB) (T3 := tI) (by kernel_rfl) fun c b to hc hb hto => lawTrip c.1 c.2.1 c.2.2.1 c.2.2.2 b.1 b.2 to (wf_u8 hc.2.2.1).1 (by have := wf_i64 hc.2.1; exact ⟨this.1, by omega⟩) (fun x hx => (wf_u8 (hb.2.2 x hx)).1) (by have := wf_i64 hto; exact ⟨this.1, by omega⟩)
end Go.Ab

