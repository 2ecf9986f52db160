/- LinkOrder's walk. -/
import Derived.Test.YtchmkekndbfflaaLq
set_option linter.unusedSimpArgs false
set_option linter.unusedVariables false
set_option maxRecDepth 20000
set_option maxHeartbeats 2000000
namespace Go.Ab
open Go.Proofs
theorem lawOrder (d0 m0 : Int) (hd : 0 ≤ d0 ∧ d0 < 256) (hm : 0 ≤ m0 ∧ m0 < 256) : PurS Try.prog 8 [injT (.int .u8) d0, injT (.int .u8) m0] (.sb true) := by
  refine PurS.of (S := [(10, _), (27, _), (28, _), (17, _)]) (T := [(11, _), (13, _), (15, _)]) (tbl := []) (n := 152) hm33 cfg (.cons (spT0.ok caw33b) (.cons (spT1.ok (a := (.int .i64)) (pre := fun _ => True) fun x0 _ => c27 x0) (.cons (spT1.ok (a := .bool) (pre := fun _ => True) fun x0 _ => c28 x0) (.cons (spT2.ok (a := (.sl (.pair (.int .i64) (.pair (.int .i64) (.pair (.int .u8) (.int .i64)))))) (b := (.sl (.pair (.int .i64) (.pair (.int .i64) (.pair (.int .u8) (.int .i64)))))) fun x0 x1 h => cChoices' x0.1 x0.2 x1.1 x1.2 h) .nil)))) (.cons cNewT (.cons cSendR (.cons cHearR .nil))) .nil 0 Try.call8 Try.func8 (ac8_ok (some (0, 0))) (by rw [Try.ntmps8]; exact Nat.le_refl _) rfl ⟨_, rfl⟩ ?_
  intro cmp ar cv tn ic ai mx an ad ml sb mn ln em gt up ap sc vw cp rp p1 p2 s1 s2 X Y hX hY r0 r1 r2 r3 r4 r5 r6 r7 r8 r9 r10 r11 r12 r13 r14 r15 r16 r17 r18 r19 r20 r21 r22 r23 r24
  generalize hg0 : boolM = g0
  generalize hg1 : eqCh = g1
  generalize hg2 : fatesM = g2
  cbv
  refine ⟨⟨by decide⟩, ⟨by decide⟩, ?_⟩
  obtain ⟨d, hdd⟩ : ∃ d, d = ar .rem .i64 (cv .i64 d0) 9 := ⟨_, rfl⟩
  obtain ⟨n, hnn⟩ : ∃ n, n = ar .rem .i64 (cv .i64 m0) 41 := ⟨_, rfl⟩
  rw [← hdd, ← hnn]
  refine LOOP.ind (σ := List Int × List tChoice.den × Int) (fun (a, w, i) => [(5, .p (iv d)), (6, .p (iv n)), (7, .og 0 tI a), (8, .og 1 tChoice w), (9, .p (iv i))]) (fun (a, w, i) => ⟨[], [(ml (ln tI a) 1, 3), (ml (ln tChoice w) 4, 33)]⟩) (fun (a, w, i) => (n - i).toNat)
    (fun (a, w, i) => 0 ≤ i ∧ i ≤ n ∧ a = List.replicate i.toNat d ∧ w = wantL i.toNat) ([], [], 0) ?_ (.inr ⟨[], [none, none], ?_⟩) ?_
  · subst_vars; simp [wantL, tI_rem hm]; omega
  · rw [SIM_iff]; cbv; simp [nlLe_self]
  intro ⟨a, w, i⟩ hI X' hX
  dsimp only at hI
  cbv
  have hw1 : ∀ i : Int, 0 ≤ i → wantL (i + 1).toNat = wantL i.toNat ++ [(3, 4, 0, i + 1)] := fun i h => by rw [show (i + 1).toNat = i.toNat + 1 by omega]; simp [wantL, List.range_succ, wantE]; omega
  have hwl : ∀ k : Nat, (wantL k).length = k := fun k => by simp [wantL]
  have hrep : ∀ i : Int, 0 ≤ i → List.replicate (i + 1).toNat d = List.replicate i.toNat d ++ [d] := fun i h => by rw [show (i + 1).toNat = i.toNat + 1 by omega, List.replicate_succ']
  have hdR : d = d0 % 9 := by subst_vars; exact tI_rem hd (by omega)
  have hnR : n = m0 % 41 := by subst_vars; exact tI_rem hm (by omega)
  repeat' (first | exact True.intro | refine And.intro ?_ ?_ | (refine BR.mk ?_ ?_ <;> intro _) | (refine CASE.mk ?_; intro _) | refine NEXT.mk (hX (_, _, _) _ _ ?_ ?_ (.inl ⟨rfl, rfl⟩)))
  all_goals first | (show LOOP _ _ _ _ _ _; skip) | (show NEWK a; exact ⟨by rw [hI.2.2.1]; exact wrong_rep (by omega) (by omega) (by omega)⟩) | (show NEWK _; exact ⟨by decide⟩) | (clear hX; clear hdd hnn; (subst_vars; (all_goals try simp only [Short_iff, cmpR, arR, mxR, INB_iff, SLB_iff, SLM_iff, NZ_iff, NN_iff, EQN_iff, LEN_iff, LIM_iff, MK_iff, decide_eq_true_eq, decide_eq_false_iff_not, ne_eq, Bool.and_eq_true, cmpR] at *); (all_goals try dsimp only [Ty.den] at *); (all_goals try simp only [nc_eq] at *); (all_goals try (simp (disch := omega) only [wrap64] at *)); all_goals grind [nlLe_none, nlLe_self]))
  have hi : i = n := by
    have : cmp BinOp.lss i n = false := by assumption
    have : ¬ i < n := by subst_vars; simpa [cmpR] using this
    omega
  have hwn : w.length = n := by rw [hI.2.2.2, hwl]; omega
  clear hX
  refine LOOP.ind (σ := (Int × Nat) × (Int × Nat × List tPar.den) × (Nat × List tPar.den)) (fun ((i, k), _, _) => [(5, .p (iv d)), (6, .p (iv n)), (8, .og 1 tChoice w), (10, .ptr 0 0), (12, .ptr 3 0), (14, .p (iv i))]) (fun ((i, k), (t, Na, qa), (Nb, qb)) => stLL (g2 []) t i Na k qa (g2 a) t i Nb k qb [(ml (ln tI a) 1, 3), (ml (ln tChoice w) 4, 33)])
    (fun ((i, k), _, _) => (n - i).toNat)
    (fun ((i, k), (t, Na, qa), (Nb, qb)) => i = k ∧ i ≤ n ∧ (0 ≤ t ∧ t ≤ 10) ∧ SQ qa k (sL 10 k) ∧ qa.length = Na ∧ SQ qb k (sL (10 + d) k) ∧ qb.length = Nb) ((0, 0), (0, 0, []), (0, [])) ⟨rfl, by omega, by omega, .zero _, rfl, .zero _, rfl⟩ (.inr ⟨[some 0, some 1, some 2, some 3, some 4, some 5], [some 0, some 1], ?_⟩) ?_
  · rw [SIM_iff]; cbv; try simp [nlLe_self, lstEq]
  intro ⟨⟨j, k⟩, ⟨t, Na, qa⟩, ⟨Nb, qb⟩⟩ hJ X' hX
  dsimp only at hJ
  cbv
  simp only [nc_eq] at hJ
  obtain ⟨hJ1, hJ2, hJ3, hJa, hNa, hJb, hNb⟩ := hJ
  have hja : 0 ≤ j := by omega
  have hgt : j < n → gt tChoice w j = wantE k := fun h => by
    rw [r14, hI.2.2.2, hJ1]
    have : k < i.toNat := by omega
    simp [gtR, wantL, this]
  have hln : ic (ln tChoice w) = n := by rw [r4, r12]; exact hwn
  have hF : ∀ i, -1 ≤ gtR tI (g2 []) i ∧ gtR tI (g2 []) i ≤ 8 := by rw [← hg2]; exact fates_nil_b
  have hG : ∀ i, -1 ≤ gtR tI (g2 a) i ∧ gtR tI (g2 a) i ≤ 8 := by rw [← hg2, hI.2.2.1]; exact fates_rep_b (by omega)
  have ha : ar .add .i64 j 1 = j + 1 := by rw [r1]; exact wrap64 (n := j + 1) (by omega) (by omega)
  repeat' (first | exact True.intro | refine And.intro ?_ ?_ | (refine BR.nn r0 ?_) | (refine BR.lss r0 ?_ ?_ <;> intro _) | (refine BR.neq r0 ?_ ?_ <;> intro _) | (refine BR.eql r0 ?_ ?_ <;> intro _) | (refine BR.leq r0 ?_ ?_ <;> intro _) | (refine BR.gtr r0 ?_ ?_ <;> intro _) | (refine BR.geq r0 ?_ ?_ <;> intro _) | (refine BR.mk ?_ ?_ <;> intro _) | (refine CASE.mk ?_; intro _))
  all_goals first | (rw [hln]; exact ⟨hja, by omega⟩) | skip
  · have hjn : j < n := by assumption
    rw [hgt hjn]
    simp only [r21, r22]
    refine SENT.mk ⟨hNa, hNa ▸ hJa.le, by omega, by omega, by omega, hF⟩ ?_
    intro e1 now1 s1 N1 n1 q1 h1
    obtain ⟨rfl, rfl, k3, k4, k5, k6⟩ := h1.good (x := wantE k) (s := sL 10 k) hJa hNa (fun y hy => by have := (sL_mem hy).2; omega) (by unfold atM; grind) (lq_want k (by omega)) (by omega)
    clear h1
    obtain ⟨rfl, k4'⟩ := sL_send k4 (by rw [← hg2]; unfold fateM; rw [fates_nil]; split <;> rfl) (by omega) hJ1
    obtain ⟨n1, hn1⟩ : ∃ x, x = k + 1 := ⟨_, rfl⟩
    rw [← hn1] at k4' ⊢
    cbv
    simp only [nc_eq] at hJ1
    repeat' (first | exact True.intro | refine And.intro ?_ ?_ | (refine BR.nn r0 ?_) | (refine BR.lss r0 ?_ ?_ <;> intro _) | (refine BR.neq r0 ?_ ?_ <;> intro _) | (refine BR.eql r0 ?_ ?_ <;> intro _) | (refine BR.leq r0 ?_ ?_ <;> intro _) | (refine BR.gtr r0 ?_ ?_ <;> intro _) | (refine BR.geq r0 ?_ ?_ <;> intro _) | (refine BR.mk ?_ ?_ <;> intro _) | (refine CASE.mk ?_; intro _))
    all_goals first | (rw [hln]; exact ⟨hja, by omega⟩) | skip
    rw [hgt hjn]
    refine SENT.mk ⟨hNb, hNb ▸ hJb.le, by omega, by omega, by omega, hG⟩ ?_
    intro e2 now2 s2 N2 n2 q2 h2
    obtain ⟨rfl, rfl, m3, m4, m5, m6⟩ := h2.good (x := wantE k) (s := sL (10 + d) k) hJb hNb (fun y hy => by have := (sL_mem hy).2; omega) (by unfold atM; grind) (lq_want k (by omega)) (by omega)
    clear h2
    obtain ⟨rfl, m4'⟩ := sL_send m4 (by rw [← hg2, hI.2.2.1]; unfold fateM; rw [fates_rep, if_pos (by omega), if_pos (by omega)]; omega) (by omega) hJ1
    rw [← hn1] at m4' ⊢
    cbv
    repeat' (first | exact True.intro | refine And.intro ?_ ?_ | (refine BR.nn r0 ?_) | (refine BR.lss r0 ?_ ?_ <;> intro _) | (refine BR.neq r0 ?_ ?_ <;> intro _) | (refine BR.eql r0 ?_ ?_ <;> intro _) | (refine BR.leq r0 ?_ ?_ <;> intro _) | (refine BR.gtr r0 ?_ ?_ <;> intro _) | (refine BR.geq r0 ?_ ?_ <;> intro _) | (refine BR.mk ?_ ?_ <;> intro _) | (refine CASE.mk ?_; intro _))
    obtain ⟨j2, hj2⟩ : ∃ x, x = ar .add .i64 j 1 := ⟨_, rfl⟩
    rw [← hj2]
    refine NEXT.mk (hX ((j2, n1), (10, N1, q1), (N2, q2)) _ _ ?_ ?_ (.inr ⟨[some 0, some 1, some 6, some 3, some 4, some 7], [some 0, some 1], ?_⟩))
    · simp only [nc_eq] at *
      exact ⟨by omega, by omega, by omega, k4', k5, m4', m5⟩
    · show (n - j2).toNat < (n - j).toNat
      omega
    · rw [SIM_iff]; cbv
      simp [lstEq, nlLe_self]
      omega
  have hjn : j = n := by omega
  have hkn : k = n.toNat := by omega
  have hwk : w = wantL k := by rw [hI.2.2.2, hi, hkn]
  have hol : w.length ≤ 40 := by rw [hwk, hwl]; omega
  refine HEAR.mk ⟨by unfold atM; grind, hNa, hNa ▸ hJa.le, by omega⟩ ?_
  intro n1 q1 o1 hn1 hq1 ho1
  obtain ⟨x1, x2, x3, x4⟩ := hJa.hears (t := 10)
  rw [sL_takeWhile, if_pos (by omega), sL_map, ← ho1, ← hwk] at x1
  clear hn1 hq1 ho1
  subst x1
  cbv
  repeat' (first | exact True.intro | refine And.intro ?_ ?_ | (refine BR.nn r0 ?_) | (refine BR.lss r0 ?_ ?_ <;> intro _) | (refine BR.neq r0 ?_ ?_ <;> intro _) | (refine BR.eql r0 ?_ ?_ <;> intro _) | (refine BR.leq r0 ?_ ?_ <;> intro _) | (refine BR.gtr r0 ?_ ?_ <;> intro _) | (refine BR.geq r0 ?_ ?_ <;> intro _) | (refine BR.mk ?_ ?_ <;> intro _) | (refine CASE.mk ?_; intro _))
  all_goals simp only [nc_eq] at *
  all_goals obtain ⟨T, hT⟩ : ∃ T, T = 10 + d := ⟨_, rfl⟩
  all_goals obtain ⟨S, hS⟩ : ∃ S, S = 9 + d := ⟨_, rfl⟩
  all_goals have ha10 : ar .add .i64 10 d = T := by rw [r1, hT]; exact wrap64 (n := 10 + d) (by omega) (by omega)
  all_goals have hb10 : ar .sub .i64 T 1 = S := by rw [r1]; exact (wrap64 (n := T - 1) (by omega) (by omega)).trans (by omega)
  all_goals rw [← hT] at hJb
  all_goals rw [ha10, hb10]
  · have hd0 : d = 0 := by assumption
    have hc10 : ar .add .i64 S (g0 true) = T := by rw [r1, ← hg0]; exact (wrap64 (n := S + 1) (by omega) (by omega)).trans (by omega)
    rw [hc10]
    refine HEAR.mk ⟨by unfold atM; grind, hNb, hNb ▸ hJb.le, by omega⟩ ?_
    intro n2 q2 o2 hn2 hq2 ho2
    obtain ⟨y1, y2, y3, y4⟩ := hJb.hears (t := T)
    rw [sL_takeWhile, if_pos (by omega), sL_map, ← ho2, ← hwk] at y1
    rw [sL_dropWhile, if_pos (by omega)] at y2 y3
    rw [← hn2] at y2 y3
    rw [← hq2] at y3 y4
    clear hn2 hq2 ho2
    obtain rfl := y1
    cbv
    rw [ha10]
    simp only [List.length_nil] at y2
    refine HEAR.mk ⟨by unfold atM; grind, by omega, by omega, by omega⟩ ?_
    intro n3 q3 o3 hn3 hq3 ho3
    obtain ⟨z1, z2, z3, z4⟩ := y3.hears (t := T)
    simp only [List.takeWhile, List.map_nil, ← ho3] at z1
    clear hn3 hq3 ho3
    obtain rfl := z1
    cbv
    repeat' (first | exact True.intro | refine And.intro ?_ ?_ | (refine BR.nn r0 ?_) | (refine BR.lss r0 ?_ ?_ <;> intro _) | (refine BR.neq r0 ?_ ?_ <;> intro _) | (refine BR.eql r0 ?_ ?_ <;> intro _) | (refine BR.leq r0 ?_ ?_ <;> intro _) | (refine BR.gtr r0 ?_ ?_ <;> intro _) | (refine BR.geq r0 ?_ ?_ <;> intro _) | (refine BR.mk ?_ ?_ <;> intro _) | (refine CASE.mk ?_; intro _))
    all_goals subst_vars
    all_goals simp only [Short_iff, cmpR, arR, mxR, INB_iff, SLB_iff, SLM_iff, NZ_iff, NN_iff, EQN_iff, LEN_iff, LIM_iff, MK_iff, decide_eq_true_eq, decide_eq_false_iff_not, ne_eq, Bool.and_eq_true] at *
    all_goals try dsimp only [Ty.den] at *
    all_goals try simp only [nc_eq] at *
    all_goals first | omega | (simp [eqCh] at *; done) | (simp [eqCh] at *; omega) | grind [eqCh]
  · have hd0 : ¬ d = 0 := by assumption
    have hc10 : ar .add .i64 S (g0 false) = S := by rw [r1, ← hg0]; exact (wrap64 (n := S + 0) (by omega) (by omega)).trans (by omega)
    rw [hc10]
    refine HEAR.mk ⟨by unfold atM; grind, hNb, hNb ▸ hJb.le, by omega⟩ ?_
    intro n2 q2 o2 hn2 hq2 ho2
    obtain ⟨y1, y2, y3, y4⟩ := hJb.hears (t := S)
    rw [sL_takeWhile, if_neg (by omega), List.map_nil, ← ho2] at y1
    rw [sL_dropWhile, if_neg (by omega)] at y2 y3
    rw [← hn2] at y2 y3
    rw [← hq2] at y3 y4
    rw [sL_len] at y2
    clear hn2 hq2 ho2
    obtain rfl := y1
    cbv
    simp only [nc_eq] at *
    rw [ha10]
    refine HEAR.mk ⟨by unfold atM; grind, by omega, by have := hJb.le; omega, by omega⟩ ?_
    intro n3 q3 o3 hn3 hq3 ho3
    obtain ⟨z1, z2, z3, z4⟩ := y3.hears (t := T)
    rw [sL_takeWhile, if_pos (by omega), sL_map, ← ho3, ← hwk] at z1
    clear hn3 hq3 ho3
    obtain rfl := z1
    cbv
    repeat' (first | exact True.intro | refine And.intro ?_ ?_ | (refine BR.nn r0 ?_) | (refine BR.lss r0 ?_ ?_ <;> intro _) | (refine BR.neq r0 ?_ ?_ <;> intro _) | (refine BR.eql r0 ?_ ?_ <;> intro _) | (refine BR.leq r0 ?_ ?_ <;> intro _) | (refine BR.gtr r0 ?_ ?_ <;> intro _) | (refine BR.geq r0 ?_ ?_ <;> intro _) | (refine BR.mk ?_ ?_ <;> intro _) | (refine CASE.mk ?_; intro _))
    all_goals subst_vars
    all_goals simp only [Short_iff, cmpR, arR, mxR, INB_iff, SLB_iff, SLM_iff, NZ_iff, NN_iff, EQN_iff, LEN_iff, LIM_iff, MK_iff, decide_eq_true_eq, decide_eq_false_iff_not, ne_eq, Bool.and_eq_true] at *
    all_goals try dsimp only [Ty.den] at *
    all_goals try simp only [nc_eq] at *
    all_goals first | omega | (simp [eqCh] at *; done) | (simp [eqCh] at *; omega) | grind [eqCh]
theorem order_typed : ∀ xs, TyVs Try.prog [5, 5] xs → PurFn Try.prog 8 (xs.map .p) (.v (.bool true)) := law2 (P := Try.prog) (f := 8) (t1 := 5) (t2 := 5) (T1 := .int .u8) (T2 := .int .u8) (by kernel_rfl) fun a b ha hb => lawOrder a b (wf_u8 ha) (wf_u8 hb)
end Go.Ab

