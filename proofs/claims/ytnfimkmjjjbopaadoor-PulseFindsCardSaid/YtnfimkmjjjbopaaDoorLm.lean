/- PulseGrows. -/
import Derived.Test.YtnfimkmjjjbopaaDoorLk
set_option linter.unusedSimpArgs false
set_option linter.unusedVariables false
set_option maxRecDepth 20000
set_option maxHeartbeats 4000000
namespace Go.Ab
open Go.Proofs
theorem staT_len {t : List Int} : (staT t).length ≤ 1024 := by
  unfold staT
  split
  · simp
  · rw [stF_eq]; exact slP_len
theorem reaB_len {t : List Int} {n : Int} {lg : Bool} : (reaB t n lg).length ≤ 112 := by
  by_cases h : reaE t n lg = 0
  · rw [rea_len h]; cases lg <;> simp [reaM]
  · rw [reaB, if_pos h]; simp
theorem hasM_iff {l : List Int} {x : Int} : hasM l x = true ↔ x ∈ l := by simp [hasM]
theorem cGrows (nt : Option Bool) (t : List Int) (slot n : Int) (lg : Bool) (hs0 : 0 ≤ slot) (hs1 : slot < 65536) : PurS Tryd.prog 7 [injT (.sl tI) (nt, t), injT (.int .u16) slot, injT tI n, injT .bool lg] (.sb true) := by
  refine PurS.of (S := [(10, _), (9, _), (15, _), (25, _), (27, _), (33, _)]) (T := []) (tbl := []) (n := 129) hmD cfg (.cons (spT0.ok cAwakeT) (.cons (spT1.ok (a := (.sl (.sl (.int .i64)))) (pre := fun _ => True) fun x0 _ => cLong x0.1 x0.2) (.cons (spT1.ok (a := (.sl (.sl (.int .i64)))) fun x0 h => cMergeT x0.1 x0.2 h) (.cons (spT1.ok (a := (.sl (.int .i64))) fun x0 h => cStartsT x0.1 x0.2 h) (.cons (spT3.ok (a := (.sl (.int .i64))) (b := (.int .i64)) (c := .bool) fun x0 x1 x2 h => cReadT x0.1 x0.2 x1 x2 h) (.cons (spT2.ok (a := (.sl (.int .i64))) (b := (.int .i64)) fun x0 x1 h => cHas x0.1 x0.2 x1 h) .nil)))))) .nil .nil 0 Tryd.call7 Tryd.func7 (ac7_ok (some (0, 0))) (by rw [Tryd.ntmps7]; exact Nat.le_refl _) rfl ⟨_, rfl⟩ ?_
  intro cmp ar cv tn ic ai mx an ad ml sb mn ln em gt up ap sc vw cp rp p1 p2 s1 s2 X Y hX hY r0 r1 r2 r3 r4 r5 r6 r7 r8 r9 r10 r11 r12 r13 r14 r15 r16 r17 r18 r19 r20 r21 r22 r23 r24
  generalize hg0 : mrgT = g0
  generalize hg1 : mrgE = g1
  generalize hg2 : staT = g2
  generalize hg3 : staE = g3
  generalize hg4 : reaN = g4
  generalize hg5 : reaB = g5
  generalize hg6 : reaE = g6
  generalize hg7 : longB = g7
  generalize hg8 : hasM = g8
  cbv
  have hlen : longB [(nt, t)] = false → t.length ≤ 1100 := fun h => by simp [longB, lonB] at h; exact h
  obtain ⟨sl, hsl⟩ : ∃ s : Int, s = cv .i64 slot := ⟨_, rfl⟩
  have hslv : sl = slot := by rw [hsl, r2]; exact wrap64 (n := slot) (by omega) (by omega)
  rw [← hsl]
  clear hsl
  subst hslv
  obtain ⟨M, hM⟩ : ∃ M, M = mrgT [(nt, t), (some false, [sl])] := ⟨_, rfl⟩
  obtain ⟨Me, hMe⟩ : ∃ M, M = mrgE [(nt, t), (some false, [sl])] := ⟨_, rfl⟩
  have k0 : Me ≠ 0 → M = [] := fun h => by rw [hM]; exact mrgT_bad (by rw [← hMe]; exact h)
  have k1 : Me = 0 → chkE t = 0 ∧ chkE M = 0 ∧ ∀ x, t.contains x = true → M.contains x = true := fun h => by
    rw [hMe] at h
    refine ⟨(mrg2.1 h).1, by rw [hM]; exact mrgT_chk h, fun x hx => ?_⟩
    rw [hM, on_mrgT h]; simp [onB_cons]; exact .inl (by simpa using hx)
  have k2 : Me = 0 → staE t = 0 ∧ staE M = 0 := fun h => ⟨staE0 (k1 h).1, staE0 (k1 h).2.1⟩
  have k3 : Me = 0 → ∀ i : Int, 0 ≤ i → i < (staT t).length → hasM (staT M) (gtR tI (staT t) i) = true := fun h i i0 i1 => by
    obtain ⟨a1, a2, a3⟩ := k1 h
    rw [hasM_iff]; exact sta_mono a1 a2 a3 (gtR_mem (t := tI) i0 i1)
  have k4 : Me = 0 → reaE t n lg = 0 → reaE M n lg = 0 ∧ (reaB M n lg).length = (reaB t n lg).length ∧ ∀ k : Int, 0 ≤ k → k < (reaB t n lg).length → gtR tB (reaB t n lg) k = gtR tB (reaB M n lg) k ∨ gtR tB (reaB M n lg) k = 2 := fun h h2 => by
    obtain ⟨a1, a2, a3⟩ := k1 h
    exact rea_mono a1 a2 a3 h2
  have hMl : M.length ≤ 1024 := by rw [hM]; exact mrgT_len
  have hml : longB [(nt, t)] = false → MRG [(nt, t), (some false, [sl])] := fun h => MRG.of (by simp) (by have := hlen h; simp; omega)
  have hAl := staT_len (t := t)
  have hBl := staT_len (t := M)
  have hRl := reaB_len (t := t) (n := n) (lg := lg)
  clear k1
  simp only [hg0, hg1, hg2, hg3, hg4, hg5, hg6, hg7, hg8] at hlen hM hMe k2 k3 k4 hml hAl hBl hRl
  dsimp only
  rw [← hM, ← hMe]
  clear hM
  obtain ⟨A, hA⟩ : ∃ A, A = g2 t := ⟨_, rfl⟩
  obtain ⟨B, hB⟩ : ∃ B, B = g2 M := ⟨_, rfl⟩
  rw [← hA] at hAl k3 ⊢
  rw [← hB] at hBl k3 ⊢
  clear hA hB
  repeat' (first | exact True.intro | refine And.intro ?_ ?_ | (refine BR.mk ?_ ?_ <;> intro _) | (refine CASE.mk ?_; intro _) | refine NEXT.mk (hX _ _ _ ?_ ?_ (.inl ⟨rfl, rfl⟩)))
  all_goals first | (show LOOP _ _ _ _ _ _; skip) | (clear hX; subst_vars; (all_goals try simp only [Short_iff, cmpR, arR, mxR, INB_iff, SLB_iff, SLM_iff, NZ_iff, NN_iff, EQN_iff, LEN_iff, LIM_iff, MK_iff, decide_eq_true_eq, decide_eq_false_iff_not, ne_eq, Bool.and_eq_true, cmpR] at *); (all_goals try dsimp only [Ty.den] at *); (all_goals try simp only [nc_eq] at *); (all_goals try (simp (disch := omega) only [wrap64] at *)); all_goals grind)
  refine LOOP.ind (σ := Int) (fun i => [(0, .tl nt tI t), (2, .p (iv n)), (3, .sb lg), (9, .tl none tI M), (11, .tl none tI A), (13, .tl none tI B), (15, .p (iv i))]) (fun _ => ⟨[], []⟩) (fun i => (A.length - i).toNat) (fun i => 0 ≤ i ∧ i ≤ A.length) 0 (by simp) (.inl ⟨rfl, rfl⟩) ?_
  intro i hI X' hX
  obtain ⟨N1, hN1⟩ : ∃ N : Int, N = g4 t n lg := ⟨_, rfl⟩
  obtain ⟨N2, hN2⟩ : ∃ N : Int, N = g4 M n lg := ⟨_, rfl⟩
  obtain ⟨B1, hB1⟩ : ∃ N, N = g5 t n lg := ⟨_, rfl⟩
  obtain ⟨B2, hB2⟩ : ∃ N, N = g5 M n lg := ⟨_, rfl⟩
  obtain ⟨E1, hE1⟩ : ∃ N, N = g6 t n lg := ⟨_, rfl⟩
  obtain ⟨E2, hE2⟩ : ∃ N, N = g6 M n lg := ⟨_, rfl⟩
  rw [← hB1, ← hB2, ← hE1, ← hE2] at k4
  rw [← hB1] at hRl
  cbv
  rw [← hN1, ← hN2, ← hB1, ← hB2, ← hE1, ← hE2]
  clear hN1 hN2 hB1 hB2 hE1 hE2
  repeat' (first | exact True.intro | refine And.intro ?_ ?_ | (refine BR.mk ?_ ?_ <;> intro _) | (refine CASE.mk ?_; intro _) | refine NEXT.mk (hX _ _ _ ?_ ?_ (.inl ⟨rfl, rfl⟩)))
  all_goals first | (show LOOP _ _ _ _ _ _; skip) | (clear hX; subst_vars; (all_goals try simp only [Short_iff, cmpR, arR, mxR, INB_iff, SLB_iff, SLM_iff, NZ_iff, NN_iff, EQN_iff, LEN_iff, LIM_iff, MK_iff, decide_eq_true_eq, decide_eq_false_iff_not, ne_eq, Bool.and_eq_true, cmpR] at *); (all_goals try dsimp only [Ty.den] at *); (all_goals try simp only [nc_eq] at *); (all_goals try (simp (disch := omega) only [wrap64] at *)); all_goals grind)
  refine LOOP.ind (σ := Int) (fun k => [(16, .ptr 0 0), (18, .ptr 1 0), (20, .p (iv k))]) (fun _ => ⟨[{ cells := [.p (iv N1), .tl none tB B1], e := 46, fz := false }, { cells := [.p (iv N2), .tl none tB B2], e := 46, fz := false }], []⟩) (fun k => (B1.length - k).toNat) (fun k => 0 ≤ k ∧ k ≤ B1.length) 0 (by simp) (.inl ⟨rfl, rfl⟩) ?_
  intro k hJ X2 hZ
  cbv
  repeat' (first | exact True.intro | refine And.intro ?_ ?_ | (refine BR.mk ?_ ?_ <;> intro _) | (refine CASE.mk ?_; intro _) | refine NEXT.mk (hZ _ _ _ ?_ ?_ (.inl ⟨rfl, rfl⟩)) | refine NEXT.mk (hX _ _ _ ?_ ?_ (.inl ⟨rfl, rfl⟩)))
  all_goals clear hZ
  all_goals clear hX
  all_goals subst_vars
  all_goals try simp only [Short_iff, cmpR, arR, mxR, INB_iff, SLB_iff, SLM_iff, NZ_iff, NN_iff, EQN_iff, LEN_iff, LIM_iff, MK_iff, decide_eq_true_eq, decide_eq_false_iff_not, ne_eq, Bool.and_eq_true] at *
  all_goals try dsimp only [Ty.den] at *
  all_goals try simp only [nc_eq] at *
  all_goals try (simp (disch := omega) only [wrap64] at *)
  all_goals grind
theorem grows_typed : ∀ xs, TyVs Tryd.prog [30, 55, 3, 4] xs → PurFn Tryd.prog 7 (xs.map .p) (.v (.bool true)) := law4 (P := Tryd.prog) (f := 7) (t1 := 30) (t2 := 55) (t3 := 3) (t4 := 4) (T1 := .sl tI) (T2 := .int .u16) (T3 := tI) (T4 := .bool) (by kernel_rfl) fun a b c d _ hb _ _ => cGrows a.1 a.2 b c d (wf_u16 hb).1 (wf_u16 hb).2
end Go.Ab

