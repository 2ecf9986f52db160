/- The reference: Merge, Starts, Read. -/
import Derived.Test.YtnfimkmjjjbopaaDoorLn
set_option linter.unusedSimpArgs false
set_option linter.unusedVariables false
set_option maxRecDepth 20000
set_option maxHeartbeats 4000000
namespace Go.Ab
open Go.Proofs
def errL : List TL → Int
  | [] => 0
  | t :: l => if chkE t.2 ≠ 0 then chkE t.2 else errL l
theorem swO_errL : ∀ {l : List TL} {S : List Bool}, (swO S l).2 = errL l
  | [], _ => rfl
  | t :: l, S => by
    rw [swO, errL]
    split
    · rfl
    · exact swO_errL
theorem swE_errL {l : List TL} : swE l = errL l := swO_errL
theorem any_step {l : List TL} {i : Int} {x : TL} (h0 : 0 ≤ i) (h1 : i < l.length) (hx : x = gtR tTr l i) (n : Int) : onB (l.drop i.toNat) n = (x.2.contains n || onB (l.drop (i + 1).toNat) n) := by
  rw [gtR_drop (t := tTr) h0 h1, onB_cons, hx]
theorem onS_cons {S : Bool} {a b : Bool} : (S || (a || b)) = ((S || a) || b) := (Bool.or_assoc _ _ _).symm
theorem cMergeR (nl : Option Bool) (l : List TL) (T : List Int) (e : Int) (hT : T = mrgT l) (he : e = mrgE l) (h : Short 2000 l) (hp : PRE (pOf l)) : PurS Tryd.prog 16 [injT (.sl tTr) (nl, l)] (.tup [.tl none tI T, .p (iv e)]) := by
  refine PurS.of (S := [(23, _), (40, _)]) (T := []) (tbl := []) (n := 52) hmD cfg (.cons (spT1.ok (a := (.sl (.int .i64))) fun x0 h => cChkR x0.1 x0.2 h) (.cons (spT2.ok (a := (.sl (.int .i64))) (b := (.int .i64)) fun x0 x1 h => cOn x0.1 x0.2 x1 h) .nil)) .nil .nil 0 Tryd.call16 Tryd.func16 (ac16_ok (some (0, 0))) (by rw [Tryd.ntmps16]; exact Nat.le_refl _) rfl ⟨_, rfl⟩ ?_
  intro cmp ar cv tn ic ai mx an ad ml sb mn ln em gt up ap sc vw cp rp p1 p2 s1 s2 X Y hX hY r0 r1 r2 r3 r4 r5 r6 r7 r8 r9 r10 r11 r12 r13 r14 r15 r16 r17 r18 r19 r20 r21 r22 r23 r24
  generalize hg0 : chkE = g0
  generalize hg1 : hasM = g1
  cbv
  have hl := h.h
  have hn : nlLe (some true) none := by simp [nlLe_none]
  have hn2 : nlLe none none := by simp [nlLe_none]
  have hm8 : 8 < l.length → mrgE l = 10 ∧ mrgT l = [] := fun h => by
    have : mrgE l = 10 := by rw [mrgE, if_pos h]
    exact ⟨this, mrgT_bad (by rw [this]; decide)⟩
  have hm1 : ¬ 8 < l.length → mrgE l = errL l := fun h => by rw [mrgE, if_neg h, swE_errL]
  have hm2 : mrgE l ≠ 0 → mrgT l = [] := mrgT_bad
  have hm3 : mrgE l = 0 → mrgT l = slP (onB l) 1024 := mrgT_eq
  obtain ⟨M, hM⟩ : ∃ M, M = mrgT l := ⟨_, rfl⟩
  obtain ⟨Me, hMe⟩ : ∃ M, M = mrgE l := ⟨_, rfl⟩
  rw [← hM] at hm8 hm2 hm3 hT
  rw [← hMe] at hm8 hm1 hm2 hm3 he
  clear hM hMe
  repeat' (first | exact True.intro | refine And.intro ?_ ?_ | (refine BR.mk ?_ ?_ <;> intro _) | (refine CASE.mk ?_; intro _) | refine NEXT.mk (hX _ _ _ ?_ ?_ (.inl ⟨rfl, rfl⟩)))
  all_goals first | (show LOOP _ _ _ _ _ _; skip) | (clear hX; subst_vars; (all_goals try simp only [Short_iff, cmpR, arR, mxR, INB_iff, SLB_iff, SLM_iff, NZ_iff, NN_iff, EQN_iff, LEN_iff, LIM_iff, MK_iff, decide_eq_true_eq, decide_eq_false_iff_not, ne_eq, Bool.and_eq_true, cmpR] at *); (all_goals try dsimp only [Ty.den] at *); (all_goals try simp only [nc_eq] at *); (all_goals try (simp (disch := omega) only [wrap64] at *)); all_goals grind)
  refine LOOP.ind (σ := Int) (fun i => [(0, .tl nl tTr l), (4, .p (iv i))]) (fun _ => ⟨[], []⟩) (fun i => (l.length - i).toNat)
    (fun i => 0 ≤ i ∧ i ≤ l.length ∧ errL (l.drop i.toNat) = errL l) 0 ⟨by omega, by show (0 : Int) ≤ _; omega, rfl⟩ (.inl ⟨rfl, rfl⟩) ?_
  intro i hI X' hX
  obtain ⟨hI1, hI2, hI3⟩ := hI
  obtain ⟨a, ha⟩ : ∃ a, a = s2 tI (gt tTr l i) := ⟨_, rfl⟩
  obtain ⟨na, hna⟩ : ∃ a, a = s1 tI (gt tTr l i) := ⟨_, rfl⟩
  have hgt : (na, a) = gtR tTr l i := by rw [ha, hna, r14, r23, r24]
  have hsl : i < l.length → Short 2000 a := fun h => ⟨by exact Nat.le_trans (hp.h (na, a) (by rw [hgt]; exact gtR_mem (t := tTr) hI1 h)) (by omega)⟩
  have hst : i < l.length → errL (l.drop i.toNat) = if chkE a ≠ 0 then chkE a else errL (l.drop (i + 1).toNat) := fun h => by rw [gtR_drop (t := tTr) hI1 h, errL, ← hgt]
  have hse : ¬ i < l.length → errL (l.drop i.toNat) = 0 := fun h => by rw [gtR_end h]; rfl
  rw [hg0] at hst
  clear hgt
  cbv
  rw [← ha, ← hna]
  clear ha hna
  repeat' (first | exact True.intro | refine And.intro ?_ ?_ | (refine BR.mk ?_ ?_ <;> intro _) | (refine CASE.mk ?_; intro _) | refine NEXT.mk (hX _ _ _ ?_ ?_ (.inl ⟨rfl, rfl⟩)))
  all_goals first | (show LOOP _ _ _ _ _ _; skip) | (clear hX; subst_vars; (all_goals try simp only [Short_iff, cmpR, arR, mxR, INB_iff, SLB_iff, SLM_iff, NZ_iff, NN_iff, EQN_iff, LEN_iff, LIM_iff, MK_iff, decide_eq_true_eq, decide_eq_false_iff_not, ne_eq, Bool.and_eq_true, cmpR] at *); (all_goals try dsimp only [Ty.den] at *); (all_goals try simp only [nc_eq] at *); (all_goals try (simp (disch := omega) only [wrap64] at *)); all_goals grind)
  have hi0 : ¬ i < l.length := by have h := ‹cmp .lss i (ic (ln (Ty.sl tI) l)) = false›; rw [r0, r4, r12] at h; simpa [cmpR] using h
  have hl8 : ¬ 8 < l.length := by have h := ‹cmp .gtr (ic (ln (Ty.sl tI) l)) 8 = false›; rw [r0, r4, r12] at h; have h2 : ¬ (8 : Int) < l.length := by simpa [cmpR] using h
                                  omega
  have hE0 : Me = 0 := by rw [hm1 hl8, ← hI3, hse hi0]
  have hM0 := hm3 hE0
  clear hm1 hm2 hm3 hm8 hse hst hsl hI1 hI2 hI3 hX hi0
  refine LOOP.ind (σ := List Int × Int) (fun (O, n) => [(0, .tl nl tTr l), (6, .og 0 tI O), (7, .p (iv n))]) (fun (O, n) => ⟨[], [(ml (ln tI O) 1, 3)]⟩) (fun (O, n) => (1024 - n).toNat)
    (fun (O, n) => 0 ≤ n ∧ n ≤ 1024 ∧ O.length ≤ n ∧ O ++ slP (onB l) (1024 - n).toNat = M) ([], 0) ⟨by omega, by omega, by simp, by rw [hM0]; rfl⟩ (.inr ⟨[], [none], ?_⟩) ?_
  · rw [SIM_iff]; cbv; simp [nlLe_self]
  intro ⟨O, n⟩ hJ X2 hY
  dsimp only at hJ
  obtain ⟨hJ1, hJ2, hJ3, hJ4⟩ := hJ
  have hsl : n < 1024 → slP (onB l) (1024 - n).toNat = if onB l n then n :: slP (onB l) (1024 - (n + 1)).toNat else slP (onB l) (1024 - (n + 1)).toNat := fun h => by
    rw [show (1024 - n).toNat = (1024 - (n + 1)).toNat + 1 by omega, slP, show (1024 : Int) - ((1024 - (n + 1)).toNat + 1 : Nat) = n by omega]
  have hse : ¬ n < 1024 → slP (onB l) (1024 - n).toNat = [] := fun h => by rw [show (1024 - n).toNat = 0 by omega]; rfl
  obtain ⟨r1', hr1'⟩ : ∃ r, r = slP (onB l) (1024 - (n + 1)).toNat := ⟨_, rfl⟩
  obtain ⟨r0', hr0'⟩ : ∃ r, r = slP (onB l) (1024 - n).toNat := ⟨_, rfl⟩
  rw [← hr1', ← hr0'] at hsl
  rw [← hr0'] at hJ4 hse
  obtain ⟨B, hB⟩ : ∃ B : List TL → Bool, B = fun l => onB l n := ⟨_, rfl⟩
  have hB0 : B [] = false := by rw [hB]; rfl
  have hBs : ∀ (i : Int) (a : List Int) (na : Option Bool), 0 ≤ i → i < l.length → (na, a) = gtR tTr l i → B (l.drop i.toNat) = (hasM a n || B (l.drop (i + 1).toNat)) := fun i a na h0 h1 h2 => by
    rw [hB]; exact any_step h0 h1 h2 n
  have hsl : n < 1024 → r0' = if B l then n :: r1' else r1' := fun h => by rw [hB]; exact hsl h
  clear hB hr0'
  have hen := fun i : Int => gtR_end (l := l) (i := i)
  cbv
  repeat' (first | exact True.intro | refine And.intro ?_ ?_ | (refine BR.mk ?_ ?_ <;> intro _) | (refine CASE.mk ?_; intro _) | refine NEXT.mk (hY _ _ _ ?_ ?_ (.inl ⟨rfl, rfl⟩)))
  all_goals first | (show LOOP _ _ _ _ _ _; skip) | (clear hY; subst_vars; (all_goals try simp only [Short_iff, cmpR, arR, mxR, INB_iff, SLB_iff, SLM_iff, NZ_iff, NN_iff, EQN_iff, LEN_iff, LIM_iff, MK_iff, decide_eq_true_eq, decide_eq_false_iff_not, ne_eq, Bool.and_eq_true, cmpR] at *); (all_goals try dsimp only [Ty.den] at *); (all_goals try simp only [nc_eq] at *); (all_goals try (simp (disch := omega) only [wrap64] at *)); all_goals grind)
  refine LOOP.ind (σ := Bool × Int) (fun (s, i) => [(0, .tl nl tTr l), (6, .og 0 tI O), (7, .p (iv n)), (8, .p (.v (.bool s))), (9, .p (iv i))]) (fun _ => ⟨[], [(ml (ln tI O) 1, 3)]⟩) (fun (s, i) => (l.length - i).toNat)
    (fun (s, i) => 0 ≤ i ∧ i ≤ l.length ∧ (s || B (l.drop i.toNat)) = B l) (false, 0) ⟨by omega, by show (0 : Int) ≤ _; omega, by simp⟩ (.inl ⟨rfl, rfl⟩) ?_
  intro ⟨s, i⟩ hK X3 hZ
  dsimp only at hK
  obtain ⟨hK1, hK2, hK3⟩ := hK
  obtain ⟨a, ha⟩ : ∃ a, a = s2 tI (gt tTr l i) := ⟨_, rfl⟩
  obtain ⟨na, hna⟩ : ∃ a, a = s1 tI (gt tTr l i) := ⟨_, rfl⟩
  have hgt : (na, a) = gtR tTr l i := by rw [ha, hna, r14, r23, r24]
  have hsl2 : i < l.length → Short 2000 a := fun h => ⟨Nat.le_trans (hp.h (na, a) (by rw [hgt]; exact gtR_mem (t := tTr) hK1 h)) (by omega)⟩
  have hst := fun h => hBs i a na hK1 h hgt
  have hen := hen i
  clear hBs hgt
  rw [hg1] at hst
  cases s
  all_goals
    cbv
    try rw [← ha, ← hna]
    clear ha hna
    repeat' (first | exact True.intro | refine And.intro ?_ ?_ | (refine BR.mk ?_ ?_ <;> intro _) | (refine CASE.mk ?_; intro _) | refine NEXT.mk (hZ (_, _) _ _ ?_ ?_ (.inl ⟨rfl, rfl⟩)) | refine NEXT.mk (hY (_, _) _ _ ?_ ?_ (.inl ⟨rfl, rfl⟩)))
    all_goals clear hZ
    all_goals clear hY
    all_goals subst_vars
    all_goals try simp only [Short_iff, cmpR, arR, mxR, INB_iff, SLB_iff, SLM_iff, NZ_iff, NN_iff, EQN_iff, LEN_iff, LIM_iff, MK_iff, decide_eq_true_eq, decide_eq_false_iff_not, ne_eq, Bool.and_eq_true] at *
    all_goals try dsimp only [Ty.den] at *
    all_goals try simp only [nc_eq] at *
    all_goals try (simp (disch := omega) only [wrap64] at *)
    all_goals first | exact nlLe_none.2 trivial | grind
end Go.Ab

