/- The reference: Make, Shift, Merge, Starts, Read. -/
import Derived.Test.YtnfimkmjjjbopaaDoorLq
set_option linter.unusedSimpArgs false
set_option linter.unusedVariables false
set_option maxRecDepth 20000
set_option maxHeartbeats 4000000
namespace Go.Ab
open Go.Proofs
theorem cMakeR (nb : Option Bool) (b T : List Int) (e : Int) (hT : T = makT b) (he : e = makE b) (hp : ∀ x ∈ b, 0 ≤ x) : PurS Tryd.prog 14 [injT (.sl tB) (nb, b)] (.tup [.tl none tI T, .p (iv e)]) := by
  refine PurS.of (S := []) (T := []) (tbl := [(37, ac37 none, [.tmp 2], 11)]) (n := 54) hmD cfg .nil .nil (.cons Tryd.call37 Tryd.func37 (ac37_ok none) (by rw [Tryd.ntmps37]; exact Nat.le_refl _) .nil) 6 Tryd.call14 Tryd.func14 (ac14_ok (some (0, 0))) (by rw [Tryd.ntmps14]; exact Nat.le_refl _) rfl ⟨_, rfl⟩ ?_
  intro cmp ar cv tn ic ai mx an ad ml sb mn ln em gt up ap sc vw cp rp p1 p2 s1 s2 X Y hX hY r0 r1 r2 r3 r4 r5 r6 r7 r8 r9 r10 r11 r12 r13 r14 r15 r16 r17 r18 r19 r20 r21 r22 r23 r24
  cbv
  have hE : bitsE b = if b.length > 128 then 4 else if bigB b then 1 else 0 := rfl
  have hm : makE b = if bitsE b ≠ 0 then bitsE b else if b.length ≠ 56 ∧ b.length ≠ 112 then 2 else 0 := rfl
  obtain ⟨O0, hO⟩ : ∃ O0 : List Int, O0 = [0, 2, 7, 9] := ⟨_, rfl⟩
  have hT2 : makT b = if makE b ≠ 0 then [] else O0 ++ makS 0 b := by rw [hO]; rfl
  have hb1 : bigB b = false → ∀ x ∈ b, x ≤ 1 := bigB_mem
  refine LOOP.ind (σ := Int) (fun i => [(0, .tl nb tB b), (4, .p (iv i))]) (fun _ => ⟨[], []⟩) (fun i => (b.length - i).toNat) (fun i => 0 ≤ i ∧ i ≤ b.length ∧ bigB (b.drop i.toNat) = bigB b) 0 (by simp) (.inl ⟨rfl, rfl⟩) ?_
  intro i hI X' hX
  have hd := gtR_drop (t := tB) (l := b) (i := i)
  have hde := gtR_end (l := b) (i := i)
  have hn : nlLe (some true) none := by simp [nlLe_none]
  cbv
  have hmk : bigB b = false → b.length ≤ 128 → bitsE b = 0 := fun h h2 => by rw [hE, if_neg (by omega), if_neg (by simp [h])]
  repeat' (first | exact True.intro | refine And.intro ?_ ?_ | (refine BR.mk ?_ ?_ <;> intro _) | (refine CASE.mk ?_; intro _) | refine NEXT.mk (hX _ _ _ ?_ ?_ (.inl ⟨rfl, rfl⟩)))
  all_goals first | (show LOOP _ _ _ _ _ _; skip) | (clear hX; subst_vars; (all_goals try simp only [Short_iff, cmpR, arR, mxR, INB_iff, SLB_iff, SLM_iff, NZ_iff, NN_iff, EQN_iff, LEN_iff, LIM_iff, MK_iff, decide_eq_true_eq, decide_eq_false_iff_not, ne_eq, Bool.and_eq_true, cmpR] at *); (all_goals try dsimp only [Ty.den] at *); (all_goals try simp only [nc_eq] at *); (all_goals try (simp (disch := omega) only [wrap64] at *)); all_goals grind [bigB])
  all_goals
    refine LOOP.ind (σ := List Int × Int) (fun (O, k) => [(0, .tl nb tB b), (5, .gr 0 tI O), (6, .p (iv k))]) (fun (O, k) => ⟨[], [(ml (ln tI O) 1, 3)]⟩) (fun (O, k) => (b.length - k).toNat)
      (fun (O, k) => 0 ≤ k ∧ k ≤ b.length ∧ O.length = k + 4 ∧ O ++ makS k (b.drop k.toNat) = O0 ++ makS 0 b) (O0, 0) (by simp [hO]) (.inl ⟨?_, ?_⟩) ?_
    · subst hO; rw [r1]; rfl
    · subst hO; rw [r12, r9]; rfl
    intro ⟨O, k⟩ hJ X2 hY
    have hd2 := gtR_drop (t := tB) (l := b) (i := k)
    have hde2 := gtR_end (l := b) (i := k)
    have h128 : ¬ i < b.length → b.length = 56 ∨ b.length = 112 → bigB b = false ∧ bitsE b = 0 := fun h h2 => by
      have h3 := hI.2.2
      rw [hde h] at h3
      exact ⟨h3.symm, hmk h3.symm (by omega)⟩
    have h129 : ¬ b.length ≤ 128 → ¬ (b.length = 56 ∨ b.length = 112) := by omega
    have hwr : 0 ≤ k → k < b.length → bigB b = false → (b.length = 56 ∨ b.length = 112) → IntKind.i64.wrap (17 + 2 * k - IntKind.i64.wrap (gtR tB b k)) = 16 + 2 * k + 1 - gtR tB b k := fun h0 h1 h2 h5 => by
      have hmm := gtR_mem (t := tB) (l := b) (i := k) h0 h1
      have h3 := hp _ hmm
      have h4 := hb1 h2 _ hmm
      obtain ⟨u, hu⟩ : ∃ u : Int, u = gtR tB b k := ⟨_, rfl⟩
      rw [← hu] at h3 h4 ⊢
      rw [wrap64 (n := u) (by omega) (by omega), wrap64 (by omega) (by omega)]; omega
    cbv
    repeat' (first | exact True.intro | refine And.intro ?_ ?_ | (refine BR.mk ?_ ?_ <;> intro _) | (refine CASE.mk ?_; intro _) | refine NEXT.mk (hY (_, _) _ _ ?_ ?_ (.inl ⟨rfl, rfl⟩)))
    all_goals clear hY
    all_goals subst_vars
    all_goals try simp only [Short_iff, cmpR, arR, mxR, INB_iff, SLB_iff, SLM_iff, NZ_iff, NN_iff, EQN_iff, LEN_iff, LIM_iff, MK_iff, decide_eq_true_eq, decide_eq_false_iff_not, ne_eq, Bool.and_eq_true] at *
    all_goals try dsimp only [Ty.den] at *
    all_goals try simp only [nc_eq] at *
    all_goals try (simp (disch := omega) only [wrap64] at *)
    all_goals first | exact nlLe_none.2 trivial | grind [makS]
structure SOK (t : List Int) (n i : Int) : Prop where
  h : ∀ x ∈ t.take i.toNat, 0 ≤ x + n ∧ x + n < 1024
theorem SOK.zero {t : List Int} {n : Int} : SOK t n 0 := ⟨by simp⟩
theorem take_succ {t : List Int} {i : Int} (h0 : 0 ≤ i) (h1 : i < t.length) : t.take (i + 1).toNat = t.take i.toNat ++ [gtR tI t i] := by
  have h : i.toNat < t.length := by omega
  rw [show (i + 1).toNat = i.toNat + 1 by omega, List.take_add_one]; simp [gtR, h]
theorem SOK.step {t : List Int} {n i x : Int} (h : SOK t n i) (h0 : 0 ≤ i) (h1 : i < t.length) (hx : x = gtR tI t i) (h2 : 0 ≤ x + n) (h3 : x + n < 1024) : SOK t n (i + 1) := ⟨fun y hy => by
  rw [take_succ h0 h1] at hy
  rcases List.mem_append.1 hy with hy | hy
  · exact h.h y hy
  · have : y = x := by rw [hx]; simpa using hy
    subst this; exact ⟨h2, h3⟩⟩
theorem SOK.full {t : List Int} {n i : Int} (h : SOK t n i) (h1 : ¬ i < t.length) (hc : chkE t = 0) : shiE t n = 0 ∧ shiT t n = t.map (· + n) := by
  have h2 : shiE t n = 0 := (shiE_iff hc).2 fun x hx => h.h x (by rw [List.take_of_length_le (by omega)]; exact hx)
  exact ⟨h2, shiT_ok h2⟩
theorem shiE_7 {t : List Int} {n i x : Int} (h0 : 0 ≤ i) (h1 : i < t.length) (hx : x = gtR tI t i) (hc : chkE t = 0) (h : x + n < 0 ∨ x + n > 1023) : shiE t n = 7 ∧ shiT t n = [] := by
  have h2 : shiE t n ≠ 0 := fun hh => by
    have := (shiE_iff hc).1 hh x (by rw [hx]; exact gtR_mem (t := tI) h0 h1); omega
  refine ⟨?_, shiT_bad h2⟩
  unfold shiE at h2 ⊢
  rw [if_neg (by simp [hc])] at h2 ⊢
  split at h2
  · exact absurd rfl h2
  · rename_i h3
    rw [if_neg h3]
    split at h2
    · rename_i h4; rw [if_pos h4]
    · exact absurd rfl h2
theorem shiE_c {t : List Int} {n : Int} (hc : chkE t ≠ 0) : shiE t n = chkE t ∧ shiT t n = [] := by
  have h : shiE t n = chkE t := by unfold shiE; rw [if_pos hc]
  exact ⟨h, shiT_bad (by rw [h]; exact hc)⟩
theorem cShiftR (nt : Option Bool) (t T : List Int) (n e : Int) (hT : T = shiT t n) (he : e = shiE t n) (h : Short 2000 t) : PurS Tryd.prog 21 [injT (.sl tI) (nt, t), injT tI n] (.tup [.tl none tI T, .p (iv e)]) := by
  refine PurS.of (S := [(23, _)]) (T := []) (tbl := []) (n := 54) hmD cfg (.cons (spT1.ok (a := (.sl (.int .i64))) fun x0 h => cChkR x0.1 x0.2 h) .nil) .nil .nil 0 Tryd.call21 Tryd.func21 (ac21_ok (some (0, 0))) (by rw [Tryd.ntmps21]; exact Nat.le_refl _) rfl ⟨_, rfl⟩ ?_
  intro cmp ar cv tn ic ai mx an ad ml sb mn ln em gt up ap sc vw cp rp p1 p2 s1 s2 X Y hX hY r0 r1 r2 r3 r4 r5 r6 r7 r8 r9 r10 r11 r12 r13 r14 r15 r16 r17 r18 r19 r20 r21 r22 r23 r24
  generalize hg0 : chkE = g0
  cbv
  have hl := h.h
  have hn : nlLe (some true) none := by simp [nlLe_none]
  have hc := shiE_c (t := t) (n := n)
  repeat' (first | exact True.intro | refine And.intro ?_ ?_ | (refine BR.mk ?_ ?_ <;> intro _) | (refine CASE.mk ?_; intro _) | refine NEXT.mk (hX _ _ _ ?_ ?_ (.inl ⟨rfl, rfl⟩)))
  all_goals first | (show LOOP _ _ _ _ _ _; skip) | (clear hX; subst_vars; (all_goals try simp only [Short_iff, cmpR, arR, mxR, INB_iff, SLB_iff, SLM_iff, NZ_iff, NN_iff, EQN_iff, LEN_iff, LIM_iff, MK_iff, decide_eq_true_eq, decide_eq_false_iff_not, ne_eq, Bool.and_eq_true, cmpR] at *); (all_goals try dsimp only [Ty.den] at *); (all_goals try simp only [nc_eq] at *); (all_goals try (simp (disch := omega) only [wrap64] at *)); all_goals grind)
  refine LOOP.ind (σ := List Int × Int) (fun (O, i) => [(0, .tl nt tI t), (1, .p (iv n)), (7, .og 0 tI O), (8, .p (iv i))]) (fun (O, i) => ⟨[], [(ml (ln tI O) 1, 3)]⟩) (fun (O, i) => (t.length - i).toNat)
    (fun (O, i) => 0 ≤ i ∧ i ≤ t.length ∧ O = (t.take i.toNat).map (· + n) ∧ SOK t n i) ([], 0) ⟨by omega, by show (0 : Int) ≤ _; omega, by simp, .zero⟩ (.inr ⟨[], [none], ?_⟩) ?_
  · rw [SIM_iff]; cbv; simp [nlLe_self]
  intro ⟨O, i⟩ hI X' hY
  dsimp only at hI
  obtain ⟨hI1, hI2, hI3, hI4⟩ := hI
  have hOl : O.length ≤ 2000 := by rw [hI3]; simp; omega
  have hc0 : chkE t = 0 := by have h := ‹cmp .neq (g0 (nt, t).snd) 0 = false›; rw [r0] at h; rw [hg0]; simpa [cmpR] using h
  obtain ⟨x, hx⟩ : ∃ x : Int, x = gt tI t i := ⟨_, rfl⟩
  have hx1 : x = gtR tI t i := by rw [hx, r14]
  have hxb : i < t.length → 0 ≤ x ∧ x < 1024 := fun h => chkE_rng hc0 x (by rw [hx1]; exact gtR_mem (t := tI) hI1 h)
  obtain ⟨y, hy⟩ : ∃ y : Int, y = ar .add .i64 x n := ⟨_, rfl⟩
  have hyv : i < t.length → -1023 ≤ n → n ≤ 1023 → y = x + n := fun h h1 h2 => by have := hxb h; rw [hy, r1]; exact wrap64 (n := x + n) (by omega) (by omega)
  have k1 : i < t.length → 0 ≤ x + n → x + n < 1024 → SOK t n (i + 1) := fun h1 h2 h3 => hI4.step hI1 h1 hx1 h2 h3
  have k2 : ¬ i < t.length → shiE t n = 0 ∧ shiT t n = O := fun h => by rw [hI3, List.take_of_length_le (by omega)]; exact hI4.full h hc0
  have k3 : i < t.length → (x + n < 0 ∨ x + n > 1023) → shiE t n = 7 ∧ shiT t n = [] := fun h h2 => shiE_7 hI1 h hx1 hc0 h2
  have k4 : i < t.length → (n < -1023 ∨ n > 1023) → shiE t n = 7 ∧ shiT t n = [] := fun h h2 => k3 h (by have := hxb h; omega)
  have k5 : i < t.length → x + n = y → (t.take (i + 1).toNat).map (· + n) = O ++ [y] := fun h h2 => by rw [take_succ hI1 h, List.map_append, hI3]; simp only [List.map_cons, List.map_nil]; rw [← hx1, h2]
  clear hI3 hI4
  cbv
  rw [← hx, ← hy]
  clear hx hy hx1
  repeat' (first | exact True.intro | refine And.intro ?_ ?_ | (refine BR.mk ?_ ?_ <;> intro _) | (refine CASE.mk ?_; intro _) | refine NEXT.mk (hY (_, _) _ _ ?_ ?_ (.inl ⟨rfl, rfl⟩)))
  all_goals clear hY
  all_goals subst_vars
  all_goals try simp only [Short_iff, cmpR, arR, mxR, INB_iff, SLB_iff, SLM_iff, NZ_iff, NN_iff, EQN_iff, LEN_iff, LIM_iff, MK_iff, decide_eq_true_eq, decide_eq_false_iff_not, ne_eq, Bool.and_eq_true] at *
  all_goals try dsimp only [Ty.den] at *
  all_goals try simp only [nc_eq] at *
  all_goals try (simp (disch := omega) only [wrap64] at *)
  all_goals first | exact nlLe_none.2 trivial | grind
def rstM (t : List Int) (n : Int) : Bool := hasM t n && (hasM t (n + 2) && (hasM t (n + 7) && hasM t (n + 9)))
structure LIT4 (n : Int) : Prop where
  a : gtR tI [n, n + 2, n + 7, n + 9] 0 = n
  b : gtR tI [n, n + 2, n + 7, n + 9] 1 = n + 2
  c : gtR tI [n, n + 2, n + 7, n + 9] 2 = n + 7
  d : gtR tI [n, n + 2, n + 7, n + 9] 3 = n + 9
theorem cStart0R (nt : Option Bool) (t : List Int) (n : Int) (h : Short 2000 t) (h0 : INB n 2000) : PurS Tryd.prog 43 [injT (.sl tI) (nt, t), injT tI n] (.sb (rstM t n)) := by
  refine PurS.of (S := [(40, _)]) (T := []) (tbl := [(37, ac37 none, [.tmp 2], 11)]) (n := 34) hmD cfg (.cons (spT2.ok (a := (.sl (.int .i64))) (b := (.int .i64)) fun x0 x1 h => cOn x0.1 x0.2 x1 h) .nil) .nil (.cons Tryd.call37 Tryd.func37 (ac37_ok none) (by rw [Tryd.ntmps37]; exact Nat.le_refl _) .nil) 6 Tryd.call43 Tryd.func43 (ac43_ok (some (0, 0))) (by rw [Tryd.ntmps43]; exact Nat.le_refl _) rfl ⟨_, rfl⟩ ?_
  intro cmp ar cv tn ic ai mx an ad ml sb mn ln em gt up ap sc vw cp rp p1 p2 s1 s2 X Y hX hY r0 r1 r2 r3 r4 r5 r6 r7 r8 r9 r10 r11 r12 r13 r14 r15 r16 r17 r18 r19 r20 r21 r22 r23 r24
  generalize hg0 : hasM = g0
  generalize hg1 : rstM = g1
  cbv
  have hd : g1 t n = (g0 t n && (g0 t (n + 2) && (g0 t (n + 7) && g0 t (n + 9)))) := by rw [← hg0, ← hg1]; rfl
  obtain ⟨h1, h2⟩ := h0
  have e1 : ar .add .i64 n 2 = n + 2 := by rw [r1]; exact wrap64 (n := n + 2) (by omega) (by omega)
  have e2 : ar .add .i64 n 7 = n + 7 := by rw [r1]; exact wrap64 (n := n + 7) (by omega) (by omega)
  have e3 : ar .add .i64 n 9 = n + 9 := by rw [r1]; exact wrap64 (n := n + 9) (by omega) (by omega)
  rw [e1, e2, e3]
  have a0 : gt tI [n, n + 2, n + 7, n + 9] 0 = n := by rw [r14]; rfl
  have a1 : gt tI [n, n + 2, n + 7, n + 9] 1 = n + 2 := by rw [r14]; rfl
  have a2 : gt tI [n, n + 2, n + 7, n + 9] 2 = n + 7 := by rw [r14]; rfl
  have a3 : gt tI [n, n + 2, n + 7, n + 9] 3 = n + 9 := by rw [r14]; rfl
  have a4 : ic (ln tI [n, n + 2, n + 7, n + 9]) = 4 := by rw [r4, r12]; rfl
  rw [a0, a1, a2, a3, a4]
  clear a0 a1 a2 a3 a4 e1 e2 e3
  dsimp only
  repeat' (first | exact True.intro | refine And.intro ?_ ?_ | (refine BR.mk ?_ ?_ <;> intro _) | (refine CASE.mk ?_; intro _))
  all_goals first | exact h | exact ⟨by decide, by decide⟩ | grind
end Go.Ab

