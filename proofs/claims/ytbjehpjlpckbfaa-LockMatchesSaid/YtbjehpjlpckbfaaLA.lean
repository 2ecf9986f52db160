/- The reference's Sense and Mask; EqualBools. -/
import Derived.Test.YtbjehpjlpckbfaaLz
set_option linter.unusedSimpArgs false
set_option linter.unusedVariables false
set_option maxRecDepth 20000
set_option maxHeartbeats 8000000
namespace Go.Ab
open Go.Proofs
theorem senR_cons (x : LKV) (r : List LKV) (a : Int) : senR (x :: r) a = if x.1 = a then x.2.1 else senR r a := by
 unfold senR
 by_cases h : x.1 = a
 · rw [List.find?_cons_of_pos (by simpa using h), if_pos h]; rfl
 · rw [List.find?_cons_of_neg (by simpa using h), if_neg h]
theorem rSense (k tw : Int) (L : List LKV) (a s : Int) (hs : s = senR L a) (hl : L.length ≤ 16) : FnS Try.prog 24 ([.ptr 0 0, .p (iv a)]) (rtS k tw L ) fun x_ s_ => x_ = (.p (uv s)) ∧ s_ = (rtS k tw L) := by
 refine FnS.of (S := []) (T := []) (U := []) (tbl := []) (n := 33) hm32 cfg .nil .nil .nil .nil 0 Try.call24 Try.func24 (ac24_ok (some (1, 0))) (by rw [Try.ntmps24]; exact Nat.le_refl _) rfl _ _ _ (by rfl) ?_
 intro cmp ar cv tn ic ai mx an ad ml sb mn ln em gt up ap sc vw cp rp p1 p2 s1 s2 X Y hX hY r0 r1 r2 r3 r4 r5 r6 r7 r8 r9 r10 r11 r12 r13 r14 r15 r16 r17 r18 r19 r20 r21 r22 r23 r24
 cbv
 have hlL : ic (ln tLock L) = L.length := by rw [r4, r12]
 obtain ⟨N, hN⟩ : ∃ N : Int, N = L.length := ⟨_, rfl⟩
 rw [← hN] at hlL
 refine LOOP.ind (σ := Int) (fun i => [(0, .ptr 0 0), (1, .p (iv a)), (5, .p (iv i))]) (fun i => rtS k tw L) (fun i => (N - i).toNat) (fun i => (0 ≤ i ∧ i ≤ N) ∧ s = senR (L.drop i.toNat) a) 0 ⟨by omega, hs⟩ (.inl ⟨rfl, rfl⟩) ?_
 intro i hI X' hX
 obtain ⟨⟨hI1, hI2⟩, hI3⟩ := hI
 obtain ⟨⟨v1, v2, v3, v4⟩, hx⟩ : ∃ x : LKV, x = gt tLock L i := ⟨_, rfl⟩
 have q1 : p1 tI (.pair tU (.pair tI tI)) (v1, v2, v3, v4) = v1 := by rw [r21]
 have q2 : p1 tU (.pair tI tI) (p2 tI (.pair tU (.pair tI tI)) (v1, v2, v3, v4)) = v2 := by rw [r21, r22]
 have hst : i < N → L.drop i.toNat = (v1, v2, v3, v4) :: L.drop (i + 1).toNat := fun h => by rw [hx, r14]; exact gtR_drop (t := tLock) hI1 (by omega)
 have hend : ¬ i < N → s = 0 := fun h => by rw [hI3, gtR_end (by omega)]; rfl
 have hA : i < N → v1 = a → s = v2 := fun h h' => by rw [hI3, hst h, senR_cons, if_pos h']
 have hB : i < N → v1 ≠ a → s = senR (L.drop (i + 1).toNat) a := fun h h' => by rw [hI3, hst h, senR_cons, if_neg h']
 have hadd : i < N → ar .add .i64 i 1 = i + 1 := fun h => by rw [r1]; exact wrap64 (n := i + 1) (by omega) (by omega)
 clear hI3 hst hs
 cbv
 try simp only [nc_eq] at *
 rw [hlL, ← hx, q1, q2]
 refine BR.lss r0 (fun hc => ⟨⟨hI1, hc⟩, ⟨hI1, hc⟩, BR.eql r0 (fun h => ⟨⟨hI1, hc⟩, ⟨hI1, hc⟩, ?_⟩) (fun h => ?_)⟩) (fun hc => ?_)
 · obtain rfl := hA hc h
   refine RET.mk ⟨[some 0], [], ?_⟩
   rw [SIM_iff]; cbv
   simp [lstEq, nlLe_none]
 · rw [hadd hc]
   exact NEXT.mk (hX (i + 1) _ _ ⟨⟨by omega, by omega⟩, hB hc h⟩ (by show (N - (i + 1)).toNat < (N - i).toNat; omega) (.inl ⟨rfl, rfl⟩))
 · obtain rfl := hend hc
   refine RET.mk ⟨[some 0], [], ?_⟩
   rw [SIM_iff]; cbv
   simp [lstEq, nlLe_none]
theorem rMask (k tw : Int) (L : List LKV) (nb : Option Bool) (B : List BND) (M : List Bool) (h : Short 2000 B) (hE : achk B = 0) (hM : M = mskR L B) (hl : L.length ≤ 16) : FnS Try.prog 20 ([.ptr 0 0, injT (.sl tBnd) (nb, B)]) (rtS k tw L ) fun x_ s_ => x_ = (.tup [.tl none .bool M, .p (iv 0)]) ∧ s_ = (rtS k tw L) := by
 refine FnS.of (S := [(47, _)]) (T := []) (U := []) (tbl := []) (n := 62) hm32 cfg (.cons (spT1.ok (a := (.sl (.pair (.int .u8) (.pair (.int .i64) (.int .i64))))) fun x0 h => cRAchk x0.1 x0.2 h) .nil) .nil .nil .nil 0 Try.call20 Try.func20 (ac20_ok (some (1, 0))) (by rw [Try.ntmps20]; exact Nat.le_refl _) rfl _ _ _ (by rfl) ?_
 intro cmp ar cv tn ic ai mx an ad ml sb mn ln em gt up ap sc vw cp rp p1 p2 s1 s2 X Y hX hY r0 r1 r2 r3 r4 r5 r6 r7 r8 r9 r10 r11 r12 r13 r14 r15 r16 r17 r18 r19 r20 r21 r22 r23 r24
 generalize hg0 : achk = g0
 cbv
 obtain ⟨hB1, hB6, hBs⟩ := achk_ok hE
 refine ⟨h, BR.neq r0 (fun hc => absurd (by rw [← hg0]; exact hE) hc) fun _ => ?_⟩
 obtain ⟨u, hu⟩ : ∃ u : Int, u = B.length := ⟨_, rfl⟩
 have hlB : ic (ln tBnd B) = u := by rw [r4, r12, hu]
 have hlL : ic (ln tLock L) = L.length := by rw [r4, r12]
 obtain ⟨N, hN⟩ : ∃ N : Int, N = L.length := ⟨_, rfl⟩
 rw [← hN] at hlL
 have hub : 1 ≤ u ∧ u ≤ 6 := by omega
 have hM0 : M.take 1 = [true] := by
   rw [hM]
   cases B with
   | nil => simp at hB1
   | cons x r => rfl
 have hMl : (M.length : Int) = u := by
   rw [hM, hu]
   cases B with
   | nil => rfl
   | cons x r => simp [mskR]
 have hMi : ∀ i : Int, 0 < i → i < u → M[i.toNat]? = some (!heldR L (gtR tBnd B i).1) := fun i h0 h1 => by
   rw [hM]
   cases B with
   | nil => simp at hB1
   | cons x r =>
     obtain ⟨m, hm⟩ : ∃ m, i.toNat = m + 1 := ⟨i.toNat - 1, by omega⟩
     have hl : m < r.length := by simp at hu; omega
     rw [mskR, hm, List.getElem?_cons_succ, List.getElem?_map, List.getElem?_eq_getElem hl]
     simp only [Option.map_some, gtR, List.getD]
     rw [hm, List.getElem?_cons_succ, List.getElem?_eq_getElem hl]
     rfl
 have hBs : ∀ i : Int, 0 < i → i < u → (gtR tBnd B i).1 = (1 : Int) ∨ (gtR tBnd B i).1 = (2 : Int) := fun i h0 h1 => hBs i h0 (by omega)
 clear hE hM
 refine LOOP.ind (σ := List Bool × Int) (fun (O, i) => [(0, .ptr 0 0), (1, .tl nb tBnd B), (7, .og 0 .bool O), (8, .p (iv i))]) (fun (O, i) => ⟨(rtS k tw L).box, [(ml (ln .bool O) 1, 4)]⟩) (fun (O, i) => (u - i).toNat) (fun (O, i) => (0 ≤ i ∧ i ≤ u) ∧ O = M.take i.toNat) ([], 0) ⟨by omega, by simp⟩ (.inr ⟨[some 0], [none], ?_⟩) ?_
 · rw [SIM_iff]; cbv; simp [nlLe_self, lstEq]
 intro ⟨O, i⟩ hI X' hX
 dsimp only at hI
 obtain ⟨⟨hI1, hI2⟩, hI3⟩ := hI
 cbv
 try simp only [nc_eq] at *
 rw [hlB]
 have hapO : ∀ v, ap .bool O [v] = O ++ [v] := fun v => by rw [r16]
 have hadd : i < u → ar .add .i64 i 1 = i + 1 := fun h => by rw [r1]; exact wrap64 (n := i + 1) (by omega) (by omega)
 have hOl : O.length ≤ 6 := by rw [hI3, List.length_take]; omega
 have hlO : ln .bool O = O.length := by rw [r12]
 have hl1 : ∀ v, ln .bool [v] = 1 := fun v => by rw [r12]; rfl
 have lim : LIM (ad (ln .bool O) 1) 1 := by
   rw [hlO]
   exact ⟨by rw [r8]; show (O.length + 1) * 1 ≤ _; omega, by rw [r8]; show O.length + 1 ≤ 2 ^ 63 - 1; omega⟩
 have hend : ¬ i < u → O = M := fun h => by rw [hI3, List.take_of_length_le (by omega)]
 obtain ⟨⟨s, lo, hi⟩, hx⟩ : ∃ x : BND, x = gt tBnd B i := ⟨_, rfl⟩
 have p1s : p1 tU (.pair tI tI) (s, lo, hi) = s := by rw [r21]
 have hs : 0 < i → i < u → (s = 1 ∨ s = 2) ∧ M[i.toNat]? = some (!heldR L s) := fun h0 h1 => by
   have e : gtR tBnd B i = (s, lo, hi) := by rw [hx, r14]
   have g1 := hBs i h0 h1
   have g2 := hMi i h0 h1
   rw [e] at g1 g2
   exact ⟨g1, g2⟩
 have hst : ∀ q, i < u → (i = 0 → q = true) → (0 < i → q = !heldR L s) → O ++ [q] = M.take (i + 1).toNat := fun q hc h0 h1 => by
   by_cases hz : i = 0
   · subst hz
     rw [hI3, h0 rfl]
     exact hM0.symm
   · have h2 := (hs (by omega) hc).2
     rw [hI3, show (i + 1).toNat = i.toNat + 1 by omega, List.take_add_one, h2, h1 (by omega)]; rfl
 refine BR.lss r0 (fun hc => ?_) (fun hc => ?_)
 · have hst := fun q => hst q hc
   have hs := fun h => hs h hc
   replace hadd := hadd hc
   refine LOOP.ind (σ := Bool × Int) (fun (q, j) => [(0, .ptr 0 0), (1, .tl nb tBnd B), (7, .og 0 .bool O), (8, .p (iv i)), (9, .p (.v (.bool q))), (10, .p (iv j))]) (fun (q, j) => ⟨(rtS k tw L).box, [(ml (ln .bool O) 1, 4)]⟩) (fun (q, j) => (N - j).toNat) (fun (q, j) => (0 ≤ j ∧ j ≤ N) ∧ (i = 0 → q = true) ∧ (0 < i → q = !heldR (L.take j.toNat) s)) (true, 0) ⟨by omega, fun _ => rfl, fun _ => by simp [heldR]⟩ (.inl ⟨rfl, rfl⟩) ?_
   intro ⟨q, j⟩ hJ X2 hX2
   dsimp only at hJ
   obtain ⟨⟨hJ1, hJ2⟩, hJ3, hJ4⟩ := hJ
   obtain ⟨⟨v1, v2, v3, v4⟩, hy⟩ : ∃ x : LKV, x = gt tLock L j := ⟨_, rfl⟩
   have q2 : p1 tU (.pair tI tI) (p2 tI (.pair tU (.pair tI tI)) (v1, v2, v3, v4)) = v2 := by rw [r21, r22]
   have haddj : j < N → ar .add .i64 j 1 = j + 1 := fun h => by rw [r1]; exact wrap64 (n := j + 1) (by omega) (by omega)
   have hjt : j < N → heldR (L.take (j + 1).toNat) s = (heldR (L.take j.toNat) s || decide (v2 = s)) := fun h => by
     have hlt : j.toNat < L.length := by omega
     have e : L[j.toNat] = (v1, (v2, (v3, v4))) := by rw [hy, r14]; simp [gtR, hlt]
     unfold heldR
     rw [show (j + 1).toNat = j.toNat + 1 by omega, List.take_add_one, List.getElem?_eq_getElem hlt, List.any_append, e]
     simp
   have hjA : j < N → 0 < i → v2 = s → false = !heldR (L.take (j + 1).toNat) s := fun h h' h2 => by rw [hjt h]; simp [h2]
   have hjB : j < N → 0 < i → v2 ≠ s → q = !heldR (L.take (j + 1).toNat) s := fun h h' h2 => by rw [hjt h, hJ4 h']; simp [h2]
   have hjE : ¬ j < N → 0 < i → q = !heldR L s := fun h h' => by rw [hJ4 h', List.take_of_length_le (by omega)]
   clear hJ4 hjt
   cbv
   try simp only [nc_eq] at *
   rw [hlL, hlB, ← hx, ← hy, p1s, q2, hapO, hl1, hadd]
   have out : i < u → (i = 0 → q = true) → (0 < i → q = !heldR L s) → EQN (ml (ln .bool O) 1) (ml (ln .bool O) 1) ∧ LIM (ad (ln .bool O) 1) 1 ∧ NEXT X' [(0, .ptr 0 0), (1, .tl nb tBnd B), (7, .og 0 .bool (O ++ [q])), (8, .p (iv (i + 1)))] ⟨(rtS k tw L).box, [(ml (ln .bool (O ++ [q])) 1, 4)]⟩ := fun hc h0 h1 =>
     ⟨⟨rfl⟩, lim, NEXT.mk (hX (O ++ [q], i + 1) _ _ ⟨⟨by show 0 ≤ i + 1; omega, by show i + 1 ≤ u; omega⟩, hst q h0 h1⟩ (by show (u - (i + 1)).toNat < (u - i).toNat; omega) (.inl ⟨rfl, rfl⟩))⟩
   refine BR.lss r0 (fun h1 => BR.gtr r0 (fun h2 => ⟨⟨hI1, hc⟩, ⟨hI1, hc⟩, BR.neq r0 (fun h3 => ⟨⟨hJ1, h1⟩, ⟨hJ1, h1⟩, ⟨hI1, hc⟩, ⟨hI1, hc⟩, BR.eql r0 (fun h4 => ?_) (fun h4 => ?_)⟩) (fun h3 => absurd (hs h2).1 (by omega))⟩) (fun h2 => out hc hJ3 (fun h => absurd h h2))) (fun h1 => out hc hJ3 (hjE h1))
   · rw [haddj h1]
     exact NEXT.mk (hX2 (false, j + 1) _ _ ⟨⟨by show 0 ≤ j + 1; omega, by show j + 1 ≤ N; omega⟩, fun h => absurd h (by omega), fun h => hjA h1 h h4⟩ (by show (N - (j + 1)).toNat < (N - j).toNat; omega) (.inl ⟨rfl, rfl⟩))
   · rw [haddj h1]
     exact NEXT.mk (hX2 (q, j + 1) _ _ ⟨⟨by show 0 ≤ j + 1; omega, by show j + 1 ≤ N; omega⟩, hJ3, fun h => hjB h1 h h4⟩ (by show (N - (j + 1)).toNat < (N - j).toNat; omega) (.inl ⟨rfl, rfl⟩))
 · obtain rfl := hend hc
   refine RET.mk ⟨[some 0], [], ?_⟩
   rw [SIM_iff]; cbv
   simp [lstEq, nlLe_none]
theorem cEqBl (na : Option Bool) (a : List Bool) (nb : Option Bool) (b : List Bool) (h : Short 2000 a) : PurS Try.prog 22 [injT (.sl .bool) (na, a), injT (.sl .bool) (nb, b)] (.sb (decide (a = b))) := by
 refine PurS.of (S := []) (T := []) (U := []) (tbl := []) (n := 26) hm32 cfg .nil .nil .nil .nil 0 Try.call22 Try.func22 (ac22_ok (some (0, 0))) (by rw [Try.ntmps22]; exact Nat.le_refl _) rfl ⟨_, rfl⟩ ?_
 intro cmp ar cv tn ic ai mx an ad ml sb mn ln em gt up ap sc vw cp rp p1 p2 s1 s2 X Y hX hY r0 r1 r2 r3 r4 r5 r6 r7 r8 r9 r10 r11 r12 r13 r14 r15 r16 r17 r18 r19 r20 r21 r22 r23 r24
 cbv
 have h := h.h
 have hla : ic (ln .bool a) = a.length := by rw [r4, r12]
 have hlb : ic (ln .bool b) = b.length := by rw [r4, r12]
 rw [hla, hlb]
 refine BR.neq r0 (fun hc => (decide_eq_false fun e => hc (by rw [e])).symm) (fun hc => ?_)
 have hab : a.length = b.length := by omega
 refine LOOP.ind (σ := Int) (fun i => [(0, .tl na .bool a), (1, .tl nb .bool b), (5, .p (iv i))]) (fun _ => ⟨[], []⟩) (fun i => (a.length - i).toNat) (fun i => 0 ≤ i ∧ i ≤ a.length ∧ (a.drop i.toNat = b.drop i.toNat ↔ a = b)) 0 ⟨by omega, by omega, by simp⟩ (.inl ⟨rfl, rfl⟩) ?_
 intro i hI X' hX
 obtain ⟨hI1, hI2, hI3⟩ := hI
 have hd := fun h => drop_eq (t := .bool) (a := a) (b := b) (i := i) hI1 h hab
 cbv
 try simp only [nc_eq] at *
 have hai : i < a.length → gtR .bool a i = gt .bool a i ∧ gtR .bool b i = gt .bool b i := fun h => by rw [r14]; exact ⟨rfl, rfl⟩
 have hadd : i < a.length → ar .add .i64 i 1 = i + 1 := fun h => by rw [r1]; exact wrap64 (n := i + 1) (by omega) (by omega)
 have hend : ¬ i < a.length → a = b := fun h => hI3.1 (by rw [gtR_end h, gtR_end (by omega)])
 have heq : i < a.length → gt .bool a i = gt .bool b i → 0 ≤ i + 1 ∧ i + 1 ≤ a.length ∧ (a.drop (i + 1).toNat = b.drop (i + 1).toNat ↔ a = b) := fun h h' => ⟨by omega, by omega, by
   rw [← hI3, hd h, (hai h).1, (hai h).2]
   exact (and_iff_right h').symm⟩
 have hne : i < a.length → gt .bool a i ≠ gt .bool b i → false = decide (a = b) := fun h h' => (decide_eq_false fun e => h' (by
   have := (hd h).1 (hI3.2 e)
   rw [(hai h).1, (hai h).2] at this
   exact this.1)).symm
 rw [hla, hlb]
 have hmu : i < a.length → ((a.length : Int) - (i + 1)).toNat < ((a.length : Int) - i).toNat := fun h => by omega
 refine BR.lss r0 (fun hc => ?_) (fun hc => (decide_eq_true (hend hc)).symm)
 have h1 : INB i (a.length : Int) := ⟨hI1, hc⟩
 have h2 : INB i (b.length : Int) := ⟨hI1, by omega⟩
 rw [hadd hc]
 refine ⟨h1, h1, ?_⟩
 have heq := heq hc
 have hne := hne hc
 cases hA : gt .bool a i <;> cases hB : gt .bool b i <;> rw [hA, hB] at heq hne
 · exact .mk (fun h => by cases h) fun _ => ⟨h2, h2, .mk (fun h => by cases h) fun _ => NEXT.mk (hX _ _ _ (heq rfl) (hmu hc) (.inl ⟨rfl, rfl⟩))⟩
 · exact .mk (fun h => by cases h) fun _ => ⟨h2, h2, .mk (fun _ => hne (by decide)) fun h => by cases h⟩
 · exact .mk (fun _ => ⟨h2, h2, .mk (fun h => by cases h) fun _ => hne (by decide)⟩) fun h => by cases h
 · exact .mk (fun _ => ⟨h2, h2, .mk (fun _ => NEXT.mk (hX _ _ _ (heq rfl) (hmu hc) (.inl ⟨rfl, rfl⟩))) fun h => by cases h⟩) fun h => by cases h
end Go.Ab
