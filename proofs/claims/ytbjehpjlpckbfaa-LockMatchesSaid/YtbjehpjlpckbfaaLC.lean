/- LockMatches. -/
import Derived.Test.YtbjehpjlpckbfaaLB
set_option linter.unusedSimpArgs false
set_option linter.unusedVariables false
set_option maxRecDepth 20000
set_option maxHeartbeats 8000000
namespace Go.Ab
open Go.Proofs
theorem SETR.w0 {k tw c : Int} {l : LE} {t : Int} {ch : Int × Int × Int × Int} {e tw' : Int} {l' : LE} {c' : Int} (h : SETR k tw c l t ch e tw' l' c') (h0 : 0 ≤ tw) : 0 ≤ tw' := by
 cases h with
 | «at» => exact h0
 | chk => exact h0
 | full => exact h0
 | ok _ _ h1 =>
   unfold atE at h1
   split at h1
   · cases h1
   · omega
theorem TICKR.w0 {tw : Int} {l : LE} {t e tw' : Int} {l' : LE} (h : TICKR tw l t e tw' l') (h0 : 0 ≤ tw) : 0 ≤ tw' := by
 cases h with
 | «at» => exact h0
 | ok h1 =>
   unfold atE at h1
   split at h1
   · cases h1
   · omega
abbrev tStep : Ty := .pair tU (.pair tI tChoice)
theorem lawMatches (k : Int) (ns : Option Bool) (S : List tStep.den) (nb : Option Bool) (B : List BND) (hk : -9223372036854775808 ≤ k ∧ k ≤ 9223372036854775807) (hS : ∀ x ∈ S, 0 ≤ x.1 ∧ x.1 < 256 ∧ 0 ≤ x.2.2.2.2.1) (hSl : S.length ≤ maxLen) (hBl : B.length ≤ maxLen) : PurS Try.prog 3 [injT tI k, injT (.sl tStep) (ns, S), injT (.sl tBnd) (nb, B)] (.sb true) := by
 refine PurS.of (S := [(11, _), (21, _), (22, _)]) (T := [(12, _), (13, _), (18, _), (19, _), (20, _), (15, _), (17, _), (24, _)]) (U := [(14, _), (16, _), (23, _), (18, _)]) (tbl := [(10, ac10 none, [.tmp 2], 6), (25, ac25 none, [], 17)]) (n := 157) hm32 cfg (.cons (spT0.ok cAwake) (.cons (spT2.ok (a := (.sl (.pair (.int .i64) (.pair (.int .u8) (.pair (.int .i64) (.int .i64)))))) (b := (.sl (.pair (.int .i64) (.pair (.int .u8) (.pair (.int .i64) (.int .i64)))))) fun x0 x1 h => cEqK x0.1 x0.2 x1.1 x1.2 h) (.cons (spT2.ok (a := (.sl .bool)) (b := (.sl .bool)) fun x0 x1 h => cEqBl x0.1 x0.2 x1.1 x1.2 h) .nil))) (.cons tNew (.cons tRNew (.cons tLocksB (.cons tMask (.cons tRMask (.cons tRSet (.cons tRTick (.cons tRSense .nil)))))))) (.cons uSet (.cons uTick (.cons uSense (.cons uLocks .nil)))) (.cons Try.call10 Try.func10 (ac10_ok none) (by rw [Try.ntmps10]; exact Nat.le_refl _) (.cons Try.call25 Try.func25 (ac25_ok none) (by rw [Try.ntmps25]; exact Nat.le_refl _) .nil)) 6 Try.call3 Try.func3 (ac3_ok (some (0, 0))) (by rw [Try.ntmps3]; exact Nat.le_refl _) rfl ⟨_, rfl⟩ ?_
 intro cmp ar cv tn ic ai mx an ad ml sb mn ln em gt up ap sc vw cp rp p1 p2 s1 s2 X Y hX hY r0 r1 r2 r3 r4 r5 r6 r7 r8 r9 r10 r11 r12 r13 r14 r15 r16 r17 r18 r19 r20 r21 r22 r23 r24
 generalize hg0 : eqK = g0
 cbv
 simp only [maxLen] at hSl hBl
 have hlB : ic (ln tBnd B) = B.length := by rw [r4, r12]
 have hE2 : ∀ x, g0 x x = true := fun x => by rw [← hg0]; simp [eqK]
 refine BR.leq r0 (fun hc => ?_) fun _ => trivial
 have hB20 : B.length ≤ 20 := by rw [hlB] at hc; omega
 refine NEWK.mk (fun hkk => NEWK.mk (fun _ => BR.nn r0 ?_) (fun h => absurd hkk h)) (fun hkk => NEWK.mk (fun h => absurd h hkk) (fun _ => BR.nn r0 trivial))
 obtain ⟨N, hN⟩ : ∃ N : Int, N = S.length := ⟨_, rfl⟩
 have hlS : ic (ln tStep S) = N := by rw [r4, r12, hN]
 refine LOOP.ind (σ := Int × Int × Int × Nat × LE × List LKV) (fun (i, w, c, n, l, L) => [(1, .tl ns tStep S), (2, .tl nb tBnd B), (7, .ptr 0 0), (9, .ptr 2 0), (11, .p (iv i))])
   (fun (i, w, c, n, l, L) => ⟨(tabS k w c n l).box ++ (rtS k w L).box, []⟩) (fun (i, w, c, n, l, L) => (60 - i).toNat) (fun (i, w, c, n, l, L) => (0 ≤ i ∧ i ≤ N ∧ i ≤ 60) ∧ 0 ≤ w ∧ TAB c n l ∧ REL l L) (0, 0, 0, 0, [], []) ⟨⟨by omega, by omega, by omega⟩, by omega, TAB.empty, REL.empty⟩ (.inl ⟨rfl, rfl⟩) ?_
 intro ⟨i, w, c, n, l, L⟩ hI X' hX
 dsimp only at hI
 obtain ⟨⟨hI1, hI2, hI3⟩, hw0, hT, hL⟩ := hI
 obtain ⟨⟨d, t, a, to, se, m⟩, hx⟩ : ∃ x : tStep.den, x = gt tStep S i := ⟨_, rfl⟩
 have hse : i < N → 0 ≤ se ∧ 0 ≤ d := fun h => by
   have := hS _ (gtR_mem (t := tStep) hI1 (by omega : i < S.length))
   rw [← r14, ← hx] at this
   exact ⟨this.2.2, this.1⟩
 have hadd : i < N → ar .add .i64 i 1 = i + 1 := fun h => by rw [r1]; exact wrap64 (n := i + 1) (by omega) (by omega)
 cbv
 try simp only [nc_eq] at *
 rw [hlS, ← hx]
 have q1 : p1 tU (.pair tI tChoice) (d, t, a, to, se, m) = d := by rw [r21]
 have q2 : p1 tI tChoice (p2 tU (.pair tI tChoice) (d, t, a, to, se, m)) = t := by rw [r21, r22]
 have q3 : p1 tI (.pair tI (.pair tU tI)) (p2 tI tChoice (p2 tU (.pair tI tChoice) (d, t, a, to, se, m))) = a := by rw [r21, r22]
 have q4 : p1 tI (.pair tU tI) (p2 tI (.pair tI (.pair tU tI)) (p2 tI tChoice (p2 tU (.pair tI tChoice) (d, t, a, to, se, m)))) = to := by rw [r21, r22]
 have q5 : p1 tU tI (p2 tI (.pair tU tI) (p2 tI (.pair tI (.pair tU tI)) (p2 tI tChoice (p2 tU (.pair tI tChoice) (d, t, a, to, se, m))))) = se := by rw [r21, r22]
 have q6 : p2 tU tI (p2 tI (.pair tU tI) (p2 tI (.pair tI (.pair tU tI)) (p2 tI tChoice (p2 tU (.pair tI tChoice) (d, t, a, to, se, m))))) = m := by rw [r22]
 rw [q1, q2, q3, q4, q5, q6]
 have hLl : L.length ≤ 16 := by rw [hL.len]; have := hT.nl; have := hT.n1; omega
 refine BR.lss r0 (fun h1 => BR.lss r0 (fun h2 => ⟨⟨hI1, h1⟩, ⟨hI1, h1⟩, ⟨by decide⟩, BR.eql r0 (fun h3 => ?_) (fun h3 => ?_)⟩) (fun h2 => trivial)) (fun h1 => trivial)
 case' refine_1 =>
   refine SETK.mk hT hkk hw0 fun e w' c' n' l' hR hn' => ?_
   cbv
   refine RSTK.mk hLl hkk (hse h1).1 fun e2 w2 L' hR2 => ?_
   obtain ⟨rfl, rfl, hL'⟩ := hL.set hT hR hR2
   have hT' := hT.set hR (hse h1).1
   rw [← hn'] at hT'
   have hw' : 0 ≤ w2 := hR.w0 hw0
   clear hR hR2 hn'
   cbv
 case' refine_2 =>
   refine TICKK.mk hT hw0 fun e w' n' l' hR hn' => ?_
   cbv
   refine RTKK.mk hLl fun e2 w2 L' hR2 => ?_
   obtain ⟨rfl, rfl, hL'⟩ := hL.tick hR hR2
   have hT' := hR.tab hT
   rw [← hn'] at hT'
   have hw' : 0 ≤ w2 := hR.w0 hw0
   clear hR hR2 hn'
   cbv
   obtain ⟨c', rfl⟩ : ∃ c', c' = c := ⟨_, rfl⟩
 all_goals
   have hRL : locksL l' = L' := (REL.locks hT').uniq hL'
   have hLl' : L'.length ≤ 16 := by rw [hL'.len]; have := hT'.nl; have := hT'.n1; omega
   refine ⟨⟨⟨⟨⟨nlLe_none.2 trivial, trivial⟩, trivial⟩, trivial⟩, trivial⟩, LOKB.mk hT' (fun h0 => ?_) (fun R NR hR hNR hR0 => ?_)⟩
   · obtain rfl : L' = [] := hRL.symm.trans h0
     clear h0
     cbv
     by_cases hA : achk B = 0
     · refine MASKK.mk hT' (by omega) (fun M NM hA hM hNM => ?_) (fun f hf hf0 => absurd (hf.trans hA) hf0)
       have hMM := hM.trans (hL'.mask B)
       clear hM
       cbv
       refine ⟨⟨⟨nlLe_self.2 trivial, trivial⟩, trivial⟩, RMKK.mk hLl' (by omega) (fun M2 _ hM2 => ?_) (fun f hf hf0 => absurd (hf.trans hA) hf0)⟩
       obtain rfl : M2 = M := hM2.trans hMM.symm
       clear hM2
       cbv
       have hvM : vw .bool NM M2 0 NM = M2 := by rw [r18]; exact vw_all (t := .bool) (by rw [hMM, ← hL'.mask, mskL_len, hNM])
       have hMl : M2.length ≤ 2000 := by rw [hMM, ← hL'.mask, mskL_len]; omega
       have hNMi : ic NM = (NM : Int) := by rw [r4]
       have hNM2 : NM ≤ 6 := by rw [hNM]; exact (achk_ok hA).2.1
       rw [hvM]
       dsimp only
       refine ⟨⟨⟨nlLe_self.2 trivial, trivial⟩, trivial⟩, ⟨⟨⟨⟨nlLe_none.2 trivial, trivial⟩, trivial⟩, trivial⟩, trivial⟩, BR.nn r0 ⟨⟨by simp⟩, ?_⟩⟩
       rw [hE2]
       refine .mk (fun _ => BR.nn r0 ⟨⟨⟨by rw [r8]; show 0 + NM ≤ NM; omega⟩, trivial⟩, ⟨hMl⟩, .mk (fun _ => SENK.mk hT' fun x hx => ?_) (fun h => absurd h (by simp))⟩) (fun h => by cases h)
       have hxs := hL'.sense hT' hx
       clear hx
       cbv
       refine RSNK.mk hLl' fun x2 hx2 => ?_
       obtain rfl : x2 = x := hx2.trans hxs
       clear hx2
       cbv
       refine ⟨⟨⟨⟨⟨nlLe_none.2 trivial, trivial⟩, trivial⟩, trivial⟩, trivial⟩, BR.nn r0 ?_⟩
       refine LOOP.ind (σ := Unit) (fun _ => [(1, .tl ns tStep S), (2, .tl nb tBnd B), (7, .ptr 0 0), (9, .ptr 2 0), (11, .p (iv i)), (15, .p (.sl (some true) 0 [])), (16, .ms 4 0 1 none NM), (20, .p (iv 0))])
         (fun _ => ⟨(tabS k w2 c' n' l').box ++ (rtS k w2 []).box ++ [{ cells := [.arr 0 tLock []], e := 50, fz := false, ap := true }, { cells := [.arr NM .bool M2], e := 4, fz := false, ap := true }], []⟩) (fun _ => 0) (fun _ => True) () trivial (.inr ⟨[some 0, some 4, some 2, some 5, some 6], [], ?_⟩) ?_
       · rw [SIM_iff]; cbv; simp [nlLe_self, nlLe_none, lstEq]
       intro _ _ X2 hX2
       cbv
       refine BR.lss r0 (fun h4 => absurd h4 (by rw [r4]; decide)) (fun h4 => ?_)
       clear hX2
       refine LOOP.ind0 (σ := List Bool × Int) (fun (W, z) => [(0, .ms 4 0 1 none NM), (2, .p (iv z))])
         (fun (W, z) => ⟨(tabS k w2 c' n' l').box ++ (rtS k w2 []).box ++ [{ cells := [.arr 0 tLock []], e := 50, fz := false, ap := true }, { cells := [.arr NM .bool W], e := 4, fz := false, ap := true }], []⟩) (fun (W, z) => (NM - z).toNat) (fun (W, z) => 0 ≤ z ∧ z ≤ NM) (M2, 0) ⟨by omega, by omega⟩ (.inl ⟨rfl, rfl⟩) ?_
       intro ⟨W, z⟩ hZ X3 hX3
       obtain ⟨hZ1, hZ2⟩ := hZ
       try dsimp only at hZ1 hZ2
       have hadz : z < NM → ar .add .i64 z 1 = z + 1 := fun h => by rw [r1]; exact wrap64 (n := z + 1) (by omega) (by omega)
       cbv
       rw [hNMi]
       try simp only [nc_eq] at *
       refine BR.lss r0 (fun h5 => ?_) (fun h5 => ?_)
       · rw [hadz h5]
         have hzi : INB z (NM : Int) := ⟨hZ1, h5⟩
         exact ⟨hzi, hzi, .mk (fun _ => ⟨hzi, hzi, NEXT.mk (hX3 (_, z + 1) _ _ ⟨by show 0 ≤ z + 1; omega, by show z + 1 ≤ (NM : Int); omega⟩ (by show ((NM : Int) - (z + 1)).toNat < ((NM : Int) - z).toNat; omega) (.inl ⟨rfl, rfl⟩))⟩) (fun _ => ⟨hzi, hzi, NEXT.mk (hX3 (_, z + 1) _ _ ⟨by show 0 ≤ z + 1; omega, by show z + 1 ≤ (NM : Int); omega⟩ (by show ((NM : Int) - (z + 1)).toNat < ((NM : Int) - z).toNat; omega) (.inl ⟨rfl, rfl⟩))⟩)⟩
       clear hX3 hadz hZ1 hZ2
       refine LOKK.mk hT' fun R2 r2 hR2 hr2 => ?_
       obtain rfl : R2 = [] := hR2.trans hRL
       clear hR2
       cbv
       rw [hadd h1]
       refine ⟨⟨by simp⟩, .mk (fun _ => ?_) (fun h => by have := hE2 []; dsimp only at h; rw [this] at h; cases h)⟩
       exact NEXT.mk (hX (i + 1, w2, c', n', l', _) _ _ ⟨⟨by show 0 ≤ i + 1; omega, by show i + 1 ≤ N; omega, by show i + 1 ≤ 60; omega⟩, hw', hT', hL'⟩ (by show (60 - (i + 1)).toNat < (60 - i).toNat; omega) (.inr ⟨[some 0, some 1, some 2], [], by rw [SIM_iff]; cbv; simp [nlLe_self, nlLe_none, lstEq]⟩))
     · refine MASKK.mk hT' (by omega) (fun M NM h _ _ => absurd h hA) (fun f hf hf0 => ?_)
       cbv
       refine ⟨⟨⟨nlLe_self.2 trivial, trivial⟩, trivial⟩, RMKK.mk hLl' (by omega) (fun M2 h _ => absurd h hA) (fun f2 hf2 _ => ?_)⟩
       obtain rfl : f2 = f := by rw [hf2, hf]
       clear hf2 hf
       cbv
       dsimp only
       refine ⟨⟨⟨nlLe_self.2 trivial, trivial⟩, trivial⟩, ⟨⟨⟨⟨nlLe_none.2 trivial, trivial⟩, trivial⟩, trivial⟩, trivial⟩, BR.nn r0 ⟨⟨by simp⟩, ?_⟩⟩
       rw [hE2]
       refine .mk (fun _ => BR.nn r0 ⟨⟨by simp⟩, .mk (fun _ => SENK.mk hT' fun x hx => ?_) (fun h => absurd h (by simp))⟩) (fun h => by cases h)
       have hxs := hL'.sense hT' hx
       clear hx
       cbv
       refine RSNK.mk hLl' fun x2 hx2 => ?_
       obtain rfl : x2 = x := hx2.trans hxs
       clear hx2
       cbv
       refine ⟨⟨⟨⟨⟨nlLe_none.2 trivial, trivial⟩, trivial⟩, trivial⟩, trivial⟩, BR.nn r0 ?_⟩
       refine LOOP.ind (σ := Unit) (fun _ => [(1, .tl ns tStep S), (2, .tl nb tBnd B), (7, .ptr 0 0), (9, .ptr 2 0), (11, .p (iv i)), (15, .p (.sl (some true) 0 [])), (16, .p (.sl (some true) 0 [])), (20, .p (iv 0))])
         (fun _ => ⟨(tabS k w2 c' n' l').box ++ (rtS k w2 []).box ++ [{ cells := [.arr 0 tLock []], e := 50, fz := false, ap := true }], []⟩) (fun _ => 0) (fun _ => True) () trivial (.inr ⟨[some 0, some 4, some 2, some 5], [], ?_⟩) ?_
       · rw [SIM_iff]; cbv; simp [nlLe_self, nlLe_none, lstEq]
       intro _ _ X2 hX2
       cbv
       refine BR.lss r0 (fun h4 => absurd h4 (by rw [r4]; decide)) (fun h4 => ?_)
       clear hX2
       refine LOOP.ind0 (σ := Unit) (fun _ => [(0, .p (.sl (some true) 0 [])), (2, .p (iv 0))])
         (fun _ => ⟨(tabS k w2 c' n' l').box ++ (rtS k w2 []).box ++ [{ cells := [.arr 0 tLock []], e := 50, fz := false, ap := true }], []⟩) (fun _ => 0) (fun _ => True) () trivial (.inl ⟨rfl, rfl⟩) ?_
       intro _ _ X3 hX3
       cbv
       refine BR.lss r0 (fun h4 => absurd h4 (by rw [r4]; decide)) (fun h4 => ?_)
       clear hX3
       refine LOKK.mk hT' fun R2 r2 hR2 hr2 => ?_
       obtain rfl : R2 = [] := hR2.trans hRL
       clear hR2
       cbv
       rw [hadd h1]
       refine ⟨⟨by simp⟩, .mk (fun _ => ?_) (fun h => by have := hE2 []; dsimp only at h; rw [this] at h; cases h)⟩
       exact NEXT.mk (hX (i + 1, w2, c', n', l', _) _ _ ⟨⟨by show 0 ≤ i + 1; omega, by show i + 1 ≤ N; omega, by show i + 1 ≤ 60; omega⟩, hw', hT', hL'⟩ (by show (60 - (i + 1)).toNat < (60 - i).toNat; omega) (.inr ⟨[some 0, some 1, some 2], [], by rw [SIM_iff]; cbv; simp [nlLe_self, nlLe_none, lstEq]⟩))
   · obtain rfl : R = L' := hR.trans hRL
     clear hR hR0
     cbv
     by_cases hA : achk B = 0
     · refine MASKK.mk hT' (by omega) (fun M NM hA hM hNM => ?_) (fun f hf hf0 => absurd (hf.trans hA) hf0)
       have hMM := hM.trans (hL'.mask B)
       clear hM
       cbv
       refine ⟨⟨⟨nlLe_self.2 trivial, trivial⟩, trivial⟩, RMKK.mk hLl' (by omega) (fun M2 _ hM2 => ?_) (fun f hf hf0 => absurd (hf.trans hA) hf0)⟩
       obtain rfl : M2 = M := hM2.trans hMM.symm
       clear hM2
       cbv
       have hvM : vw .bool NM M2 0 NM = M2 := by rw [r18]; exact vw_all (t := .bool) (by rw [hMM, ← hL'.mask, mskL_len, hNM])
       have hMl : M2.length ≤ 2000 := by rw [hMM, ← hL'.mask, mskL_len]; omega
       have hNMi : ic NM = (NM : Int) := by rw [r4]
       have hNM2 : NM ≤ 6 := by rw [hNM]; exact (achk_ok hA).2.1
       rw [hvM]
       have hvR : vw tLock NR R 0 NR = R := by rw [r18]; exact vw_all (t := tLock) hNR.symm
       have hRl : R.length ≤ 2000 := by omega
       have hNRi : ic NR = (NR : Int) := by rw [r4]
       have hNR2 : NR ≤ 16 := by omega
       rw [hvR]
       dsimp only
       refine ⟨⟨⟨nlLe_self.2 trivial, trivial⟩, trivial⟩, ⟨⟨⟨⟨nlLe_none.2 trivial, trivial⟩, trivial⟩, trivial⟩, trivial⟩, BR.nn r0 ⟨⟨⟨by rw [r8]; show 0 + NR ≤ NR; omega⟩, trivial⟩, ⟨hRl⟩, ?_⟩⟩
       rw [hE2]
       refine .mk (fun _ => BR.nn r0 ⟨⟨⟨by rw [r8]; show 0 + NM ≤ NM; omega⟩, trivial⟩, ⟨hMl⟩, .mk (fun _ => SENK.mk hT' fun x hx => ?_) (fun h => absurd h (by simp))⟩) (fun h => by cases h)
       have hxs := hL'.sense hT' hx
       clear hx
       cbv
       refine RSNK.mk hLl' fun x2 hx2 => ?_
       obtain rfl : x2 = x := hx2.trans hxs
       clear hx2
       cbv
       refine ⟨⟨⟨⟨⟨nlLe_none.2 trivial, trivial⟩, trivial⟩, trivial⟩, trivial⟩, BR.nn r0 ?_⟩
       refine LOOP.ind (σ := List LKV × Int) (fun (Q, q) => [(1, .tl ns tStep S), (2, .tl nb tBnd B), (7, .ptr 0 0), (9, .ptr 2 0), (11, .p (iv i)), (15, .ms 3 0 4 none NR), (16, .ms 4 0 1 none NM), (20, .p (iv q))])
         (fun (Q, q) => ⟨(tabS k w2 c' n' l').box ++ (rtS k w2 R).box ++ [{ cells := [.arr NR tLock Q], e := 50, fz := false, ap := true }, { cells := [.arr NM .bool M2], e := 4, fz := false, ap := true }], []⟩) (fun (Q, q) => (NR - q).toNat) (fun (Q, q) => 0 ≤ q ∧ q ≤ NR) (R, 0) ⟨by omega, by omega⟩ (.inr ⟨[some 0, some 4, some 2, some 5, some 6], [], ?_⟩) ?_
       · rw [SIM_iff]; cbv; simp [nlLe_self, nlLe_none, lstEq]
       intro ⟨Q, q⟩ hJ X2 hX2
       obtain ⟨hJ1, hJ2⟩ := hJ
       try dsimp only at hJ1 hJ2
       have hadq : q < NR → ar .add .i64 q 1 = q + 1 := fun h => by rw [r1]; exact wrap64 (n := q + 1) (by omega) (by omega)
       cbv
       rw [hNRi]
       try simp only [nc_eq] at *
       refine BR.lss r0 (fun h4 => ?_) (fun h4 => ?_)
       · rw [hadq h4]
         exact ⟨⟨hJ1, h4⟩, ⟨hJ1, h4⟩, NEXT.mk (hX2 (_, q + 1) _ _ ⟨by show 0 ≤ q + 1; omega, by show q + 1 ≤ (NR : Int); omega⟩ (by show ((NR : Int) - (q + 1)).toNat < ((NR : Int) - q).toNat; omega) (.inl ⟨rfl, rfl⟩))⟩
       clear hX2 hadq hJ1 hJ2
       refine LOOP.ind0 (σ := List Bool × Int) (fun (W, z) => [(0, .ms 4 0 1 none NM), (2, .p (iv z))])
         (fun (W, z) => ⟨(tabS k w2 c' n' l').box ++ (rtS k w2 R).box ++ [{ cells := [.arr NR tLock Q], e := 50, fz := false, ap := true }, { cells := [.arr NM .bool W], e := 4, fz := false, ap := true }], []⟩) (fun (W, z) => (NM - z).toNat) (fun (W, z) => 0 ≤ z ∧ z ≤ NM) (M2, 0) ⟨by omega, by omega⟩ (.inl ⟨rfl, rfl⟩) ?_
       intro ⟨W, z⟩ hZ X3 hX3
       obtain ⟨hZ1, hZ2⟩ := hZ
       try dsimp only at hZ1 hZ2
       have hadz : z < NM → ar .add .i64 z 1 = z + 1 := fun h => by rw [r1]; exact wrap64 (n := z + 1) (by omega) (by omega)
       cbv
       rw [hNMi]
       try simp only [nc_eq] at *
       refine BR.lss r0 (fun h5 => ?_) (fun h5 => ?_)
       · rw [hadz h5]
         have hzi : INB z (NM : Int) := ⟨hZ1, h5⟩
         exact ⟨hzi, hzi, .mk (fun _ => ⟨hzi, hzi, NEXT.mk (hX3 (_, z + 1) _ _ ⟨by show 0 ≤ z + 1; omega, by show z + 1 ≤ (NM : Int); omega⟩ (by show ((NM : Int) - (z + 1)).toNat < ((NM : Int) - z).toNat; omega) (.inl ⟨rfl, rfl⟩))⟩) (fun _ => ⟨hzi, hzi, NEXT.mk (hX3 (_, z + 1) _ _ ⟨by show 0 ≤ z + 1; omega, by show z + 1 ≤ (NM : Int); omega⟩ (by show ((NM : Int) - (z + 1)).toNat < ((NM : Int) - z).toNat; omega) (.inl ⟨rfl, rfl⟩))⟩)⟩
       clear hX3 hadz hZ1 hZ2
       refine LOKK.mk hT' fun R2 r2 hR2 hr2 => ?_
       obtain rfl : R2 = R := hR2.trans hRL
       clear hR2
       cbv
       rw [hadd h1]
       refine ⟨⟨by omega⟩, .mk (fun _ => ?_) (fun h => by have := hE2 R2; dsimp only at h; rw [this] at h; cases h)⟩
       exact NEXT.mk (hX (i + 1, w2, c', n', l', _) _ _ ⟨⟨by show 0 ≤ i + 1; omega, by show i + 1 ≤ N; omega, by show i + 1 ≤ 60; omega⟩, hw', hT', hL'⟩ (by show (60 - (i + 1)).toNat < (60 - i).toNat; omega) (.inr ⟨[some 0, some 1, some 2], [], by rw [SIM_iff]; cbv; simp [nlLe_self, nlLe_none, lstEq]⟩))
     · refine MASKK.mk hT' (by omega) (fun M NM h _ _ => absurd h hA) (fun f hf hf0 => ?_)
       cbv
       refine ⟨⟨⟨nlLe_self.2 trivial, trivial⟩, trivial⟩, RMKK.mk hLl' (by omega) (fun M2 h _ => absurd h hA) (fun f2 hf2 _ => ?_)⟩
       obtain rfl : f2 = f := by rw [hf2, hf]
       clear hf2 hf
       cbv
       have hvR : vw tLock NR R 0 NR = R := by rw [r18]; exact vw_all (t := tLock) hNR.symm
       have hRl : R.length ≤ 2000 := by omega
       have hNRi : ic NR = (NR : Int) := by rw [r4]
       have hNR2 : NR ≤ 16 := by omega
       rw [hvR]
       dsimp only
       refine ⟨⟨⟨nlLe_self.2 trivial, trivial⟩, trivial⟩, ⟨⟨⟨⟨nlLe_none.2 trivial, trivial⟩, trivial⟩, trivial⟩, trivial⟩, BR.nn r0 ⟨⟨⟨by rw [r8]; show 0 + NR ≤ NR; omega⟩, trivial⟩, ⟨hRl⟩, ?_⟩⟩
       rw [hE2]
       refine .mk (fun _ => BR.nn r0 ⟨⟨by simp⟩, .mk (fun _ => SENK.mk hT' fun x hx => ?_) (fun h => absurd h (by simp))⟩) (fun h => by cases h)
       have hxs := hL'.sense hT' hx
       clear hx
       cbv
       refine RSNK.mk hLl' fun x2 hx2 => ?_
       obtain rfl : x2 = x := hx2.trans hxs
       clear hx2
       cbv
       refine ⟨⟨⟨⟨⟨nlLe_none.2 trivial, trivial⟩, trivial⟩, trivial⟩, trivial⟩, BR.nn r0 ?_⟩
       refine LOOP.ind (σ := List LKV × Int) (fun (Q, q) => [(1, .tl ns tStep S), (2, .tl nb tBnd B), (7, .ptr 0 0), (9, .ptr 2 0), (11, .p (iv i)), (15, .ms 3 0 4 none NR), (16, .p (.sl (some true) 0 [])), (20, .p (iv q))])
         (fun (Q, q) => ⟨(tabS k w2 c' n' l').box ++ (rtS k w2 R).box ++ [{ cells := [.arr NR tLock Q], e := 50, fz := false, ap := true }], []⟩) (fun (Q, q) => (NR - q).toNat) (fun (Q, q) => 0 ≤ q ∧ q ≤ NR) (R, 0) ⟨by omega, by omega⟩ (.inr ⟨[some 0, some 4, some 2, some 5], [], ?_⟩) ?_
       · rw [SIM_iff]; cbv; simp [nlLe_self, nlLe_none, lstEq]
       intro ⟨Q, q⟩ hJ X2 hX2
       obtain ⟨hJ1, hJ2⟩ := hJ
       try dsimp only at hJ1 hJ2
       have hadq : q < NR → ar .add .i64 q 1 = q + 1 := fun h => by rw [r1]; exact wrap64 (n := q + 1) (by omega) (by omega)
       cbv
       rw [hNRi]
       try simp only [nc_eq] at *
       refine BR.lss r0 (fun h4 => ?_) (fun h4 => ?_)
       · rw [hadq h4]
         exact ⟨⟨hJ1, h4⟩, ⟨hJ1, h4⟩, NEXT.mk (hX2 (_, q + 1) _ _ ⟨by show 0 ≤ q + 1; omega, by show q + 1 ≤ (NR : Int); omega⟩ (by show ((NR : Int) - (q + 1)).toNat < ((NR : Int) - q).toNat; omega) (.inl ⟨rfl, rfl⟩))⟩
       clear hX2 hadq hJ1 hJ2
       refine LOOP.ind0 (σ := Unit) (fun _ => [(0, .p (.sl (some true) 0 [])), (2, .p (iv 0))])
         (fun _ => ⟨(tabS k w2 c' n' l').box ++ (rtS k w2 R).box ++ [{ cells := [.arr NR tLock Q], e := 50, fz := false, ap := true }], []⟩) (fun _ => 0) (fun _ => True) () trivial (.inl ⟨rfl, rfl⟩) ?_
       intro _ _ X3 hX3
       cbv
       refine BR.lss r0 (fun h4 => absurd h4 (by rw [r4]; decide)) (fun h4 => ?_)
       clear hX3
       refine LOKK.mk hT' fun R2 r2 hR2 hr2 => ?_
       obtain rfl : R2 = R := hR2.trans hRL
       clear hR2
       cbv
       rw [hadd h1]
       refine ⟨⟨by omega⟩, .mk (fun _ => ?_) (fun h => by have := hE2 R2; dsimp only at h; rw [this] at h; cases h)⟩
       exact NEXT.mk (hX (i + 1, w2, c', n', l', _) _ _ ⟨⟨by show 0 ≤ i + 1; omega, by show i + 1 ≤ N; omega, by show i + 1 ≤ 60; omega⟩, hw', hT', hL'⟩ (by show (60 - (i + 1)).toNat < (60 - i).toNat; omega) (.inr ⟨[some 0, some 1, some 2], [], by rw [SIM_iff]; cbv; simp [nlLe_self, nlLe_none, lstEq]⟩))
theorem matches_typed : ∀ xs, TyVs Try.prog [3, 22, 23] xs → PurFn Try.prog 3 (xs.map .p) (.v (.bool true)) := law3 (P := Try.prog) (f := 3) (t1 := 3) (t2 := 22) (t3 := 23) (T1 := tI) (T2 := .sl tStep) (T3 := .sl tBnd) (by kernel_rfl) fun k s l hk hs hl => lawMatches k s.1 s.2 l.1 l.2 (by have := wf_i64 hk; exact ⟨this.1, by omega⟩) (fun x hx => by
   have h := hs.2.2 x hx
   exact ⟨(wf_u8 h.1).1, (wf_u8 h.1).2, (wf_u8 h.2.2.2.2.1).1⟩) hs.1 hl.1
end Go.Ab
