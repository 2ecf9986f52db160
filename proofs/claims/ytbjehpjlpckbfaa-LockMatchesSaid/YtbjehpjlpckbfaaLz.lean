/- The reference's table: New, Tick, Set, Sense, Mask. -/
import Derived.Test.YtbjehpjlpckbfaaLy
set_option linter.unusedSimpArgs false
set_option linter.unusedVariables false
set_option maxRecDepth 20000
set_option maxHeartbeats 8000000
namespace Go.Ab
open Go.Proofs
def rtS (k tw : Int) (L : List LKV) : StS := ⟨[{ cells := [.p (iv k), .p (iv tw), .tl none tLock L], e := 46, fz := false }], []⟩
theorem rNew (k : Int) (hk : 1 ≤ k ∧ k ≤ 60) : FnS Try.prog 13 ([injT tI k]) (⟨[], []⟩ ) fun x_ s_ => x_ = (.tup [.ptr 0 0, .p (iv 0)]) ∧ s_ = (rtS k 0 []) := by
 refine FnS.of (S := []) (T := []) (U := []) (tbl := []) (n := 13) hm32 cfg .nil .nil .nil .nil 0 Try.call13 Try.func13 (ac13_ok (some (0, 0))) (by rw [Try.ntmps13]; exact Nat.le_refl _) rfl _ _ _ (by rfl) ?_
 intro cmp ar cv tn ic ai mx an ad ml sb mn ln em gt up ap sc vw cp rp p1 p2 s1 s2 X Y hX hY r0 r1 r2 r3 r4 r5 r6 r7 r8 r9 r10 r11 r12 r13 r14 r15 r16 r17 r18 r19 r20 r21 r22 r23 r24
 cbv
 refine BR.lss r0 (fun h => absurd h (by omega)) fun _ => BR.gtr r0 (fun h => absurd h (by omega)) fun _ => ?_
 refine RET.mk ⟨[some 0], [], ?_⟩
 rw [SIM_iff]; cbv
 simp [lstEq, nlLe_none]
theorem rNewX (k : Int) (hk : ¬ (1 ≤ k ∧ k ≤ 60)) : FnS Try.prog 13 ([injT tI k]) (⟨[], []⟩ ) fun x_ s_ => x_ = (.tup [.p (.v (.pointer none)), .p (iv 1)]) ∧ s_ = (⟨[], []⟩) := by
 refine FnS.of (S := []) (T := []) (U := []) (tbl := []) (n := 13) hm32 cfg .nil .nil .nil .nil 0 Try.call13 Try.func13 (ac13_ok (some (0, 0))) (by rw [Try.ntmps13]; exact Nat.le_refl _) rfl _ _ _ (by rfl) ?_
 intro cmp ar cv tn ic ai mx an ad ml sb mn ln em gt up ap sc vw cp rp p1 p2 s1 s2 X Y hX hY r0 r1 r2 r3 r4 r5 r6 r7 r8 r9 r10 r11 r12 r13 r14 r15 r16 r17 r18 r19 r20 r21 r22 r23 r24
 cbv
 refine BR.lss r0 (fun _ => ?_) fun h1 => BR.gtr r0 (fun _ => ?_) fun h2 => absurd (show 1 ≤ k ∧ k ≤ 60 by omega) hk
 all_goals
   refine RET.mk ⟨[], [], ?_⟩
   rw [SIM_iff]; cbv
   simp
theorem RTICK.bad {tw : Int} {L : List LKV} {t e tw' : Int} {L' : List LKV} (h : RTICK tw L t e tw' L') (h1 : atE tw t ≠ 0) : e = atE tw t ∧ tw' = tw ∧ L' = L := by
 cases h with
 | «at» => exact ⟨rfl, rfl, rfl⟩
 | ok h => exact absurd h h1
theorem RTICK.good {tw : Int} {L : List LKV} {t e tw' : Int} {L' : List LKV} (h : RTICK tw L t e tw' L') (h1 : atE tw t = 0) : e = 0 ∧ tw' = t ∧ L' = liveF t L := by
 cases h with
 | «at» h => exact absurd h1 h
 | ok h => exact ⟨rfl, rfl, rfl⟩
theorem rLive (k tw : Int) (L : List LKV) (t : Int) (L' : List LKV) (r : Nat) (hl' : L' = liveF t L) (hr : r = L'.length * 4) (hl : L.length ≤ 16) : FnS Try.prog 42 ([.ptr 0 0, .p (iv t)]) (rtS k tw L ) fun x_ s_ => x_ = (.og 0 tLock L') ∧ s_ = (⟨(rtS k tw L).box, [(r, 50)]⟩) := by
 refine FnS.of (S := []) (T := []) (U := []) (tbl := []) (n := 37) hm32 cfg .nil .nil .nil .nil 0 Try.call42 Try.func42 (ac42_ok (some (1, 0))) (by rw [Try.ntmps42]; exact Nat.le_refl _) rfl _ _ _ (by rfl) ?_
 intro cmp ar cv tn ic ai mx an ad ml sb mn ln em gt up ap sc vw cp rp p1 p2 s1 s2 X Y hX hY r0 r1 r2 r3 r4 r5 r6 r7 r8 r9 r10 r11 r12 r13 r14 r15 r16 r17 r18 r19 r20 r21 r22 r23 r24
 cbv
 have hlL : ic (ln tLock L) = L.length := by rw [r4, r12]
 obtain ⟨N, hN⟩ : ∃ N : Int, N = L.length := ⟨_, rfl⟩
 rw [← hN] at hlL
 refine LOOP.ind (σ := List LKV × Int) (fun (O, i) => [(0, .ptr 0 0), (1, .p (iv t)), (5, .og 0 tLock O), (6, .p (iv i))]) (fun (O, i) => ⟨(rtS k tw L).box, [(ml (ln tLock O) 4, 50)]⟩) (fun (O, i) => (N - i).toNat) (fun (O, i) => (0 ≤ i ∧ i ≤ N) ∧ O ++ liveF t (L.drop i.toNat) = L' ∧ O.length ≤ i) ([], 0) ⟨by omega, hl'.symm, by simp⟩ (.inr ⟨[some 0], [none], ?_⟩) ?_
 · rw [SIM_iff]; cbv; simp [nlLe_self, lstEq]
 intro ⟨O, i⟩ hI X' hX
 dsimp only at hI
 obtain ⟨⟨hI1, hI2⟩, hI3, hI4⟩ := hI
 obtain ⟨⟨v1, v2, v3, v4⟩, hx⟩ : ∃ x : LKV, x = gt tLock L i := ⟨_, rfl⟩
 have q1 : p1 tI (.pair tU (.pair tI tI)) (v1, v2, v3, v4) = v1 := by rw [r21]
 have q2 : p1 tU (.pair tI tI) (p2 tI (.pair tU (.pair tI tI)) (v1, v2, v3, v4)) = v2 := by rw [r21, r22]
 have q3 : p1 tI tI (p2 tU (.pair tI tI) (p2 tI (.pair tU (.pair tI tI)) (v1, v2, v3, v4))) = v3 := by rw [r21, r22]
 have q4 : p2 tI tI (p2 tU (.pair tI tI) (p2 tI (.pair tU (.pair tI tI)) (v1, v2, v3, v4))) = v4 := by rw [r22]
 have hst : i < N → L.drop i.toNat = (v1, v2, v3, v4) :: L.drop (i + 1).toNat := fun h => by rw [hx, r14]; exact gtR_drop (t := tLock) hI1 (by omega)
 have hend : ¬ i < N → O = L' := fun h => by rw [← hI3, gtR_end (by omega)]; simp [liveF]
 have hlive : i < N → ¬ v4 < t → (O ++ [(v1, v2, v3, v4)]) ++ liveF t (L.drop (i + 1).toNat) = L' := fun h h' => by
   rw [← hI3, hst h]
   have : deadB t ((v1, v2, v3, v4) : LKV) = false := decide_eq_false h'
   simp [liveF, this]
 have hdead : i < N → v4 < t → O ++ liveF t (L.drop (i + 1).toNat) = L' := fun h h' => by
   rw [← hI3, hst h]
   have : deadB t ((v1, v2, v3, v4) : LKV) = true := decide_eq_true h'
   simp [liveF, this]
 have hap : ap tLock O [(v1, v2, v3, v4)] = O ++ [(v1, v2, v3, v4)] := by rw [r16]
 have hlO : ln tLock O = O.length := by rw [r12]
 have hl1 : ln tLock [(v1, v2, v3, v4)] = 1 := by rw [r12]; rfl
 have hadd : i < N → ar .add .i64 i 1 = i + 1 := fun h => by rw [r1]; exact wrap64 (n := i + 1) (by omega) (by omega)
 have hlim : i < N → LIM (ad O.length 1) 32 := fun h => ⟨by rw [r8]; show (O.length + 1) * 32 ≤ _; omega, by rw [r8]; show O.length + 1 ≤ 2 ^ 63 - 1; omega⟩
 have hOl : ((O ++ [(v1, v2, v3, v4)]).length : Int) ≤ i + 1 := by rw [List.length_append, List.length_singleton]; omega
 clear hI3 hst hl'
 cbv
 try simp only [nc_eq] at *
 rw [hlL, ← hx]
 rw [q1, q2, q3, q4, hap, hlO, hl1]
 refine BR.lss r0 (fun hc => ⟨⟨hI1, hc⟩, ⟨hI1, hc⟩, BR.geq r0 (fun h => ?_) fun h => ?_⟩) (fun hc => ?_)
 · rw [hadd hc]
   refine ⟨⟨hI1, hc⟩, ⟨hI1, hc⟩, ⟨rfl⟩, hlim hc, NEXT.mk (hX (_, i + 1) _ _ ⟨⟨by show 0 ≤ i + 1; omega, by show i + 1 ≤ N; omega⟩, hlive hc (by omega), hOl⟩ (by show (N - (i + 1)).toNat < (N - i).toNat; omega) (.inl ⟨rfl, rfl⟩))⟩
 · rw [hadd hc]
   refine NEXT.mk (hX (_, i + 1) _ _ ⟨⟨by show 0 ≤ i + 1; omega, by show i + 1 ≤ N; omega⟩, hdead hc (by omega), by show (O.length : Int) ≤ i + 1; omega⟩ (by show (N - (i + 1)).toNat < (N - i).toNat; omega) (.inr ⟨[some 0], [some 0], by rw [SIM_iff]; cbv; simp [nlLe_self, lstEq, hlO]⟩))
 · obtain rfl := hend hc
   refine RET.mk ⟨[some 0], [some 0], ?_⟩
   rw [SIM_iff]; cbv
   simp [lstEq, nlLe_none, hr, r9, hlO]
def rtAt (a : Nat) (st : StS) (K : Int → Int → List LKV → Prop) : Prop := match nthD st.box a with
 | some B => (match B.cells with
   | [.p (.v (.int .i64 k)), .p (.v (.int .i64 w)), .tl none t l] => (match castL tLock t l with | some l => K k w l | none => False)
   | _ => False)
 | none => False
theorem rtAt_some {a : Nat} {st : StS} {K : Int → Int → List LKV → Prop} (h : rtAt a st K) : ∃ k w L, K k w L := by
 unfold rtAt at h
 repeat' split at h
 all_goals first | exact ⟨_, _, _, h⟩ | exact h.elim
structure RLVK (t : Int) (L : List LKV) (K : List LKV → Nat → Prop) : Prop where
 l : L.length ≤ 16
 h : ∀ R r, R = liveF t L → r = R.length * 4 → K R r
def spRLive : OpsS → CallS := fun _ _ ds st K => match ds with
 | [.ptr a 0, .p (.v (.int .i64 t))] => rtAt a st fun k w L => RLVK t L fun R r => frS [a] [] [.ptr 0 0, .p (iv t)] (rtS k w L) (.og 0 tLock R) ⟨(rtS k w L).box, [(r, 50)]⟩ ds st K
 | _ => False
theorem tRLive : ∀ ds st K, spRLive OpsS.real 42 ds st K → FnS Try.prog 42 ds st K := fun ds st K h => by
 unfold spRLive at h
 split at h
 · rename_i t
   obtain ⟨k, w, L, h⟩ := rtAt_some h
   exact frS_ok (rLive k w L t _ _ rfl rfl h.l) (h.h _ _ rfl rfl)
 · exact h.elim
theorem rTick (k tw : Int) (L : List LKV) (t : Int) (e tw' : Int) (L' : List LKV) (hR : RTICK tw L t e tw' L') (hl : L.length ≤ 16) : FnS Try.prog 17 ([.ptr 0 0, .p (iv t)]) (rtS k tw L ) fun x_ s_ => x_ = (.p (iv e)) ∧ s_ = (rtS k tw' L') := by
 refine FnS.of (S := []) (T := [(42, _)]) (U := []) (tbl := [(41, ac41 none, [.tmp 4], 17)]) (n := 22) hm32 cfg .nil (.cons tRLive .nil) .nil (.cons Try.call41 Try.func41 (ac41_ok none) (by rw [Try.ntmps41]; exact Nat.le_refl _) .nil) 6 Try.call17 Try.func17 (ac17_ok (some (1, 0))) (by rw [Try.ntmps17]; exact Nat.le_refl _) rfl _ _ _ (by rfl) ?_
 intro cmp ar cv tn ic ai mx an ad ml sb mn ln em gt up ap sc vw cp rp p1 p2 s1 s2 X Y hX hY r0 r1 r2 r3 r4 r5 r6 r7 r8 r9 r10 r11 r12 r13 r14 r15 r16 r17 r18 r19 r20 r21 r22 r23 r24
 cbv
 have hat : atE tw t = if t < 0 ∨ t > 1099511627776 then 1 else if t < tw then 12 else 0 := rfl
 refine BR.lss r0 (fun h1 => BR.neq r0 (fun _ => ?_) (fun h => absurd (by decide) h)) (fun h1 => BR.gtr r0 (fun h2 => BR.neq r0 (fun _ => ?_) (fun h => absurd (by decide) h)) fun h2 => BR.lss r0 (fun h3 => BR.neq r0 (fun _ => ?_) (fun h => absurd (by decide) h)) fun h3 => BR.nn r0 ?_)
 · have hb := hR.bad (by rw [hat, if_pos (.inl h1)]; decide)
   rw [hat, if_pos (.inl h1)] at hb
   obtain ⟨rfl, rfl, rfl⟩ := hb
   refine RET.mk ⟨[some 0], [], ?_⟩
   rw [SIM_iff]; cbv
   simp [lstEq, nlLe_none]
 · have hb := hR.bad (by rw [hat, if_pos (.inr h2)]; decide)
   rw [hat, if_pos (.inr h2)] at hb
   obtain ⟨rfl, rfl, rfl⟩ := hb
   refine RET.mk ⟨[some 0], [], ?_⟩
   rw [SIM_iff]; cbv
   simp [lstEq, nlLe_none]
 · have hb := hR.bad (by rw [hat, if_neg (by omega), if_pos h3]; decide)
   rw [hat, if_neg (by omega), if_pos h3] at hb
   obtain ⟨rfl, rfl, rfl⟩ := hb
   refine RET.mk ⟨[some 0], [], ?_⟩
   rw [SIM_iff]; cbv
   simp [lstEq, nlLe_none]
 have hat0 : atE tw t = 0 := by rw [hat, if_neg (by omega), if_neg h3]
 obtain ⟨he', ht', hl'⟩ := hR.good hat0
 clear hR hat hat0
 subst he'
 replace ht' := ht'.symm
 subst ht'
 refine RLVK.mk hl fun R r hR hr => ?_
 rw [← hR] at hl'
 subst hl'
 cbv
 refine ⟨⟨⟨⟨⟨nlLe_none.2 trivial, trivial⟩, trivial⟩, trivial⟩, trivial⟩, RET.mk ⟨[some 0], [], ?_⟩⟩
 rw [SIM_iff]; cbv
 try simp [lstEq, nlLe_none]
section
variable {k tw : Int} {L : List LKV} {t : Int} {ch : Int × Int × Int × Int} {e tw' : Int} {L' : List LKV} (h : RSET k tw L t ch e tw' L')
include h
theorem RSET.bad (h1 : atE tw t ≠ 0) : e = atE tw t ∧ tw' = tw ∧ L' = L := by
 cases h with
 | «at» => exact ⟨rfl, rfl, rfl⟩
 | chk h => exact absurd h h1
 | full h => exact absurd h h1
 | ok h => exact absurd h h1
theorem RSET.wrong (h1 : atE tw t = 0) (h2 : lcheckM ch ≠ 0) : e = lcheckM ch ∧ tw' = tw ∧ L' = L := by
 cases h with
 | «at» h => exact absurd h1 h
 | chk h => exact ⟨rfl, rfl, rfl⟩
 | full _ h => exact absurd h h2
 | ok _ h => exact absurd h h2
theorem RSET.rest (h1 : atE tw t = 0) (h2 : lcheckM ch = 0) : (16 < (putR (ch.1, (ch.2.2.1, (ch.2.2.2, t + k))) false (liveF t L)).length → e = 17 ∧ tw' = tw ∧ L' = L) ∧ (¬ 16 < (putR (ch.1, (ch.2.2.1, (ch.2.2.2, t + k))) false (liveF t L)).length → e = 0 ∧ tw' = t ∧ L' = putR (ch.1, (ch.2.2.1, (ch.2.2.2, t + k))) false (liveF t L)) := by
 cases h with
 | «at» h => exact absurd h1 h
 | chk _ h => exact absurd h2 h
 | full _ _ h => exact ⟨fun _ => ⟨rfl, rfl, rfl⟩, fun h' => absurd h h'⟩
 | ok _ _ h => exact ⟨fun h' => absurd h' h, fun _ => ⟨rfl, rfl, rfl⟩⟩
end
theorem rSet (k tw : Int) (L : List LKV) (t a to se m : Int) (e tw' : Int) (L' : List LKV) (hR : RSET k tw L t (a, (to, (se, m))) e tw' L') (hl : L.length ≤ 16) (hk : 1 ≤ k ∧ k ≤ 60) (hse : 0 ≤ se) : FnS Try.prog 15 ([.ptr 0 0, .p (iv t), injT tChoice (a, (to, (se, m)))]) (rtS k tw L ) fun x_ s_ => x_ = (.p (iv e)) ∧ s_ = (rtS k tw' L') := by
 refine FnS.of (S := [(32, _)]) (T := [(42, _)]) (U := []) (tbl := [(41, ac41 none, [.tmp 4], 17)]) (n := 120) hm32 cfg (.cons (spT1.ok (a := (.pair (.int .i64) (.pair (.int .i64) (.pair (.int .u8) (.int .i64))))) (pre := fun _ => True) fun x0 _ => cRChk x0.1 x0.2.1 x0.2.2.1 x0.2.2.2) .nil) (.cons tRLive .nil) .nil (.cons Try.call41 Try.func41 (ac41_ok none) (by rw [Try.ntmps41]; exact Nat.le_refl _) .nil) 6 Try.call15 Try.func15 (ac15_ok (some (1, 0))) (by rw [Try.ntmps15]; exact Nat.le_refl _) rfl _ _ _ (by rfl) ?_
 intro cmp ar cv tn ic ai mx an ad ml sb mn ln em gt up ap sc vw cp rp p1 p2 s1 s2 X Y hX hY r0 r1 r2 r3 r4 r5 r6 r7 r8 r9 r10 r11 r12 r13 r14 r15 r16 r17 r18 r19 r20 r21 r22 r23 r24
 generalize hg0 : lcheckM = g0
 cbv
 have hat : atE tw t = if t < 0 ∨ t > 1099511627776 then 1 else if t < tw then 12 else 0 := rfl
 have hE : lcheckM (a, (to, (se, m))) = g0 (a, (to, (se, m))) := by rw [hg0]
 refine BR.lss r0 (fun h1 => BR.eql r0 (fun h => absurd h (by decide)) fun _ => BR.neq r0 (fun _ => ?_) (fun h => absurd (by decide) h)) (fun h1 => BR.gtr r0 (fun h2 => BR.eql r0 (fun h => absurd h (by decide)) fun _ => BR.neq r0 (fun _ => ?_) (fun h => absurd (by decide) h)) fun h2 => BR.lss r0 (fun h3 => BR.eql r0 (fun h => absurd h (by decide)) fun _ => BR.neq r0 (fun _ => ?_) (fun h => absurd (by decide) h)) fun h3 => BR.eql r0 (fun _ => BR.neq r0 (fun h4 => ?_) fun h4 => ?_) (fun h => absurd rfl h))
 · have hb := hR.bad (by rw [hat, if_pos (.inl h1)]; decide)
   rw [hat, if_pos (.inl h1)] at hb
   obtain ⟨rfl, rfl, rfl⟩ := hb
   refine RET.mk ⟨[some 0], [], ?_⟩
   rw [SIM_iff]; cbv
   simp [lstEq, nlLe_none]
 · have hb := hR.bad (by rw [hat, if_pos (.inr h2)]; decide)
   rw [hat, if_pos (.inr h2)] at hb
   obtain ⟨rfl, rfl, rfl⟩ := hb
   refine RET.mk ⟨[some 0], [], ?_⟩
   rw [SIM_iff]; cbv
   simp [lstEq, nlLe_none]
 · have hb := hR.bad (by rw [hat, if_neg (by omega), if_pos h3]; decide)
   rw [hat, if_neg (by omega), if_pos h3] at hb
   obtain ⟨rfl, rfl, rfl⟩ := hb
   refine RET.mk ⟨[some 0], [], ?_⟩
   rw [SIM_iff]; cbv
   simp [lstEq, nlLe_none]
 · have hat0 : atE tw t = 0 := by rw [hat, if_neg (by omega), if_neg h3]
   have hb := hR.wrong hat0 (by rw [hE]; exact h4)
   rw [hE] at hb
   obtain ⟨rfl, rfl, rfl⟩ := hb
   refine RET.mk ⟨[some 0], [], ?_⟩
   rw [SIM_iff]; cbv
   simp [lstEq, nlLe_none]
 have hat0 : atE tw t = 0 := by rw [hat, if_neg (by omega), if_neg h3]
 have hE0 : lcheckM (a, (to, (se, m))) = 0 := hE.trans (Classical.not_not.1 h4)
 have hb := hR.rest hat0 hE0
 have hch := lchk_ok hE0
 clear hR hat hat0 hE hE0 h4
 refine RLVK.mk hl fun R r hR hr => ?_
 rw [← hR] at hb
 dsimp only at hb
 have hRl : R.length ≤ 16 := by rw [hR]; exact Nat.le_trans (List.length_filter_le _ _) hl
 clear hR
 obtain ⟨u, hu⟩ : ∃ u, u = t + k := ⟨_, rfl⟩
 rw [← hu] at hb
 have hau : ar .add .i64 t k = u := by rw [r1, hu]; exact wrap64 (n := t + k) (by omega) (by omega)
 obtain ⟨fr, hfr⟩ : ∃ fr : LKV, fr = (a, (se, (m, u))) := ⟨_, rfl⟩
 rw [← hfr] at hb
 cbv
 rw [hau]
 obtain ⟨P, hP⟩ : ∃ P, P = putR fr false R := ⟨_, rfl⟩
 rw [← hP] at hb
 obtain ⟨N, hN⟩ : ∃ N : Int, N = R.length := ⟨_, rfl⟩
 have hlR : ic (ln tLock R) = N := by rw [r4, r12, hN]
 refine ⟨⟨⟨⟨⟨nlLe_none.2 trivial, trivial⟩, trivial⟩, trivial⟩, trivial⟩, ?_⟩
 refine LOOP.ind (σ := List LKV × Bool × Int) (fun (O, p, i) => [(0, .ptr 0 0), (1, .p (iv t)), (5, .ptr 1 0), (8, .og 0 tLock R), (9, .ptr 2 0), (10, .og 1 tLock O), (11, .p (.v (.bool p))), (12, .p (iv i))])
   (fun (O, p, i) => ⟨(rtS k tw L).box ++ [{ cells := [.p (iv a), .p (iv to), .p (uv se), .p (iv m)], e := 34, fz := false }, { cells := [.p (iv a), .p (uv se), .p (iv m), .p (iv u)], e := 50, fz := false }], [(r, 50), (ml (ln tLock O) 4, 50)]⟩) (fun (O, p, i) => (N - i).toNat) (fun (O, p, i) => (0 ≤ i ∧ i ≤ N) ∧ O ++ putR fr p (R.drop i.toNat) = P ∧ O.length ≤ 2 * i) ([], false, 0) ⟨by omega, hP.symm, by simp⟩ (.inr ⟨[some 0, some 1, some 2], [some 0, none], ?_⟩) ?_
 · rw [SIM_iff]; cbv; simp [nlLe_self, nlLe_none, lstEq]
 intro ⟨O, p, i⟩ hI X' hX
 dsimp only at hI
 obtain ⟨⟨hI1, hI2⟩, hI3, hI4⟩ := hI
 obtain ⟨⟨v1, v2, v3, v4⟩, hx⟩ : ∃ x : LKV, x = gt tLock R i := ⟨_, rfl⟩
 have q1 : p1 tI (.pair tU (.pair tI tI)) (v1, v2, v3, v4) = v1 := by rw [r21]
 have q2 : p1 tU (.pair tI tI) (p2 tI (.pair tU (.pair tI tI)) (v1, v2, v3, v4)) = v2 := by rw [r21, r22]
 have q3 : p1 tI tI (p2 tU (.pair tI tI) (p2 tI (.pair tU (.pair tI tI)) (v1, v2, v3, v4))) = v3 := by rw [r21, r22]
 have q4 : p2 tI tI (p2 tU (.pair tI tI) (p2 tI (.pair tU (.pair tI tI)) (v1, v2, v3, v4))) = v4 := by rw [r22]
 have hst : i < N → R.drop i.toNat = (v1, v2, v3, v4) :: R.drop (i + 1).toNat := fun h => by rw [hx, r14]; exact gtR_drop (t := tLock) hI1 (by omega)
 have hap : ∀ (O : List LKV) v, ap tLock O [v] = O ++ [v] := fun O v => by rw [r16]
 have hlO : ∀ O : List LKV, ln tLock O = O.length := fun O => by rw [r12]
 have hicO : ∀ O : List LKV, ic (ln tLock O) = (O.length : Int) := fun O => by rw [r4, r12]
 have lim : ∀ (O : List LKV) v, O.length ≤ 40 → LIM (ad (ln tLock O) (ln tLock [v])) 32 := fun O v h => by
   rw [hlO, hlO]
   exact ⟨by rw [r8]; show (O.length + 1) * 32 ≤ _; omega, by rw [r8]; show O.length + 1 ≤ 2 ^ 63 - 1; omega⟩
 have hin : i < N → INB i N := fun h => ⟨hI1, h⟩
 have hadd : i < N → ar .add .i64 i 1 = i + 1 := fun h => by rw [r1]; exact wrap64 (n := i + 1) (by omega) (by omega)
 have hO40 : O.length ≤ 38 := by omega
 have hO39 : ∀ v, (O ++ [v]).length ≤ 40 := fun v => by rw [List.length_append, List.length_singleton]; omega
 have hup : a = v1 → (v3 < m → updR fr (v1, (v2, (v3, v4))) = (a, (se, (m, u)))) ∧ (v3 = m → updR fr (v1, (v2, (v3, v4))) = (v1, (v2, (v3, u)))) ∧ (¬ v3 < m → ¬ v3 = m → updR fr (v1, (v2, (v3, v4))) = (v1, (v2, (v3, v4)))) := fun ha => by
   unfold updR
   rw [hfr]
   refine ⟨fun h => by rw [if_pos h], fun h => by rw [if_neg (by dsimp only; omega), if_pos h], fun h h' => by rw [if_neg h, if_neg h']⟩
 have fin : ∀ (O' : List LKV) q, i < N → O' ++ putR fr q (R.drop (i + 1).toNat) = P → O'.length ≤ 2 * (i + 1) → ∀ ρ st, SIMX 1 0 ρ st [(0, .ptr 0 0), (1, .p (iv t)), (5, .ptr 1 0), (8, .og 0 tLock R), (9, .ptr 2 0), (10, .og 1 tLock O'), (11, .p (.v (.bool q))), (12, .p (iv (i + 1)))] ⟨(rtS k tw L).box ++ [{ cells := [.p (iv a), .p (iv to), .p (uv se), .p (iv m)], e := 34, fz := false }, { cells := [.p (iv a), .p (uv se), .p (iv m), .p (iv u)], e := 50, fz := false }], [(r, 50), (ml (ln tLock O') 4, 50)]⟩ → NEXT X' ρ st := fun O' q hc h1 h2 ρ st h3 =>
   NEXT.mk (hX (O', q, i + 1) ρ st ⟨⟨by show 0 ≤ i + 1; omega, by show i + 1 ≤ N; omega⟩, h1, h2⟩ (by show (N - (i + 1)).toNat < (N - i).toNat; omega) h3)
 have two : ∀ v w : LKV, ((O ++ [v] ++ [w]).length : Int) ≤ 2 * (i + 1) := fun v w => by simp only [List.length_append, List.length_singleton]; omega
 have one : ∀ v : LKV, ((O ++ [v]).length : Int) ≤ 2 * (i + 1) := fun v => by simp only [List.length_append, List.length_singleton]; omega
 have hfr1 : fr.1 = a := by rw [hfr]
 clear hX
 cases p
 · have sA : i < N → v1 > a → (O ++ [(a, (se, (m, u)))] ++ [(v1, (v2, (v3, v4)))]) ++ putR fr true (R.drop (i + 1).toNat) = P := fun h h' => by
     rw [← hI3, hst h, putR, if_pos (by rw [hfr1]; simpa using h'), if_neg (by rw [hfr1]; dsimp only; omega)]
     have e : (false || decide (((v1, (v2, (v3, v4))) : LKV).1 > fr.1)) = true := by rw [hfr1]; simpa using h'
     rw [e, hfr]; simp
   have sB : i < N → ¬ v1 > a → v1 ≠ a → (O ++ [(v1, (v2, (v3, v4)))]) ++ putR fr false (R.drop (i + 1).toNat) = P := fun h h' h2 => by
     rw [← hI3, hst h, putR, if_neg (by rw [hfr1]; simpa using h'), if_neg (by rw [hfr1]; exact h2)]
     have e : (false || decide (((v1, (v2, (v3, v4))) : LKV).1 > fr.1)) = false := by rw [hfr1]; simpa using h'
     rw [e]; simp
   have sC : i < N → v1 = a → (O ++ [updR fr (v1, (v2, (v3, v4)))]) ++ putR fr true (R.drop (i + 1).toNat) = P := fun h h' => by
     rw [← hI3, hst h, putR, if_neg (by rw [hfr1]; simp; omega), if_pos (by rw [hfr1]; exact h')]
     simp
   have sD : ¬ i < N → O ++ [(a, (se, (m, u)))] = P := fun h => by
     rw [← hI3, gtR_end (by omega), putR, hfr]; rfl
   clear hI3 hst hP
   cbv
   try simp only [nc_eq] at *
   rw [hlR, ← hx]
   simp only [q1, q2, q3, q4, hap, hau]
   refine BR.lss r0 (fun hc => ⟨hin hc, hin hc, BR.gtr r0 (fun hg => ⟨⟨rfl⟩, lim _ _ (by omega), hin hc, hin hc, BR.neq r0 (fun hn => ⟨hin hc, hin hc, ⟨rfl⟩, lim _ _ (hO39 _), ?_⟩) (fun h => absurd hg (by omega))⟩) (fun hg => ⟨hin hc, hin hc, BR.neq r0 (fun hn => ⟨hin hc, hin hc, ⟨rfl⟩, lim _ _ (by omega), ?_⟩) (fun hn => ⟨hin hc, hin hc, ?_⟩)⟩)⟩) (fun hc => ⟨⟨rfl⟩, lim _ _ (by omega), ?_⟩)
   · rw [hadd hc]
     exact fin _ _ hc (sA hc hg) (two _ _) _ _ (.inl ⟨rfl, rfl⟩)
   · rw [hadd hc]
     exact fin _ _ hc (sB hc hg hn) (one _) _ _ (.inl ⟨rfl, rfl⟩)
   · have hva : a = v1 := by omega
     obtain ⟨u1, u2, u3⟩ := hup hva
     have sC := sC hc hva.symm
     rw [hadd hc]
     refine BR.lss r0 (fun h5 => BR.eql r0 (fun _ => ⟨⟨rfl⟩, lim _ _ (by omega), ?_⟩) (fun h => absurd rfl h)) (fun h5 => BR.eql r0 (fun h6 => ⟨⟨rfl⟩, lim _ _ (by omega), ?_⟩) (fun h6 => ⟨⟨rfl⟩, lim _ _ (by omega), ?_⟩))
     · rw [u1 h5] at sC
       exact fin _ _ hc sC (one _) _ _ (.inr ⟨[some 0, some 1, some 2], [some 0, some 1], by rw [SIM_iff]; cbv; simp [nlLe_self, nlLe_none, lstEq]⟩)
     · rw [u2 h6] at sC
       exact fin _ _ hc sC (one _) _ _ (.inr ⟨[some 0, some 1, some 2], [some 0, some 1], by rw [SIM_iff]; cbv; simp [nlLe_self, nlLe_none, lstEq]⟩)
     · rw [u3 h5 h6] at sC
       exact fin _ _ hc sC (one _) _ _ (.inr ⟨[some 0, some 1, some 2], [some 0, some 1], by rw [SIM_iff]; cbv; simp [nlLe_self, nlLe_none, lstEq]⟩)
   · have hD := sD hc
     rw [hD, hicO]
     refine BR.gtr r0 (fun h5 => ?_) (fun h5 => ?_)
     · obtain ⟨rfl, rfl, rfl⟩ := hb.1 (by omega)
       refine RET.mk ⟨[some 0], [], ?_⟩
       rw [SIM_iff]; cbv
       simp [lstEq, nlLe_none]
     · obtain ⟨rfl, rfl, rfl⟩ := hb.2 (by omega)
       refine RET.mk ⟨[some 0], [], ?_⟩
       rw [SIM_iff]; cbv
       try simp [lstEq, nlLe_none]
 · have sB : i < N → v1 ≠ a → (O ++ [(v1, (v2, (v3, v4)))]) ++ putR fr true (R.drop (i + 1).toNat) = P := fun h h2 => by
     rw [← hI3, hst h, putR, if_neg (by simp), if_neg (by rw [hfr1]; exact h2)]
     simp
   have sC : i < N → v1 = a → (O ++ [updR fr (v1, (v2, (v3, v4)))]) ++ putR fr true (R.drop (i + 1).toNat) = P := fun h h' => by
     rw [← hI3, hst h, putR, if_neg (by simp), if_pos (by rw [hfr1]; exact h')]
     simp
   have sD : ¬ i < N → O = P := fun h => by
     rw [← hI3, gtR_end (by omega), putR]; simp
   clear hI3 hst hP
   cbv
   try simp only [nc_eq] at *
   rw [hlR, ← hx]
   simp only [q1, q2, q3, q4, hap, hau]
   refine BR.lss r0 (fun hc => ⟨hin hc, hin hc, BR.neq r0 (fun hn => ⟨hin hc, hin hc, ⟨rfl⟩, lim _ _ (by omega), ?_⟩) (fun hn => ⟨hin hc, hin hc, ?_⟩)⟩) (fun hc => ?_)
   · rw [hadd hc]
     exact fin _ _ hc (sB hc hn) (one _) _ _ (.inl ⟨rfl, rfl⟩)
   · have hva : a = v1 := by omega
     obtain ⟨u1, u2, u3⟩ := hup hva
     have sC := sC hc hva.symm
     rw [hadd hc]
     refine BR.lss r0 (fun h5 => BR.eql r0 (fun _ => ⟨⟨rfl⟩, lim _ _ (by omega), ?_⟩) (fun h => absurd rfl h)) (fun h5 => BR.eql r0 (fun h6 => ⟨⟨rfl⟩, lim _ _ (by omega), ?_⟩) (fun h6 => ⟨⟨rfl⟩, lim _ _ (by omega), ?_⟩))
     · rw [u1 h5] at sC
       exact fin _ _ hc sC (one _) _ _ (.inr ⟨[some 0, some 1, some 2], [some 0, some 1], by rw [SIM_iff]; cbv; simp [nlLe_self, nlLe_none, lstEq]⟩)
     · rw [u2 h6] at sC
       exact fin _ _ hc sC (one _) _ _ (.inr ⟨[some 0, some 1, some 2], [some 0, some 1], by rw [SIM_iff]; cbv; simp [nlLe_self, nlLe_none, lstEq]⟩)
     · rw [u3 h5 h6] at sC
       exact fin _ _ hc sC (one _) _ _ (.inr ⟨[some 0, some 1, some 2], [some 0, some 1], by rw [SIM_iff]; cbv; simp [nlLe_self, nlLe_none, lstEq]⟩)
   · obtain rfl := sD hc
     rw [hicO]
     refine BR.gtr r0 (fun h5 => ?_) (fun h5 => ?_)
     · obtain ⟨rfl, rfl, rfl⟩ := hb.1 (by omega)
       refine RET.mk ⟨[some 0], [], ?_⟩
       rw [SIM_iff]; cbv
       simp [lstEq, nlLe_none]
     · obtain ⟨rfl, rfl, rfl⟩ := hb.2 (by omega)
       refine RET.mk ⟨[some 0], [], ?_⟩
       rw [SIM_iff]; cbv
       try simp [lstEq, nlLe_none]
end Go.Ab
