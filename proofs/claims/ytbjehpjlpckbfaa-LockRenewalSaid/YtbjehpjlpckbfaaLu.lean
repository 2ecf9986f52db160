/- LockRenewal. -/
import Derived.Test.YtbjehpjlpckbfaaLt
set_option linter.unusedSimpArgs false
set_option linter.unusedVariables false
set_option maxRecDepth 20000
set_option maxHeartbeats 8000000
namespace Go.Ab
open Go.Proofs
def RN (k w : Int) (l : LE) : Prop := ∃ b, l = [(7, ((7 : Int), ((1 : Int), ((8 : Int), w + k))), b)]
theorem atE_ok {w t : Int} (h0 : 0 ≤ t) (h1 : t ≤ 1099511627776) (h2 : w ≤ t) : atE w t = 0 := by unfold atE; rw [if_neg (by omega), if_neg (by omega)]
theorem RN.first {k e w' c' : Int} {l' : LE} (hR : SETR k 0 0 [] 0 (7, (9, (1, 8))) e w' l' c') : e = 0 ∧ w' = 0 ∧ RN k 0 l' ∧ TAB c' l'.length l' := by
  obtain ⟨h1, h2, hS⟩ := hR.good (atE_ok (by omega) (by omega) (by omega)) (by decide) (by simp [liveL])
  refine ⟨h1, h2, ?_, TAB.empty.set hR (by decide)⟩
  rcases hS.no (fun e he => by cases he) with ⟨l1, v0, b, l2, e, _⟩ | ⟨_, rfl, rfl⟩
  · simp [liveL] at e
  · exact ⟨0, rfl⟩
theorem RN.live {k w t : Int} {l : LE} (h : RN k w l) (ht : t ≤ w + k) : liveL t l = l := by
  obtain ⟨b, rfl⟩ := h
  have : deadB t ((7 : Int), ((1 : Int), ((8 : Int), w + k))) = false := decide_eq_false (by show ¬ w + k < t; omega)
  simp [liveL, this]
theorem RN.over {k w t : Int} {l : LE} (h : RN k w l) (ht : w + k < t) : liveL t l = [] := by
  obtain ⟨b, rfl⟩ := h
  have : deadB t ((7 : Int), ((1 : Int), ((8 : Int), w + k))) = true := decide_eq_true (by show w + k < t; omega)
  simp [liveL, this]
theorem RN.step {k w t c : Int} {n : Nat} {l : LE} {e w' c' : Int} {l' : LE} (h : RN k w l) (hT : TAB c n l) (h0 : 0 ≤ w) (h1 : w ≤ t) (h2 : t ≤ w + k) (h3 : t ≤ 1099511627776) (hR : SETR k w c l t (7, (9, (2, 8))) e w' l' c') :
    e = 0 ∧ w' = t ∧ RN k t l' ∧ TAB c' l'.length l' := by
  have hl := h.live h2
  have hT' := hT.set hR (by decide)
  obtain ⟨b, rfl⟩ := h
  obtain ⟨h1, h2, hS⟩ := hR.good (atE_ok (by omega) h3 h1) (by decide) (by rw [hl]; simp)
  rw [hl] at hS
  refine ⟨h1, h2, ?_, hT'⟩
  have hh : MHas [((7 : Int), ((7 : Int), ((1 : Int), ((8 : Int), w + k))), b)] 7 ((7 : Int), ((1 : Int), ((8 : Int), w + k))) b := ⟨[], [], rfl, fun e he => by cases he⟩
  have hp := hS.le hT.ok hh (by show (8 : Int) ≤ 8; decide)
  rcases hp with ⟨l1, v0, b', l2, e, h1, rfl, rfl⟩ | ⟨hn, _⟩
  · cases l1 with
    | nil =>
      simp only [List.nil_append, List.cons.injEq] at e
      obtain ⟨e1, rfl⟩ := e
      exact ⟨b', rfl⟩
    | cons x l1 => simp at e
  · exact absurd rfl (hn _ (List.mem_singleton.2 rfl))
theorem RN.sense {k w x : Int} {l : LE} (h : RN k w l) (hs : SENS l 7 x) : x = 1 := by
  obtain ⟨b, rfl⟩ := h
  rcases hs with ⟨v, b', ⟨l1, l2, e, _⟩, rfl⟩ | ⟨hn, _⟩
  · cases l1 with
    | nil =>
      simp only [List.nil_append, List.cons.injEq] at e
      obtain ⟨e1, _⟩ := e
      simp only [Prod.mk.injEq] at e1
      rw [← e1.2.1]
    | cons y l1 => simp at e
  · exact absurd rfl (hn _ (List.mem_singleton.2 rfl))
theorem SENS.none {a x : Int} (hs : SENS [] a x) : x = 0 := by
  rcases hs with ⟨v, b', ⟨l1, l2, e, _⟩, _⟩ | ⟨_, h⟩
  · simp at e
  · exact h
theorem locksL_nil : locksL [] = [] := by unfold locksL keysQ; simp
theorem TICKR.tab {tw c : Int} {n : Nat} {l : LE} {t e tw' : Int} {l' : LE} (h : TAB c n l) (hR : TICKR tw l t e tw' l') : TAB c l'.length l' := by
  cases hR with
  | «at» => rw [h.nl]; exact h
  | ok => exact h.live t
theorem lawRenewal (keep : Int) (ng : Option Bool) (gaps : List Int) (last : Int) (hk : 0 ≤ keep ∧ keep < 256) (hg : ∀ x ∈ gaps, 0 ≤ x ∧ x < 256) (hl : 0 ≤ last ∧ last < 256) (hgl : gaps.length ≤ maxLen) : PurS Try.prog 8 [injT tU keep, injT (.sl tU) (ng, gaps), injT tU last] (.sb true) := by
  refine PurS.of (S := [(11, _)]) (T := [(12, _), (14, _), (16, _), (23, _), (18, _)]) (U := []) (tbl := [(37, ac37 none, [.cell 4 (some 4)], 8)]) (n := 97) hm32 cfg (.cons (spT0.ok cAwake) .nil) (.cons tNew (.cons tSet (.cons tTick (.cons tSense (.cons tLocks .nil))))) .nil (.cons Try.call37 Try.func37 (ac37_ok none) (by rw [Try.ntmps37]; exact Nat.le_refl _) .nil) 6 Try.call8 Try.func8 (ac8_ok (some (0, 0))) (by rw [Try.ntmps8]; exact Nat.le_refl _) rfl ⟨_, rfl⟩ ?_
  intro cmp ar cv tn ic ai mx an ad ml sb mn ln em gt up ap sc vw cp rp p1 p2 s1 s2 X Y hX hY r0 r1 r2 r3 r4 r5 r6 r7 r8 r9 r10 r11 r12 r13 r14 r15 r16 r17 r18 r19 r20 r21 r22 r23 r24
  cbv
  simp only [maxLen] at hgl
  obtain ⟨k, hkk⟩ : ∃ k, k = ar .add .i64 1 (ar .rem .i64 (cv .i64 keep) 60) := ⟨_, rfl⟩
  have hkv : 1 ≤ k ∧ k ≤ 60 := by
    rw [hkk, r1, r2]
    show 1 ≤ IntKind.wrap .i64 (1 + Int.tmod (IntKind.wrap .i64 keep) 60) ∧ _
    rw [wrap64 (n := keep) (by omega) (by omega), Int.tmod_eq_emod_of_nonneg (by omega), wrap64 (n := 1 + keep % 60) (by omega) (by omega)]
    constructor
    · omega
    · show IntKind.wrap .i64 (1 + Int.tmod (IntKind.wrap .i64 keep) 60) ≤ 60
      rw [wrap64 (n := keep) (by omega) (by omega), Int.tmod_eq_emod_of_nonneg (by omega), wrap64 (n := 1 + keep % 60) (by omega) (by omega)]; omega
  have hcl : cv .i64 last = last := by rw [r2]; exact wrap64 (by omega) (by omega)
  rw [← hkk]
  clear hkk
  refine ⟨⟨by decide⟩, NEWK.mk (fun _ => ?_) (fun h => absurd hkv h)⟩
  refine BR.nn r0 (SETK.mk TAB.empty hkv (by omega) fun e w1 c1 n1 l1 hR hn1 => ?_)
  obtain ⟨rfl, rfl, hRN, hT1⟩ := RN.first hR
  rw [← hn1] at hT1
  clear hR hn1
  have hlg : ic (ln tU gaps) = gaps.length := by rw [r4, r12]
  obtain ⟨N, hN⟩ : ∃ N : Int, N = gaps.length := ⟨_, rfl⟩
  rw [← hN] at hlg
  have hNb : N ≤ 9223372036854775807 := by omega
  have hN0 : 0 ≤ N := by omega
  have hgN : ∀ i : Int, 0 ≤ i → i < N → 0 ≤ (gtR tU gaps i : Int) ∧ (gtR tU gaps i : Int) < 256 := fun i h0 h1 => hg _ (gtR_mem (t := tU) h0 (by omega))
  cbv
  refine BR.nn r0 ?_
  refine LOOP.ind (σ := Int × Int × Int × Nat × LE) (fun (i, w, c, n, l) => [(1, .tl ng tU gaps), (2, .p (uv last)), (7, .p (iv k)), (8, .ptr 0 0), (10, .p (iv w)), (11, .p (iv i))]) (fun (i, w, c, n, l) => tabS k w c n l) (fun (i, w, c, n, l) => (20 - i).toNat)
    (fun (i, w, c, n, l) => (0 ≤ i ∧ i ≤ 20 ∧ i ≤ N) ∧ (0 ≤ w ∧ w ≤ 60 * i) ∧ TAB c n l ∧ RN k w l) (0, 0, c1, n1, l1) ⟨⟨by omega, by omega, hN0⟩, by omega, hT1, hRN⟩ (.inr ⟨[some 0, some 3], [], ?_⟩) ?_
  · rw [SIM_iff]; cbv
    exact ⟨⟨nlLe_self.2 trivial, trivial⟩, trivial⟩
  clear hT1 hRN
  intro ⟨i, w, c, n, l⟩ hI X' hX
  dsimp only at hI
  obtain ⟨⟨hI1, hI2, hI3⟩, ⟨hw0, hw1⟩, hT, hO⟩ := hI
  obtain ⟨x, hx⟩ : ∃ x : Int, x = gt tU gaps i := ⟨_, rfl⟩
  have hxb : i < N → 0 ≤ x ∧ x < 256 := fun h => by rw [hx, r14]; exact hgN i hI1 h
  obtain ⟨t, ht⟩ : ∃ t, t = ar .add .i64 w (ar .rem .i64 (cv .i64 x) (ar .add .i64 k 1)) := ⟨_, rfl⟩
  have htv : i < N → w ≤ t ∧ t ≤ w + k := fun h => by
    have := hxb h
    have h1 : 0 ≤ x % (k + 1) := Int.emod_nonneg _ (by omega)
    have h2 : x % (k + 1) < k + 1 := Int.emod_lt_of_pos _ (by omega)
    have e : t = w + x % (k + 1) := by
      rw [ht, r1, r2]
      show IntKind.wrap .i64 (w + Int.tmod (IntKind.wrap .i64 x) (IntKind.wrap .i64 (k + 1))) = _
      rw [wrap64 (n := x) (by omega) (by omega), wrap64 (n := k + 1) (by omega) (by omega), Int.tmod_eq_emod_of_nonneg (by omega), wrap64 (by omega) (by omega)]
    omega
  have hk1 : ar .add .i64 k 1 ≠ 0 := by rw [r1]; simp only [arR]; rw [wrap64 (n := k + 1) (by omega) (by omega)]; omega
  have hadd : i < N → i < 20 → ar .add .i64 i 1 = i + 1 := fun h h' => by rw [r1]; exact wrap64 (n := i + 1) (by omega) (by omega)
  have hat0 : ∀ t, w ≤ t → t ≤ 100000 → atE w t = 0 := fun t h1 h2 => atE_ok (by omega) (by omega) h1
  obtain ⟨u, hu⟩ : ∃ u, u = w + k := ⟨_, rfl⟩
  obtain ⟨z, hz⟩ : ∃ z, z = u + 1 + last := ⟨_, rfl⟩
  have ha1 : ar .add .i64 w k = u := by rw [r1, hu]; exact wrap64 (n := w + k) (by omega) (by omega)
  have ha2 : ar .add .i64 (ar .add .i64 u 1) last = z := by
    rw [r1, hz]; simp only [arR]; rw [wrap64 (n := u + 1) (by omega) (by omega), wrap64 (by omega) (by omega)]
  have hat1 : atE u z = 0 := atE_ok (by omega) (by omega) (by omega)
  have hu0 : 0 ≤ u := by omega
  have hlN : ic (ln tLock []) = 0 := by rw [r4, r12]; rfl
  cbv
  try simp only [nc_eq] at *
  rw [hlg, ← hx, ← ht]
  refine BR.lss r0 (fun h1 => BR.lss r0 (fun h2 => ?_) (fun h2 => ?_)) (fun h1 => ?_)
  · have htb := htv h1
    refine ⟨⟨hI1, h1⟩, ⟨hI1, h1⟩, ⟨hk1⟩, SETK.mk hT hkv hw0 fun e w' c' n' l' hR hn' => ?_⟩
    obtain ⟨he, hw', hO', hT'⟩ := hO.step hT hw0 htb.1 htb.2 (by omega) hR
    rw [← hn'] at hT'
    subst he
    replace hw' := hw'.symm
    subst hw'
    clear hR hn'
    cbv
    refine BR.nn r0 (SENK.mk hT' fun s hs => ?_)
    obtain rfl := hO'.sense hs
    cbv
    refine BR.nn r0 ?_
    rw [hadd h1 h2]
    refine NEXT.mk (hX (i + 1, t, c', n', l') _ _ ⟨⟨by show 0 ≤ i + 1; omega, by show i + 1 ≤ 20; omega, by show i + 1 ≤ N; omega⟩, ⟨by show 0 ≤ t; omega, by show t ≤ 60 * (i + 1); omega⟩, hT', hO'⟩ (by show (20 - (i + 1)).toNat < (20 - i).toNat; omega) (.inr ⟨[some 0, some 3], [], ?_⟩))
    rw [SIM_iff]; cbv
    exact ⟨⟨nlLe_self.2 trivial, trivial⟩, trivial⟩
  · rw [ha1]
    refine TICKK.mk hT hw0 fun e w2 n2 l2 hR hn2 => ?_
    obtain ⟨he, hw2, hl2⟩ := hR.good (hat0 _ (by omega) (by omega))
    rw [hO.live (by omega)] at hl2
    have hT2 := hR.tab hT
    rw [← hn2] at hT2
    subst he hw2 hl2
    clear hR hn2
    cbv
    refine BR.nn r0 (SENK.mk hT2 fun s2 hs2 => ?_)
    obtain rfl := hO.sense hs2
    cbv
    refine BR.nn r0 ?_
    rw [ha1, hcl, ha2]
    refine TICKK.mk hT2 hu0 fun e w3 n3 l3 hR hn3 => ?_
    obtain ⟨he, hw3, hl3⟩ := hR.good hat1
    rw [hO.over (by omega)] at hl3
    have hT3 := hR.tab hT2
    rw [← hn3] at hT3
    subst he hw3 hl3
    clear hR hn3
    cbv
    refine BR.nn r0 (SENK.mk hT3 fun s3 hs3 => ?_)
    obtain rfl := hs3.none
    cbv
    refine BR.eql r0 (fun _ => LOKK.mk hT3 fun R r hRR hrr => ?_) (fun h => absurd rfl h)
    rw [locksL_nil] at hRR
    subst hRR
    cbv
    exact BR.eql r0 (fun _ => trivial) (fun h => absurd hlN h)
  · rw [ha1]
    refine TICKK.mk hT hw0 fun e w2 n2 l2 hR hn2 => ?_
    obtain ⟨he, hw2, hl2⟩ := hR.good (hat0 _ (by omega) (by omega))
    rw [hO.live (by omega)] at hl2
    have hT2 := hR.tab hT
    rw [← hn2] at hT2
    subst he hw2 hl2
    clear hR hn2
    cbv
    refine BR.nn r0 (SENK.mk hT2 fun s2 hs2 => ?_)
    obtain rfl := hO.sense hs2
    cbv
    refine BR.nn r0 ?_
    rw [ha1, hcl, ha2]
    refine TICKK.mk hT2 hu0 fun e w3 n3 l3 hR hn3 => ?_
    obtain ⟨he, hw3, hl3⟩ := hR.good hat1
    rw [hO.over (by omega)] at hl3
    have hT3 := hR.tab hT2
    rw [← hn3] at hT3
    subst he hw3 hl3
    clear hR hn3
    cbv
    refine BR.nn r0 (SENK.mk hT3 fun s3 hs3 => ?_)
    obtain rfl := hs3.none
    cbv
    refine BR.eql r0 (fun _ => LOKK.mk hT3 fun R r hRR hrr => ?_) (fun h => absurd rfl h)
    rw [locksL_nil] at hRR
    subst hRR
    cbv
    exact BR.eql r0 (fun _ => trivial) (fun h => absurd hlN h)
theorem renewal_typed : ∀ xs, TyVs Try.prog [5, 53, 5] xs → PurFn Try.prog 8 (xs.map .p) (.v (.bool true)) := law3 (P := Try.prog) (f := 8) (t1 := 5) (t2 := 53) (t3 := 5) (T1 := tU) (T2 := .sl tU) (T3 := tU) (by kernel_rfl) fun k g l hk hg hl => lawRenewal k g.1 g.2 l (wf_u8 hk) (fun x hx => wf_u8 (hg.2.2 x hx)) (wf_u8 hl) hg.1
end Go.Ab
