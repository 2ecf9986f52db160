/- The table's methods: Tick, Sense, Locks. -/
import Derived.Test.YtbjehpjlpckbfaaLo
set_option linter.unusedSimpArgs false
set_option linter.unusedVariables false
set_option maxRecDepth 20000
set_option maxHeartbeats 8000000
namespace Go.Ab
open Go.Proofs
inductive TICKR (tw : Int) (l : LE) (t : Int) : Int → Int → LE → Prop
 | at (h : atE tw t ≠ 0) : TICKR tw l t (atE tw t) tw l
 | ok (h : atE tw t = 0) : TICKR tw l t 0 t (liveL t l)
section
variable {tw : Int} {l : LE} {t : Int} {e tw' : Int} {l' : LE} (h : TICKR tw l t e tw' l')
include h
theorem TICKR.bad (h1 : atE tw t ≠ 0) : e = atE tw t ∧ tw' = tw ∧ l' = l := by
 cases h with
 | «at» => exact ⟨rfl, rfl, rfl⟩
 | ok h => exact absurd h h1
theorem TICKR.good (h1 : atE tw t = 0) : e = 0 ∧ tw' = t ∧ l' = liveL t l := by
 cases h with
 | «at» h => exact absurd h1 h
 | ok h => exact ⟨rfl, rfl, rfl⟩
end
theorem cTick (k tw c : Int) (n : Nat) (l : LE) (t : Int) (e tw' : Int) (n' : Nat) (l' : LE) (hR : TICKR tw l t e tw' l') (hn' : n' = l'.length) (hok : MOK l c) (hc0 : 0 ≤ c) (hn : l.length = n) (hn2 : n ≤ 16) (htw : 0 ≤ tw) : FnS Try.prog 16 ([.ptr 0 0, .p (iv t)]) (tabS k tw c n l ) fun x_ s_ => x_ = (.p (iv e)) ∧ s_ = (tabE k tw' c n' l') := by
 refine FnS.of (S := []) (T := [(67, _), (68, _)]) (U := []) (tbl := [(39, ac39 none, [.tmp 6], 50), (43, ac43 none, [.tmp 2], 3), (59, ac59 none, [.tmp 4], 15)]) (n := 11) hm32 cfg .nil (.cons tClone (.cons tDel .nil)) .nil (.cons Try.call39 Try.func39 (ac39_ok none) (by rw [Try.ntmps39]; exact Nat.le_refl _) (.cons Try.call43 Try.func43 (ac43_ok none) (by rw [Try.ntmps43]; exact Nat.le_refl _) (.cons Try.call59 Try.func59 (ac59_ok none) (by rw [Try.ntmps59]; exact Nat.le_refl _) .nil))) 6 Try.call16 Try.func16 (ac16_ok (some (2, 0))) (by rw [Try.ntmps16]; exact Nat.le_refl _) rfl _ _ _ (by rfl) ?_
 intro cmp ar cv tn ic ai mx an ad ml sb mn ln em gt up ap sc vw cp rp p1 p2 s1 s2 X Y hX hY r0 r1 r2 r3 r4 r5 r6 r7 r8 r9 r10 r11 r12 r13 r14 r15 r16 r17 r18 r19 r20 r21 r22 r23 r24
 cbv
 have hat : atE tw t = if t < 0 ∨ t > 1099511627776 then 1 else if t < tw then 12 else 0 := rfl
 have stay : ∀ x, e = x → tw' = tw ∧ l' = l → n' = n ∧ tw = tw' ∧ l = l' ∧ x = e := fun x h1 h2 => by
   obtain ⟨rfl, rfl⟩ := h2
   exact ⟨by rw [hn', hn], rfl, rfl, h1.symm⟩
 refine BR.lss r0 (fun h1 => ?_) (fun h1 => BR.gtr r0 (fun h2 => ?_) fun h2 => BR.lss r0 (fun h3 => ?_) fun h3 => ?_)
 · have hb := hR.bad (by rw [hat, if_pos (.inl h1)]; decide)
   rw [hat, if_pos (.inl h1)] at hb
   obtain ⟨rfl, rfl, rfl, rfl⟩ := stay _ hb.1 hb.2
   refine RET.mk ⟨[some 0, none, some 1], [], ?_⟩
   rw [SIM_iff]; cbv
   try simp [lstEq]
 · have hb := hR.bad (by rw [hat, if_pos (.inr h2)]; decide)
   rw [hat, if_pos (.inr h2)] at hb
   obtain ⟨rfl, rfl, rfl, rfl⟩ := stay _ hb.1 hb.2
   refine RET.mk ⟨[some 0, none, some 1], [], ?_⟩
   rw [SIM_iff]; cbv
   try simp [lstEq]
 · have hb := hR.bad (by rw [hat, if_neg (by omega), if_pos h3]; decide)
   rw [hat, if_neg (by omega), if_pos h3] at hb
   obtain ⟨rfl, rfl, rfl, rfl⟩ := stay _ hb.1 hb.2
   refine RET.mk ⟨[some 0, none, some 1], [], ?_⟩
   rw [SIM_iff]; cbv
   try simp [lstEq]
 have hat0 : atE tw t = 0 := by rw [hat, if_neg (by omega), if_neg h3]
 obtain ⟨he', ht', hl'⟩ := hR.good hat0
 clear hR stay hat hat0
 subst he'
 replace ht' := ht'.symm
 subst ht'
 refine DELK.mk hok hc0 hn (by omega) fun L nL hL hnL => ?_
 rw [← hL] at hl'
 clear hL
 subst hl'
 obtain rfl : n' = nL := by rw [hn', hnL]
 cbv
 refine BR.nn r0 ?_
 refine RET.mk ⟨[some 0, none, some 3], [], ?_⟩
 rw [SIM_iff]; cbv
 try simp [lstEq]
def SENS (l : LE) (a x : Int) : Prop := (∃ v b, MHas l a v b ∧ x = v.2.1) ∨ (MNot l a ∧ x = 0)
end Go.Ab
