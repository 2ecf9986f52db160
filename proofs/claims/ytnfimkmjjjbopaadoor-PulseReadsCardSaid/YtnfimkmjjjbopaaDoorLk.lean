/- Long, PulseMerges. -/
import Derived.Test.YtnfimkmjjjbopaaDoorLq
import Derived.Test.YtnfimkmjjjbopaaDoorLj
set_option linter.unusedSimpArgs false
set_option linter.unusedVariables false
set_option maxRecDepth 20000
set_option maxHeartbeats 4000000
namespace Go.Ab
open Go.Proofs
def lonB : List TL → Bool
  | [] => false
  | t :: l => decide (t.2.length > 1100) || lonB l
def longB (l : List TL) : Bool := decide (l.length > 12) || lonB l
theorem cLong (nl : Option Bool) (l : List TL) : PurS Tryd.prog 9 [injT (.sl tTr) (nl, l)] (.sb (longB l)) := by
  refine PurS.of (S := []) (T := []) (tbl := []) (n := 19) hmD cfg .nil .nil .nil 0 Tryd.call9 Tryd.func9 (ac9_ok (some (0, 0))) (by rw [Tryd.ntmps9]; exact Nat.le_refl _) rfl ⟨_, rfl⟩ ?_
  intro cmp ar cv tn ic ai mx an ad ml sb mn ln em gt up ap sc vw cp rp p1 p2 s1 s2 X Y hX hY r0 r1 r2 r3 r4 r5 r6 r7 r8 r9 r10 r11 r12 r13 r14 r15 r16 r17 r18 r19 r20 r21 r22 r23 r24
  generalize hg0 : longB = g0
  cbv
  have hE : longB l = (decide (l.length > 12) || lonB l) := rfl
  rw [hg0] at hE
  refine BR.mk (fun hc => ?_) fun hc => ?_
  · subst_vars
    simp only [Short_iff, cmpR, arR, mxR, INB_iff, SLB_iff, SLM_iff, NZ_iff, NN_iff, EQN_iff, LEN_iff, LIM_iff, MK_iff, decide_eq_true_eq, decide_eq_false_iff_not, ne_eq, Bool.and_eq_true, nc_eq] at *
    grind
  have hl : l.length ≤ 12 := by
    rw [r0, r4, r12] at hc
    have h2 : ¬ (12 : Int) < l.length := by simpa [cmpR] using hc
    omega
  refine LOOP.ind (σ := Int) (fun i => [(0, .tl nl tTr l), (3, .p (iv i))]) (fun _ => ⟨[], []⟩) (fun i => (l.length - i).toNat) (fun i => 0 ≤ i ∧ i ≤ l.length ∧ lonB (l.drop i.toNat) = lonB l) 0 (by simp) (.inl ⟨rfl, rfl⟩) ?_
  intro i hI X' hX
  obtain ⟨a, ha⟩ : ∃ a, a = s2 tI (gt tTr l i) := ⟨_, rfl⟩
  have hd := gtR_drop (t := tTr) (l := l) (i := i) hI.1
  have he := gtR_end (l := l) (i := i)
  have hst : i < l.length → lonB (l.drop i.toNat) = (decide (a.length > 1100) || lonB (l.drop (i + 1).toNat)) := fun h => by rw [hd h, ha, r14, r24]; rfl
  have h0 : lonB [] = false := rfl
  cbv
  rw [← ha]
  clear ha hd
  repeat' (first | exact True.intro | refine And.intro ?_ ?_ | (refine BR.mk ?_ ?_ <;> intro _) | (refine CASE.mk ?_; intro _) | refine NEXT.mk (hX _ _ _ ?_ ?_ (.inl ⟨rfl, rfl⟩)))
  all_goals clear hX
  all_goals subst_vars
  all_goals try simp only [Short_iff, cmpR, arR, mxR, INB_iff, SLB_iff, SLM_iff, NZ_iff, NN_iff, EQN_iff, LEN_iff, LIM_iff, MK_iff, decide_eq_true_eq, decide_eq_false_iff_not, ne_eq, Bool.and_eq_true] at *
  all_goals try dsimp only [Ty.den] at *
  all_goals try simp only [nc_eq] at *
  all_goals try (simp (disch := omega) only [wrap64] at *)
  all_goals grind
theorem slP_len {p : Int → Bool} : ∀ {m : Nat}, (slP p m).length ≤ m
  | 0 => Nat.le_refl _
  | m + 1 => by
    have := slP_len (p := p) (m := m)
    rw [slP]; split <;> simp <;> omega
theorem mrgT_len {l : List TL} : (mrgT l).length ≤ 1024 := by
  by_cases h : mrgE l = 0
  · rw [mrgT_eq h]; exact slP_len
  · rw [mrgT_bad h]; simp
theorem shiT_len {t : List Int} {n : Int} : (shiT t n).length ≤ t.length := by
  by_cases h : shiE t n = 0
  · rw [shiT_ok h]; simp
  · rw [shiT_bad h]; simp
theorem MRG.of {l : List TL} (h : l.length ≤ 2000) (h1 : ∀ t ∈ l, t.2.length ≤ 1500) : MRG l := ⟨by
  simp only [mrgB, Bool.and_eq_true, Bool.or_eq_true, Nat.ble_eq, List.all_eq_true]
  exact ⟨h, .inr h1⟩⟩
theorem cMerges (na : Option Bool) (a : List Int) (nb : Option Bool) (b : List Int) (nc : Option Bool) (c : List Int) (n : Int) : PurS Tryd.prog 6 [injT (.sl tI) (na, a), injT (.sl tI) (nb, b), injT (.sl tI) (nc, c), injT tI n] (.sb true) := by
  refine PurS.of (S := [(10, _), (9, _), (15, _), (20, _), (29, _)]) (T := []) (tbl := [(17, ac17 none, [.tmp 4], 8)]) (n := 198) hmD cfg (.cons (spT0.ok cAwakeT) (.cons (spT1.ok (a := (.sl (.sl (.int .i64)))) (pre := fun _ => True) fun x0 _ => cLong x0.1 x0.2) (.cons (spT1.ok (a := (.sl (.sl (.int .i64)))) fun x0 h => cMergeT x0.1 x0.2 h) (.cons (spT2.ok (a := (.sl (.int .i64))) (b := (.int .i64)) fun x0 x1 h => cShiftT x0.1 x0.2 x1 h) (.cons (spT2.ok (a := (.sl (.int .i64))) (b := (.sl (.int .i64))) fun x0 x1 h => cEqI x0.1 x0.2 x1.1 x1.2 h) .nil))))) .nil (.cons Tryd.call17 Tryd.func17 (ac17_ok none) (by rw [Tryd.ntmps17]; exact Nat.le_refl _) .nil) 6 Tryd.call6 Tryd.func6 (ac6_ok (some (0, 0))) (by rw [Tryd.ntmps6]; exact Nat.le_refl _) rfl ⟨_, rfl⟩ ?_
  intro cmp ar cv tn ic ai mx an ad ml sb mn ln em gt up ap sc vw cp rp p1 p2 s1 s2 X Y hX hY r0 r1 r2 r3 r4 r5 r6 r7 r8 r9 r10 r11 r12 r13 r14 r15 r16 r17 r18 r19 r20 r21 r22 r23 r24
  generalize hg0 : mrgT = g0
  generalize hg1 : mrgE = g1
  generalize hg2 : shiT = g2
  generalize hg3 : shiE = g3
  generalize hg4 : eqI = g4
  generalize hg5 : longB = g5
  cbv
  have hlen : longB [(na, a), (nb, b), (nc, c)] = false → a.length ≤ 1100 ∧ b.length ≤ 1100 ∧ c.length ≤ 1100 := fun h => by
    simp [longB, lonB] at h; exact h
  have f1 := mrg_flip (na := na) (nb := nb) (a := a) (b := b)
  have f2 := mrg_idem (nx := none) (na := na) (nb := nb) (a := a) (b := b)
  have f3 : mrgE [(na, a), (nb, b)] = 0 → mrgE [(na, a)] = 0 ∧ mrgT [(na, a)] = a := fun h => mrg_same (mrg2.1 h).1
  have f4 := mrg_shiE (na := na) (nb := nb) (a := a) (b := b) (n := n)
  have f5 := mrg_shiT (nx := none) (nc := none) (na := na) (nb := nb) (a := a) (b := b) (n := n)
  have f6 := mrg_assoc (n1 := none) (n2 := none) (na := na) (nb := nb) (nc := nc) (a := a) (b := b) (c := c)
  have f7 : mrgE [(na, a), (nb, b)] ≠ 0 → mrgT [(na, a), (nb, b)] = [] := mrgT_bad
  have f8 : ∀ x y : List Int, eqI x y = decide (x = y) := fun _ _ => rfl
  subst hg0 hg1 hg2 hg3 hg4 hg5
  dsimp only
  repeat' (first | exact True.intro | refine And.intro ?_ ?_ | (refine BR.nn r0 ?_) | (refine BR.lss r0 ?_ ?_ <;> intro _) | (refine BR.neq r0 ?_ ?_ <;> intro _) | (refine BR.eql r0 ?_ ?_ <;> intro _) | (refine BR.leq r0 ?_ ?_ <;> intro _) | (refine BR.gtr r0 ?_ ?_ <;> intro _) | (refine BR.geq r0 ?_ ?_ <;> intro _) | (refine BR.mk ?_ ?_ <;> intro _) | (refine CASE.mk ?_; intro _))
  all_goals clear hX hY
  all_goals first
    | exact ⟨by simp⟩
    | exact ⟨Nat.le_trans mrgT_len (by omega)⟩
    | exact ⟨by have := hlen ‹_›; omega⟩
    | (refine MRG.of (by simp) ?_; have := hlen ‹_›; have m1 := mrgT_len (l := [(na, a), (nb, b)]); have m2 := mrgT_len (l := [(nb, b), (nc, c)]); have m3 := shiT_len (t := a) (n := n); have m4 := shiT_len (t := b) (n := n); simp; omega)
    | (subst_vars; simp only [Short_iff, cmpR, arR, mxR, INB_iff, SLB_iff, SLM_iff, NZ_iff, NN_iff, EQN_iff, LEN_iff, LIM_iff, MK_iff, decide_eq_true_eq, decide_eq_false_iff_not, ne_eq, Bool.and_eq_true, cmpR] at *; grind)
theorem merges_typed : ∀ xs, TyVs Tryd.prog [30, 30, 30, 3] xs → PurFn Tryd.prog 6 (xs.map .p) (.v (.bool true)) := law4 (P := Tryd.prog) (f := 6) (t1 := 30) (t2 := 30) (t3 := 30) (t4 := 3) (T1 := .sl tI) (T2 := .sl tI) (T3 := .sl tI) (T4 := tI) (by kernel_rfl) fun a b c d _ _ _ _ => cMerges a.1 a.2 b.1 b.2 c.1 c.2 d
end Go.Ab

