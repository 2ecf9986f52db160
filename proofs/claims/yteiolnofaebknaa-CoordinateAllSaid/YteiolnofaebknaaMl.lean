/- CoordinateAll. -/
import Derived.Test.YteiolnofaebknaaMh
set_option linter.unusedSimpArgs false
set_option linter.unusedVariables false
set_option maxRecDepth 20000
set_option maxHeartbeats 4000000
namespace Go.Ab
open Go.Proofs
def rng3 (l : List Int) : Prop := ∀ x ∈ l, 0 ≤ x ∧ x ≤ 2
structure FOURK (ab ba le fo : List Int) : Prop where
  a : wrongM ab = 0
  b : wrongM ba = 0
  l : le.length = 4
  f : fo.length = 4
  lr : rng3 le
  fr : rng3 fo
def zipW (le fo : List Int) (k : Nat) : List tW.den := (List.range k).map fun i : Nat => ((gtR (.int .u8) le i, gtR (.int .u8) fo i) : tW.den)
theorem zipW_len (le fo : List Int) (k : Nat) : (zipW le fo k).length = k := by simp [zipW]
theorem zipW_succ (le fo : List Int) (k : Nat) : zipW le fo (k + 1) = zipW le fo k ++ [((gtR (.int .u8) le k, gtR (.int .u8) fo k) : tW.den)] := by simp [zipW, List.range_succ]
theorem zipW_rng {le fo : List Int} (hl : le.length = 4) (hf : fo.length = 4) (lr : rng3 le) (fr : rng3 fo) : ∀ p ∈ zipW le fo 4, 0 ≤ p.1 ∧ p.1 ≤ 2 ∧ 0 ≤ p.2 ∧ p.2 ≤ 2 := by
  intro p hp
  obtain ⟨i, hi, rfl⟩ := List.mem_map.1 hp
  have hi := List.mem_range.1 hi
  have h1 := lr _ (gtR_mem (t := .int .u8) (l := le) (i := (i : Int)) (by omega) (by omega))
  have h2 := fr _ (gtR_mem (t := .int .u8) (l := fo) (i := (i : Int)) (by omega) (by omega))
  exact ⟨h1.1, h1.2, h2.1, h2.2⟩
theorem rng_bad {w : List tW.den} (h : ∀ p ∈ w, 0 ≤ p.1 ∧ p.1 ≤ 2 ∧ 0 ≤ p.2 ∧ p.2 ≤ 2) : w.any badW = false := by
  rw [List.any_eq_false]
  intro p hp
  have e : ∀ a b : Int, a ≤ 2 → b ≤ 2 → ¬ decide (a > 2 ∨ b > 2) = true := by intro a b h1 h2; simp; omega
  exact e _ _ (h p hp).2.1 (h p hp).2.2.2
theorem four_ok {ab ba le fo : List Int} (h : FOURK ab ba le fo) : RUNK 1 2 (zipW le fo 4) ab ba ∧ (∀ m ∈ runR 1 2 (zipW le fo 4) ab ba, soundM m.1 m.2 = true) ∧ (∀ i : Nat, i < 4 → (gtR tMeet (runR 1 2 (zipW le fo 4) ab ba) i).1.2.2.1 = gtR (.int .u8) le i) := by
  have v : VA 1 2 := by unfold VA; omega
  have hr := zipW_rng h.l h.f h.lr h.fr
  have hlen := zipW_len le fo 4
  refine ⟨runk v (by omega) (rng_bad hr) h.a h.b, ?_, fun i hi => ?_⟩
  · unfold runR
    rw [new_ok v, new_ok v.symm]
    exact runP_all (P := fun x y => soundM x y = true) v (fun T c i => i.sound v) _ _ 0 _ INV.start (by omega) (by omega) hr
  · rw [runR_get (by omega), new_ok v, new_ok v.symm]
    have := (LINV.all (Fa := fatesM ab) (Fb := fatesM ba) v (by omega) hr (by omega) (i + 1) (by omega)).2 (by omega) _ rfl
    refine this.1.trans ?_
    have : gtR tW (zipW le fo 4) (((i + 1 - 1 : Nat) : Int)) = (gtR (.int .u8) le i, gtR (.int .u8) fo i) := by
      unfold zipW
      show (List.map _ _).getD _ _ = _
      rw [List.getD_eq_getElem?_getD, List.getElem?_map]
      simp [hi]
    rw [this]
theorem cFour (n1 : Option Bool) (ab : List Int) (n2 : Option Bool) (ba : List Int) (n3 : Option Bool) (le : List Int) (n4 : Option Bool) (fo : List Int) (h : FOURK ab ba le fo) : PurS Try.prog 30 [injT (.sl tI) (n1, ab), injT (.sl tI) (n2, ba), injT (.sl (.int .u8)) (n3, le), injT (.sl (.int .u8)) (n4, fo)] (.sb true) := by
  refine PurS.of (S := [(23, _), (29, _)]) (T := []) (tbl := []) (n := 67) hm33 cfg (.cons (spT5.ok (a := (.int .i64)) (b := (.int .i64)) (c := (.sl (.pair (.int .u8) (.int .u8)))) (d := (.sl (.int .i64))) (e := (.sl (.int .i64))) fun x0 x1 x2 x3 x4 h => cRun' x0 x1 x2.1 x2.2 x3.1 x3.2 x4.1 x4.2 h) (.cons (spT1.ok (a := (.pair (.pair (.int .i64) (.pair (.int .i64) (.pair (.int .u8) (.pair (.int .i64) (.pair (.int .u8) (.int .i64)))))) (.pair (.int .i64) (.pair (.int .i64) (.pair (.int .u8) (.pair (.int .i64) (.pair (.int .u8) (.int .i64)))))))) (pre := fun _ => True) fun x0 _ => cSound x0.1.1 x0.1.2.1 x0.1.2.2.1 x0.1.2.2.2.1 x0.1.2.2.2.2.1 x0.1.2.2.2.2.2 x0.2.1 x0.2.2.1 x0.2.2.2.1 x0.2.2.2.2.1 x0.2.2.2.2.2.1 x0.2.2.2.2.2.2) .nil)) .nil .nil 0 Try.call30 Try.func30 (ac30_ok (some (0, 0))) (by rw [Try.ntmps30]; exact Nat.le_refl _) rfl ⟨_, rfl⟩ ?_
  intro cmp ar cv tn ic ai mx an ad ml sb mn ln em gt up ap sc vw cp rp p1 p2 s1 s2 X Y hX hY r0 r1 r2 r3 r4 r5 r6 r7 r8 r9 r10 r11 r12 r13 r14 r15 r16 r17 r18 r19 r20 r21 r22 r23 r24
  generalize hg0 : runR = g0
  generalize hg1 : soundM = g1
  cbv
  have hl4 : ic (ln (.int .u8) le) = 4 := by rw [r4, r12]; show (le.length : Int) = 4; rw [h.l]; rfl
  have hf4 : ic (ln (.int .u8) fo) = 4 := by rw [r4, r12]; show (fo.length : Int) = 4; rw [h.f]; rfl
  refine LOOP.ind (σ := (Int × Nat) × List tW.den) (fun ((i, _), w) => [(0, .tl n1 tI ab), (1, .tl n2 tI ba), (2, .tl n3 (.int .u8) le), (3, .tl n4 (.int .u8) fo), (9, .og 0 tW w), (10, .p (iv i))]) (fun (_, w) => ⟨[], [(ml (ln tW w) 2, 46)]⟩) (fun ((i, _), _) => (4 - i).toNat) (fun ((i, k), w) => i = k ∧ k ≤ 4 ∧ w = zipW le fo k) ((0, 0), []) ⟨rfl, by omega, rfl⟩ (.inr ⟨[], [none], ?_⟩) ?_
  · rw [SIM_iff]; cbv; simp [nlLe_self]
  intro ⟨⟨i', k⟩, w⟩ hI X' hX
  dsimp only at hI
  obtain ⟨rfl, hI2, hI3⟩ := hI
  obtain ⟨i, hi⟩ : ∃ i : Int, i = k := ⟨_, rfl⟩
  rw [← hi]
  have ha : i < 4 → ar .add .i64 i 1 = i + 1 := fun _ => by rw [r1]; exact wrap64 (n := i + 1) (by omega) (by omega)
  have hwl : w.length = k := by rw [hI3, zipW_len]
  have hgl : gt (.int .u8) le i = gtR (.int .u8) le i := by rw [r14]
  have hgf : gt (.int .u8) fo i = gtR (.int .u8) fo i := by rw [r14]
  have hap : ∀ x, ap tW w [x] = w ++ [x] := fun x => by rw [r16]
  have hz := zipW_succ le fo k
  cbv
  try simp only [nc_eq] at *
  rw [hl4, hf4, hgl, hgf, hap]
  refine BR.lss r0 (fun hlt => ?_) (fun hge => ?_)
  · rw [ha hlt]
    refine ⟨⟨by omega, by omega⟩, ⟨by omega, by omega⟩, ⟨by omega, by omega⟩, ⟨by omega, by omega⟩, EQN.mk rfl, ?_, ?_⟩
    · rw [LIM_iff, r8, r12]; simp only [List.length_cons, List.length_nil]; omega
    · refine NEXT.mk (hX ((i + 1, k + 1), _) _ _ ?_ ?_ (.inl ⟨rfl, rfl⟩))
      · refine ⟨by show i + 1 = ((k + 1 : Nat) : Int); omega, by show k + 1 ≤ 4; omega, ?_⟩
        show _ = zipW le fo (k + 1)
        rw [hz, ← hI3, ← hi]
      · show (4 - (i + 1)).toNat < (4 - (k : Int)).toNat
        omega
  have hk4 : k = 4 := by omega
  subst hk4
  obtain ⟨hR, hS, hL⟩ := four_ok h
  rw [← hI3] at hR hS hL
  have hlen : ic (ln tMeet (g0 1 2 w ab ba)) = 4 := by
    rw [r4, r12, ← hg0]
    show ((runR 1 2 w ab ba).length : Int) = 4
    rw [runR_len, hwl]; rfl
  have hlen2 : (g0 1 2 w ab ba).length = 4 := by rw [← hg0, runR_len, hwl]
  rw [hg0, hg1] at hS
  rw [hg0] at hL
  refine ⟨hR, BR.nn r0 ?_⟩
  try dsimp only
  generalize g0 1 2 w ab ba = L at *
  rw [hlen]
  refine BR.nn r0 ?_
  clear hX hz
  refine LOOP.ind (σ := Int × Nat) (fun (i, _) => [(2, .tl n3 (.int .u8) le), (11, .tl none tMeet L), (13, .p (iv i))]) (fun _ => ⟨[], []⟩) (fun (i, _) => (4 - i).toNat) (fun (i, k) => i = k ∧ k ≤ 4) (0, 0) ⟨rfl, by omega⟩ (.inr ⟨[], [], ?_⟩) ?_
  · rw [SIM_iff]; cbv
    exact ⟨⟨nlLe_self.2 trivial, trivial⟩, ⟨nlLe_self.2 trivial, trivial⟩, trivial⟩
  intro ⟨j', m⟩ hJ X' hX
  dsimp only at hJ
  obtain ⟨rfl, hJ2⟩ := hJ
  obtain ⟨j, hj⟩ : ∃ j : Int, j = m := ⟨_, rfl⟩
  rw [← hj]
  have ha : j < 4 → ar .add .i64 j 1 = j + 1 := fun _ => by rw [r1]; exact wrap64 (n := j + 1) (by omega) (by omega)
  have hL4 : ic (ln tMeet L) = 4 := hlen
  have hSj : j < 4 → g1 (gtR tMeet L j).1 (gtR tMeet L j).2 = true := fun hlt => hS _ (gtR_mem (t := tMeet) (by omega) (by omega))
  have hLj : j < 4 → (gtR tMeet L j).1.2.2.1 = gtR (.int .u8) le j := fun hlt => by rw [hj]; exact hL m (by omega)
  cbv
  rw [hL4, hl4, r21, r22, r14]
  refine BR.lss r0 (fun hlt => ?_) (fun _ => by first | rfl | trivial)
  try simp only [nc_eq] at *
  rw [ha hlt]
  have hSj := hSj hlt
  have hLj := hLj hlt
  have hb4 : INB j 4 := ⟨by omega, hlt⟩
  repeat' (first | exact True.intro | refine And.intro ?_ ?_ | (refine BR.nn r0 ?_) | (refine BR.lss r0 ?_ ?_ <;> intro _) | (refine BR.neq r0 ?_ ?_ <;> intro _) | (refine BR.eql r0 ?_ ?_ <;> intro _) | (refine BR.leq r0 ?_ ?_ <;> intro _) | (refine BR.gtr r0 ?_ ?_ <;> intro _) | (refine BR.geq r0 ?_ ?_ <;> intro _) | (refine BR.mk ?_ ?_ <;> intro _) | (refine CASE.mk ?_; intro _))
  all_goals first
    | exact hb4
    | (show NEXT _ _ _; skip)
    | (rename_i c1; exact absurd (hSj.symm.trans c1) (by decide))
    | (rename_i c1; exact absurd hLj c1)
    | (trace_state; skip)
  all_goals refine NEXT.mk (hX (j + 1, m + 1) _ _ ?_ ?_ (.inl ⟨rfl, rfl⟩))
  all_goals first
    | (show (4 - (j + 1)).toNat < (4 - (m : Int)).toNat; omega)
    | exact ⟨by show j + 1 = ((m + 1 : Nat) : Int); omega, by show m + 1 ≤ 4; omega⟩
end Go.Ab

