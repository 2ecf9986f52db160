/- LockMasks. -/
import Derived.Test.YtbjehpjlpckbfaaLv
set_option linter.unusedSimpArgs false
set_option linter.unusedVariables false
set_option maxRecDepth 20000
set_option maxHeartbeats 8000000
namespace Go.Ab
open Go.Proofs
theorem mskL_nil (B : List BND) : mskL [] B = List.replicate B.length true := by
  cases B with
  | nil => rfl
  | cons x r =>
    rw [mskL, List.length_cons, List.replicate_succ]
    congr 1
    exact List.eq_replicate_iff.2 ⟨by simp, fun y hy => by
      obtain ⟨z, _, rfl⟩ := List.mem_map.1 hy
      simp [heldB]⟩
structure HLD (i : Int) (l : LE) (H : List Bool) : Prop where
  len : H.length = 3
  ent : ∀ e ∈ l, e.1 < i ∧ e.2.1.2.2.2 = (10 : Int)
  n : (l.length : Int) = i
  get : ∀ s : Int, 0 ≤ s → s ≤ 2 → gtR .bool H s = heldB l s
theorem HLD.first : HLD 0 [] (List.replicate 3 false) := ⟨rfl, by simp, rfl, fun s h0 h1 => by
  have : s.toNat < (List.replicate 3 false).length := by show s.toNat < 3; omega
  simp only [gtR, List.getD, List.getElem?_eq_getElem this, List.getElem_replicate, Option.getD_some]
  rfl⟩
theorem HLD.step {i w c : Int} {n : Nat} {l : LE} {H : List Bool} {s e w' c' : Int} {l' : LE} (h : HLD i l H) (hT : TAB c n l) (hw : w ≤ 1) (h0 : 0 ≤ i) (h1 : i < 16) (hs : 0 ≤ s ∧ s ≤ 2) (hR : SETR 9 w c l 1 (i, (99, (s, 1))) e w' l' c') :
    e = 0 ∧ w' = 1 ∧ HLD (i + 1) l' (upR .bool 3 H s true) ∧ TAB c' l'.length l' := by
  have hT' := hT.set hR hs.1
  have hlive : liveL 1 l = l := List.filter_eq_self.2 fun x hx => by
    have := (h.ent x hx).2
    unfold deadB
    rw [this]; decide
  have hc : lcheckM (i, (99, (s, 1))) = 0 := by
    unfold lcheckM
    dsimp only [Ty.den]
    rw [if_neg (by omega), if_neg (by omega), if_neg (by omega)]
  obtain ⟨h2, h3, hS⟩ := hR.good (atE_ok (by omega) (by omega) hw) hc (by rw [hlive]; intro hh; have := h.n; omega)
  rw [hlive] at hS
  refine ⟨h2, h3, ?_, hT'⟩
  have hno : ∀ e ∈ l, e.1 ≠ i := fun e he => by have := (h.ent e he).1; omega
  rcases hS.no hno with ⟨l1, v0, b, l2, e, _⟩ | ⟨_, rfl, rfl⟩
  · exact absurd rfl (hno (i, v0, b) (by rw [e]; simp))
  · refine ⟨?_, fun x hx => ?_, by rw [List.length_append, List.length_singleton]; have := h.n; omega, fun t t0 t1 => ?_⟩
    · unfold upR
      rw [Ty.norm_eq .bool h.len, List.length_set]; exact h.len
    · rcases List.mem_append.1 hx with hx | hx
      · have := h.ent x hx
        exact ⟨by omega, this.2⟩
      · obtain rfl := List.mem_singleton.1 hx
        exact ⟨by show i < i + 1; omega, rfl⟩
    · have ht : t.toNat < 3 := by omega
      have hl : t.toNat < H.length := by rw [h.len]; exact ht
      have hg := h.get t t0 t1
      unfold heldB at hg ⊢
      rw [List.any_append, ← hg]
      unfold upR
      rw [Ty.norm_eq .bool h.len]
      simp only [gtR, List.getD, List.getElem?_set, List.any_cons, List.any_nil, Bool.or_false]
      by_cases e : s = t
      · subst e
        rw [if_pos rfl, if_pos hl]; simp
      · rw [if_neg (by omega)]
        simp [e]
theorem lawMasks (ns : Option Bool) (S : List Int) (nb : Option Bool) (B : List BND) (hS : ∀ x ∈ S, 0 ≤ x ∧ x < 256) (hSl : S.length ≤ maxLen) (hBl : B.length ≤ maxLen) : PurS Try.prog 9 [injT (.sl tU) (ns, S), injT (.sl tBnd) (nb, B)] (.sb true) := by
  refine PurS.of (S := [(11, _)]) (T := [(12, _), (14, _), (19, _)]) (U := []) (tbl := [(10, ac10 none, [.tmp 2], 6)]) (n := 139) hm32 cfg (.cons (spT0.ok cAwake) .nil) (.cons tNew (.cons tSet (.cons tMask .nil))) .nil (.cons Try.call10 Try.func10 (ac10_ok none) (by rw [Try.ntmps10]; exact Nat.le_refl _) .nil) 6 Try.call9 Try.func9 (ac9_ok (some (0, 0))) (by rw [Try.ntmps9]; exact Nat.le_refl _) rfl ⟨_, rfl⟩ ?_
  intro cmp ar cv tn ic ai mx an ad ml sb mn ln em gt up ap sc vw cp rp p1 p2 s1 s2 X Y hX hY r0 r1 r2 r3 r4 r5 r6 r7 r8 r9 r10 r11 r12 r13 r14 r15 r16 r17 r18 r19 r20 r21 r22 r23 r24
  cbv
  simp only [maxLen] at hSl hBl
  have hl : ic (ln tBnd B) = B.length := by rw [r4, r12]
  obtain ⟨u, hu⟩ : ∃ u : Int, u = B.length := ⟨_, rfl⟩
  rw [hl, ← hu]
  refine BR.leq r0 (fun hc => ?_) fun _ => trivial
  refine NEWK.mk (fun _ => BR.nn r0 (MASKK.mk TAB.empty (by omega) (fun M1 N1 hA hM1 hN1 => ?_) (fun e hE he0 => ?_))) (fun h => absurd (by omega) h)
  · cbv
    obtain ⟨v, hv⟩ : ∃ v : Int, v = N1 := ⟨_, rfl⟩
    have hic : ic N1 = v := by rw [r4, hv]
    have hgt : ∀ i, 0 ≤ i → i < v → gt .bool M1 i = true := fun i h0 h1 => by
      have hi : i.toNat < B.length := by omega
      rw [r14, hM1, mskL_nil]
      simp [gtR, hi]
    refine ⟨⟨⟨nlLe_self.2 trivial, trivial⟩, trivial⟩, ?_⟩
    refine LOOP.ind (σ := Int) (fun i => [(0, .tl ns tU S), (1, .tl nb tBnd B), (5, .ptr 0 0), (7, .ms 2 0 1 none N1), (8, .p (iv 0)), (9, .p (iv i))])
      (fun _ => ⟨(tabS 9 0 0 0 []).box ++ [{ cells := [.arr N1 .bool M1], e := 4, fz := false, ap := true }], []⟩) (fun i => (v - i).toNat) (fun i => 0 ≤ i ∧ i ≤ v) 0 ⟨by omega, by omega⟩ (.inl ⟨rfl, rfl⟩) ?_
    intro i hI X' hX
    obtain ⟨hI1, hI2⟩ := hI
    have hadd : i < v → ar .add .i64 i 1 = i + 1 := fun h => by rw [r1]; exact wrap64 (n := i + 1) (by omega) (by omega)
    cbv
    try simp only [nc_eq] at *
    rw [hic]
    refine BR.lss r0 (fun hc => ?_) (fun hc => ?_)
    · rw [hadd hc, hgt i hI1 hc]
      exact ⟨⟨hI1, hc⟩, ⟨hI1, hc⟩, .mk (fun _ => NEXT.mk (hX (i + 1) _ _ ⟨by omega, by omega⟩ (by show (v - (i + 1)).toNat < (v - i).toNat; omega) (.inl ⟨rfl, rfl⟩))) (fun h => by cases h)⟩
    · clear hX hgt hadd hI1 hI2 hc
      have htn : tn 3 = 3 := by rw [r3]; rfl
      have hrp : rp .bool 3 false = List.replicate 3 false := by rw [r20]
      obtain ⟨H0, hH0⟩ : ∃ H : List Bool, H = List.replicate 3 false := ⟨_, rfl⟩
      rw [← hH0] at hrp
      have hF := HLD.first
      rw [← hH0] at hF
      obtain ⟨p, hp⟩ : ∃ p : Int, p = S.length := ⟨_, rfl⟩
      have hlS : ic (ln tU S) = p := by rw [r4, r12, hp]
      rw [htn, hrp]
      refine ⟨⟨by decide, by decide, by decide, by decide⟩, ?_⟩
      refine LOOP.ind (σ := Int × Int × Int × Nat × LE × List Bool) (fun (i, w, c, n, l, H) => [(0, .tl ns tU S), (1, .tl nb tBnd B), (5, .ptr 0 0), (7, .ms 2 0 1 none N1), (8, .p (iv 0)), (10, .ms 3 0 1 none 3), (11, .p (iv i))])
        (fun (i, w, c, n, l, H) => ⟨(tabS 9 w c n l).box ++ [{ cells := [.arr N1 .bool M1], e := 4, fz := false, ap := true }, { cells := [.arr 3 .bool H], e := 4, fz := false, ap := true }], []⟩) (fun (i, w, c, n, l, H) => (16 - i).toNat) (fun (i, w, c, n, l, H) => (0 ≤ i ∧ i ≤ 16 ∧ i ≤ p) ∧ (0 ≤ w ∧ w ≤ 1) ∧ TAB c n l ∧ HLD i l H) (0, 0, 0, 0, [], H0) ⟨⟨by omega, by omega, by omega⟩, ⟨by omega, by omega⟩, TAB.empty, hF⟩ (.inl ⟨rfl, rfl⟩) ?_
      intro ⟨i, w, c, n, l, H⟩ hI X2 hX2
      dsimp only at hI
      obtain ⟨⟨hI1, hI2, hI3⟩, ⟨hw0, hw1⟩, hT, hO⟩ := hI
      obtain ⟨x, hx⟩ : ∃ x : Int, x = gt tU S i := ⟨_, rfl⟩
      have hxb : i < p → 0 ≤ x ∧ x < 256 := fun h => by rw [hx, r14]; exact hS _ (gtR_mem (t := tU) hI1 (by omega))
      cbv
      try simp only [nc_eq] at *
      rw [hlS, ← hx]
      obtain ⟨y, hy⟩ : ∃ y, y = ar .rem .u8 x 3 := ⟨_, rfl⟩
      have hyb : i < p → 0 ≤ y ∧ y ≤ 2 := fun h => by
        have := hxb h
        rw [hy, r1]
        show 0 ≤ Int.tmod x 3 ∧ Int.tmod x 3 ≤ 2
        rw [Int.tmod_eq_emod_of_nonneg (by omega)]
        omega
      have hadd : i < p → i < 16 → ar .add .i64 i 1 = i + 1 := fun h h' => by rw [r1]; exact wrap64 (n := i + 1) (by omega) (by omega)
      have hic3 : ic 3 = 3 := by rw [r4]; rfl
      rw [← hy, hic3]
      refine BR.lss r0 (fun h1 => BR.lss r0 (fun h2 => ?_) (fun h2 => ?_)) (fun h1 => ?_)
      · have hb := hyb h1
        refine ⟨⟨hI1, h1⟩, ⟨hI1, h1⟩, ⟨by decide⟩, ⟨hb.1, by omega⟩, ⟨hb.1, by omega⟩, SETK.mk hT (by omega) hw0 fun e w' c' n' l' hR hn' => ?_⟩
        obtain ⟨he, hw', hO', hT'⟩ := hO.step hT hw1 hI1 h2 hb hR
        rw [← r15] at hO'
        rw [← hn'] at hT'
        subst he
        subst hw'
        clear hR hn'
        cbv
        refine BR.nn r0 ?_
        rw [hadd h1 h2]
        refine NEXT.mk (hX2 (i + 1, 1, c', n', l', _) _ _ ⟨⟨by show 0 ≤ i + 1; omega, by show i + 1 ≤ 16; omega, by show i + 1 ≤ p; omega⟩, ⟨by show (0 : Int) ≤ 1; omega, by show (1 : Int) ≤ 1; omega⟩, hT', hO'⟩ (by show (16 - (i + 1)).toNat < (16 - i).toNat; omega) (.inr ⟨[some 0, some 4, some 2, some 3], [], ?_⟩))
        rw [SIM_iff]; cbv
        simp [nlLe_self, lstEq]
      all_goals
        refine MASKK.mk hT (by omega) (fun M2 N2 _ hM2 hN2 => ?_) (fun e hE h0 => absurd (hE.trans hA) h0)
        cbv
        obtain ⟨hB1, hB6, hBs⟩ := achk_ok hA
        replace hu : u = ((List.length (α := BND) B : Nat) : Int) := hu
        replace hN1 : N1 = List.length (α := BND) B := hN1
        replace hN2 : N2 = List.length (α := BND) B := hN2
        have hM0 : gt .bool M2 0 = true := by
          rw [r14, hM2]
          have := mskL_zero l (B := B) (fun e => by rw [e] at hB1; simp at hB1)
          simp [gtR, this]
        have hMi : ∀ i : Int, 0 < i → i < u → gt .bool M2 i = !heldB l (gtR tBnd B i).1 := fun i h0 h1 => by
          rw [r14, hM2]
          have := mskL_pos l (B := B) h0 (by omega)
          simp only [gtR, List.getD, this, Option.getD_some]
        have hHg : ∀ s : Int, 0 ≤ s → s ≤ 2 → gt .bool H s = heldB l s := fun s h0 h1 => by rw [r14]; exact hO.get s h0 h1
        have hicu : ic N1 = u := by rw [r4]; show ((N1 : Nat) : Int) = u; omega
        have hicu2 : ic N2 = u := by rw [r4]; show ((N2 : Nat) : Int) = u; omega
        have hl' : ic (ln tBnd B) = u := by rw [hl, hu]
        have hBs : ∀ i : Int, 0 < i → i < u → (gtR tBnd B i).1 = (1 : Int) ∨ (gtR tBnd B i).1 = (2 : Int) := fun i h0 h1 => hBs i h0 (by omega)
        clear hX2 hA hM1 hM2 hS hSl hBl hl hI1 hI2 hI3 hyb hxb hx hy
        rw [hicu, hicu2, hl']
        refine ⟨⟨⟨nlLe_self.2 trivial, trivial⟩, trivial⟩, BR.nn r0 (BR.eql r0 (fun _ => BR.nn r0 (BR.nn r0 ?_)) (fun h => absurd rfl h))⟩
        refine LOOP.ind (σ := Int) (fun i => [(1, .tl nb tBnd B), (10, .ms 3 0 1 none 3), (13, .ms 4 0 1 none N2), (15, .p (iv i))])
          (fun _ => ⟨(tabS 9 w c n l).box ++ [{ cells := [.arr N1 .bool M1], e := 4, fz := false, ap := true }, { cells := [.arr 3 .bool H], e := 4, fz := false, ap := true }, { cells := [.arr N2 .bool M2], e := 4, fz := false, ap := true }], []⟩) (fun i => (u - i).toNat) (fun i => 0 ≤ i ∧ i ≤ u) 0 ⟨by omega, by omega⟩ (.inl ⟨rfl, rfl⟩) ?_
        clear hO hadd
        intro i hI X3 hX3
        obtain ⟨hI1, hI2⟩ := hI
        obtain ⟨⟨s, lo, hi⟩, hx⟩ : ∃ x : BND, x = gt tBnd B i := ⟨_, rfl⟩
        have q1 : p1 tU (.pair tI tI) (s, lo, hi) = s := by rw [r21]
        have hadd : i < u → ar .add .i64 i 1 = i + 1 := fun h => by rw [r1]; exact wrap64 (n := i + 1) (by omega) (by omega)
        have hs0 : i = 0 → gt .bool M2 i = true := fun h => by rw [h]; exact hM0
        have hs1 : i ≠ 0 → i < u → (s = 1 ∨ s = 2) ∧ gt .bool M2 i = !heldB l s ∧ gt .bool H s = heldB l s := fun h0 h1 => by
          have e : gtR tBnd B i = (s, lo, hi) := by rw [hx, r14]
          have g1 := hBs i (by omega) h1
          have g2 := hMi i (by omega) h1
          rw [e] at g1 g2
          have g1 : s = 1 ∨ s = 2 := g1
          exact ⟨g1, g2, hHg s (by omega) (by omega)⟩
        clear hM0 hMi hHg hBs
        cbv
        try simp only [nc_eq] at *
        rw [hicu2, ← hx, q1, hl']
        have fin : ∀ ρ st, i < u → SIMX 0 0 ρ st [(1, .tl nb tBnd B), (10, .ms 3 0 1 none 3), (13, .ms 4 0 1 none N2), (15, .p (iv (i + 1)))] ⟨(tabS 9 w c n l).box ++ [{ cells := [.arr N1 .bool M1], e := 4, fz := false, ap := true }, { cells := [.arr 3 .bool H], e := 4, fz := false, ap := true }, { cells := [.arr N2 .bool M2], e := 4, fz := false, ap := true }], []⟩ → NEXT X3 ρ st := fun ρ st hc h =>
          NEXT.mk (hX3 (i + 1) ρ st ⟨by omega, by omega⟩ (by show (u - (i + 1)).toNat < (u - i).toNat; omega) h)
        refine BR.lss r0 (fun hc => ?_) (fun _ => trivial)
        have hin : INB i u := ⟨hI1, hc⟩
        rw [hadd hc, hic3]
        refine ⟨hin, hin, BR.eql r0 (fun h0 => ⟨hin, hin, ?_⟩) (fun h0 => BR.eql r0 (fun h => ?_) fun h => BR.gtr r0 (fun h => ?_) fun _ => ⟨hin, hin, ?_⟩)⟩
        · rw [hs0 h0]
          exact .mk (fun _ => fin _ _ hc (.inl ⟨rfl, rfl⟩)) (fun h => by cases h)
        · have := (hs1 h0 hc).1
          omega
        · have := (hs1 h0 hc).1
          omega
        · obtain ⟨g1, g2, g3⟩ := hs1 h0 hc
          rw [g2, g3]
          have hsi : INB s 3 := ⟨by omega, by omega⟩
          cases heldB l s
          · exact .mk (fun _ => ⟨hsi, hsi, .mk (fun h => by cases h) (fun _ => fin _ _ hc (.inl ⟨rfl, rfl⟩))⟩) (fun h => by cases h)
          · exact .mk (fun h => by cases h) (fun _ => ⟨hsi, hsi, .mk (fun _ => fin _ _ hc (.inl ⟨rfl, rfl⟩)) (fun h => by cases h)⟩)
  · cbv
    refine ⟨⟨⟨nlLe_self.2 trivial, trivial⟩, trivial⟩, ?_⟩
    refine LOOP.ind (σ := Unit) (fun _ => [(0, .tl ns tU S), (1, .tl nb tBnd B), (5, .ptr 0 0), (7, .p (.sl (some true) 0 [])), (8, .p (iv e)), (9, .p (iv 0))])
      (fun _ => ⟨(tabS 9 0 0 0 []).box, []⟩) (fun i => 0) (fun i => True) () trivial (.inl ⟨rfl, rfl⟩) ?_
    intro _ _ X' hX
    cbv
    refine BR.lss r0 (fun hc => absurd hc (by rw [r4]; decide)) (fun hc => ?_)
    · clear hX
      have htn : tn 3 = 3 := by rw [r3]; rfl
      have hrp : rp .bool 3 false = List.replicate 3 false := by rw [r20]
      obtain ⟨H0, hH0⟩ : ∃ H : List Bool, H = List.replicate 3 false := ⟨_, rfl⟩
      rw [← hH0] at hrp
      have hF := HLD.first
      rw [← hH0] at hF
      obtain ⟨p, hp⟩ : ∃ p : Int, p = S.length := ⟨_, rfl⟩
      have hlS : ic (ln tU S) = p := by rw [r4, r12, hp]
      rw [htn, hrp]
      refine ⟨⟨by decide, by decide, by decide, by decide⟩, ?_⟩
      refine LOOP.ind (σ := Int × Int × Int × Nat × LE × List Bool) (fun (i, w, c, n, l, H) => [(0, .tl ns tU S), (1, .tl nb tBnd B), (5, .ptr 0 0), (7, .p (.sl (some true) 0 [])), (8, .p (iv e)), (10, .ms 2 0 1 none 3), (11, .p (iv i))])
        (fun (i, w, c, n, l, H) => ⟨(tabS 9 w c n l).box ++ [{ cells := [.arr 3 .bool H], e := 4, fz := false, ap := true }], []⟩) (fun (i, w, c, n, l, H) => (16 - i).toNat) (fun (i, w, c, n, l, H) => (0 ≤ i ∧ i ≤ 16 ∧ i ≤ p) ∧ (0 ≤ w ∧ w ≤ 1) ∧ TAB c n l ∧ HLD i l H) (0, 0, 0, 0, [], H0) ⟨⟨by omega, by omega, by omega⟩, ⟨by omega, by omega⟩, TAB.empty, hF⟩ (.inl ⟨rfl, rfl⟩) ?_
      intro ⟨i, w, c, n, l, H⟩ hI X2 hX2
      dsimp only at hI
      obtain ⟨⟨hI1, hI2, hI3⟩, ⟨hw0, hw1⟩, hT, hO⟩ := hI
      obtain ⟨x, hx⟩ : ∃ x : Int, x = gt tU S i := ⟨_, rfl⟩
      have hxb : i < p → 0 ≤ x ∧ x < 256 := fun h => by rw [hx, r14]; exact hS _ (gtR_mem (t := tU) hI1 (by omega))
      cbv
      try simp only [nc_eq] at *
      rw [hlS, ← hx]
      obtain ⟨y, hy⟩ : ∃ y, y = ar .rem .u8 x 3 := ⟨_, rfl⟩
      have hyb : i < p → 0 ≤ y ∧ y ≤ 2 := fun h => by
        have := hxb h
        rw [hy, r1]
        show 0 ≤ Int.tmod x 3 ∧ Int.tmod x 3 ≤ 2
        rw [Int.tmod_eq_emod_of_nonneg (by omega)]
        omega
      have hadd : i < p → i < 16 → ar .add .i64 i 1 = i + 1 := fun h h' => by rw [r1]; exact wrap64 (n := i + 1) (by omega) (by omega)
      have hic3 : ic 3 = 3 := by rw [r4]; rfl
      rw [← hy, hic3]
      refine BR.lss r0 (fun h1 => BR.lss r0 (fun h2 => ?_) (fun h2 => ?_)) (fun h1 => ?_)
      · have hb := hyb h1
        refine ⟨⟨hI1, h1⟩, ⟨hI1, h1⟩, ⟨by decide⟩, ⟨hb.1, by omega⟩, ⟨hb.1, by omega⟩, SETK.mk hT (by omega) hw0 fun e2 w' c' n' l' hR hn' => ?_⟩
        obtain ⟨he, hw', hO', hT'⟩ := hO.step hT hw1 hI1 h2 hb hR
        rw [← r15] at hO'
        rw [← hn'] at hT'
        subst he
        subst hw'
        clear hR hn'
        cbv
        refine BR.nn r0 ?_
        rw [hadd h1 h2]
        refine NEXT.mk (hX2 (i + 1, 1, c', n', l', _) _ _ ⟨⟨by show 0 ≤ i + 1; omega, by show i + 1 ≤ 16; omega, by show i + 1 ≤ p; omega⟩, ⟨by show (0 : Int) ≤ 1; omega, by show (1 : Int) ≤ 1; omega⟩, hT', hO'⟩ (by show (16 - (i + 1)).toNat < (16 - i).toNat; omega) (.inr ⟨[some 0, some 3, some 2], [], ?_⟩))
        rw [SIM_iff]; cbv
        simp [nlLe_self, lstEq]
      all_goals
        refine MASKK.mk hT (by omega) (fun M2 N2 h _ _ => absurd (hE.trans h) he0) (fun e2 hE2 h0 => ?_)
        cbv
        obtain rfl : e2 = e := by rw [hE2, hE]
        refine ⟨⟨⟨nlLe_self.2 trivial, trivial⟩, trivial⟩, BR.nn r0 (BR.eql r0 (fun h => absurd h he0) (fun _ => ?_))⟩
        refine LOOP.ind (σ := Unit) (fun _ => [(1, .tl nb tBnd B), (10, .ms 2 0 1 none 3), (13, .p (.sl (some true) 0 [])), (15, .p (iv 0))])
          (fun _ => ⟨(tabS 9 w c n l).box ++ [{ cells := [.arr 3 .bool H], e := 4, fz := false, ap := true }], []⟩) (fun i => 0) (fun i => True) () trivial (.inl ⟨rfl, rfl⟩) ?_
        intro _ _ X3 hX3
        cbv
        exact BR.lss r0 (fun hc => absurd hc (by rw [r4]; decide)) (fun _ => trivial)
theorem masks_typed : ∀ xs, TyVs Try.prog [53, 23] xs → PurFn Try.prog 9 (xs.map .p) (.v (.bool true)) := law2 (P := Try.prog) (f := 9) (t1 := 53) (t2 := 23) (T1 := .sl tU) (T2 := .sl tBnd) (by kernel_rfl) fun s l hs hl => lawMasks s.1 s.2 l.1 l.2 (fun x hx => wf_u8 (hs.2.2 x hx)) hs.1 hl.1
end Go.Ab
