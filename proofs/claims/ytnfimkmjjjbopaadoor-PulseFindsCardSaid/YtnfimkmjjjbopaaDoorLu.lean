/- PulseFinds. -/
import Derived.Test.YtnfimkmjjjbopaaDoorLt
import Derived.Test.YtnfimkmjjjbopaaDoorLm
set_option linter.unusedSimpArgs false
set_option linter.unusedVariables false
set_option maxRecDepth 20000
set_option maxHeartbeats 8000000
namespace Go.Ab
open Go.Proofs
theorem cFinds (nt : Option Bool) (t : List Int) (n : Int) (lg : Bool) : PurS Tryd.prog 4 [injT (.sl tI) (nt, t), injT tI n, injT .bool lg] (.sb true) := by
  refine PurS.of (S := [(10, _), (9, _), (41, _), (26, _), (28, _), (29, _), (32, _)]) (T := [(25, _), (27, _)]) (tbl := [(17, ac17 none, [.tmp 4], 8), (30, ac30 none, [.tmp 4], 17), (24, ac24 none, [.tmp 2], 5), (19, ac19 none, [], 12), (31, ac31 none, [], 12)]) (n := 77) hmD cfg (.cons (spT0.ok cAwakeT) (.cons (spT1.ok (a := (.sl (.sl (.int .i64)))) (pre := fun _ => True) fun x0 _ => cLong x0.1 x0.2) (.cons (spT1.ok (a := (.sl (.int .i64))) fun x0 h => cCopyI x0.1 x0.2 h) (.cons (spT1.ok (a := (.sl (.int .i64))) fun x0 h => cStartsRT x0.1 x0.2 h) (.cons (spT3.ok (a := (.sl (.int .i64))) (b := (.int .i64)) (c := .bool) fun x0 x1 x2 h => cReadR x0.1 x0.2 x1 x2 h) (.cons (spT2.ok (a := (.sl (.int .i64))) (b := (.sl (.int .i64))) fun x0 x1 h => cEqI x0.1 x0.2 x1.1 x1.2 h) (.cons (spT2.ok (a := (.sl (.int .u8))) (b := (.sl (.int .u8))) fun x0 x1 h => cEqB x0.1 x0.2 x1.1 x1.2 h) .nil))))))) (.cons tStarts (.cons tRead .nil)) (.cons Tryd.call17 Tryd.func17 (ac17_ok none) (by rw [Tryd.ntmps17]; exact Nat.le_refl _) (.cons Tryd.call30 Tryd.func30 (ac30_ok none) (by rw [Tryd.ntmps30]; exact Nat.le_refl _) (.cons Tryd.call24 Tryd.func24 (ac24_ok none) (by rw [Tryd.ntmps24]; exact Nat.le_refl _) (.cons Tryd.call19 Tryd.func19 (ac19_ok none) (by rw [Tryd.ntmps19]; exact Nat.le_refl _) (.cons Tryd.call31 Tryd.func31 (ac31_ok none) (by rw [Tryd.ntmps31]; exact Nat.le_refl _) .nil))))) 6 Tryd.call4 Tryd.func4 (ac4_ok (some (0, 0))) (by rw [Tryd.ntmps4]; exact Nat.le_refl _) rfl ⟨_, rfl⟩ ?_
  intro cmp ar cv tn ic ai mx an ad ml sb mn ln em gt up ap sc vw cp rp p1 p2 s1 s2 X Y hX hY r0 r1 r2 r3 r4 r5 r6 r7 r8 r9 r10 r11 r12 r13 r14 r15 r16 r17 r18 r19 r20 r21 r22 r23 r24
  generalize hg0 : staT = g0
  generalize hg1 : staE = g1
  generalize hg2 : reaN = g2
  generalize hg3 : reaB = g3
  generalize hg4 : reaE = g4
  generalize hg5 : eqI = g5
  generalize hg6 : longB = g6
  cbv
  have hlong : longB [(nt, t)] = false → t.length ≤ 1100 := fun h => by have := (longB_of h).2 (nt, t) (by simp); exact this
  simp only [hg6] at hlong
  dsimp only
  refine BR.mk (fun _ => trivial) fun hlo => ?_
  have ht := hlong hlo
  have hsh : Short 2000 t := ⟨by omega⟩
  have hsh2 : Short 1500 t := ⟨by omega⟩
  have hq : ∀ x, g5 x x = true := fun x => by rw [← hg5]; simp [eqI]
  obtain ⟨S, hS⟩ : ∃ S, S = g0 t := ⟨_, rfl⟩
  obtain ⟨Se, hSe⟩ : ∃ S, S = g1 t := ⟨_, rfl⟩
  rw [← hS, ← hSe]
  have hSl : S.length ≤ 2000 := by rw [hS, ← hg0]; exact Nat.le_trans staT_len (by decide)
  refine ⟨hsh, hsh2, OWNK.mk (fun hS0 => ?_) fun N hS0 hN => ?_⟩
  all_goals
    have hvw : ∀ N : Nat, N = S.length → vw tI N S 0 N = S := fun N h => by rw [r18]; exact vw_all (t := tI) h.symm
    cbv
    dsimp only
    rw [← hS, ← hSe]
    refine ⟨hsh, hsh2, ?_⟩
  all_goals
    obtain ⟨R, hR⟩ : ∃ S, S = g3 t n lg := ⟨_, rfl⟩
    obtain ⟨Rn, hRn⟩ : ∃ S, S = g2 t n lg := ⟨_, rfl⟩
    obtain ⟨Re, hRe⟩ : ∃ S, S = g4 t n lg := ⟨_, rfl⟩
    have hRl : R.length ≤ 2000 := by rw [hR, ← hg3]; exact Nat.le_trans reaB_len (by decide)
    rw [← hR, ← hRn, ← hRe]
    refine OWNK.mk (fun hR0 => ?_) fun N2 hR0 hN2 => ?_
  all_goals
    have hvw2 : ∀ N : Nat, N = R.length → vw tB N R 0 N = R := fun N h => by rw [r18]; exact vw_all (t := tB) h.symm
    cbv
    dsimp only
    try rw [← hS]
    try rw [← hSe]
    rw [← hR, ← hRn, ← hRe]
    try rw [hvw N hN]
    try rw [hvw2 N2 hN2]
    try rw [← hS0]
    try rw [← hR0]
    repeat' (first | exact True.intro | refine And.intro ?_ ?_ | (refine BR.nn r0 ?_) | (refine BR.lss r0 ?_ ?_ <;> intro _) | (refine BR.neq r0 ?_ ?_ <;> intro _) | (refine BR.eql r0 ?_ ?_ <;> intro _) | (refine BR.leq r0 ?_ ?_ <;> intro _) | (refine BR.gtr r0 ?_ ?_ <;> intro _) | (refine BR.geq r0 ?_ ?_ <;> intro _) | (refine BR.mk ?_ ?_ <;> intro _) | (refine CASE.mk ?_; intro _))
    all_goals try (exact hsh)
    all_goals try (exact hsh2)
    all_goals try (exact absurd ‹cmp .neq Se Se = true› (by rw [r0]; simp [cmpR]))
    all_goals try (exact absurd ‹cmp .neq Re Re = true› (by rw [r0]; simp [cmpR]))
    all_goals try (exact ⟨by first | (rw [r8]; simp; done) | omega | (simp; done)⟩)
    all_goals try (exact absurd ‹cmp .eql Rn Rn = false› (by rw [r0]; simp [cmpR]))
    all_goals try (rename_i hz; (first | rw [hq] at hz | rw [hS0, hR0, hq] at hz); cases hz; done)
  · skip
    refine LOOP.ind0 (σ := Unit) (fun _ => [(0, .p (.sl (some true) 0 [])), (2, .p (iv 0))]) (fun _ => _) (fun _ => 0) (fun _ => True) () trivial (.inl ⟨rfl, rfl⟩) ?_
    intro _ _ X1 hX1
    cbv
    try rw [← hR, ← hRn, ← hRe]
    refine BR.mk (fun h => absurd h (by rw [r0, r4]; simp [cmpR])) fun _ => ?_
    refine LOOP.ind0 (σ := Unit) (fun _ => [(0, .p (.sl (some true) 0 [])), (2, .p (iv 0))]) (fun _ => _) (fun _ => 0) (fun _ => True) () trivial (.inl ⟨rfl, rfl⟩) ?_
    intro _ _ X1 hX1
    cbv
    try rw [← hR, ← hRn, ← hRe]
    refine BR.mk (fun h => absurd h (by rw [r0, r4]; simp [cmpR])) fun _ => ?_
    exact ⟨hsh, BR.mk (fun _ => trivial) fun h => by rw [hq] at h; cases h⟩
  · skip
    refine LOOP.ind0 (σ := Unit) (fun _ => [(0, .p (.sl (some true) 0 [])), (2, .p (iv 0))]) (fun _ => _) (fun _ => 0) (fun _ => True) () trivial (.inl ⟨rfl, rfl⟩) ?_
    intro _ _ X1 hX1
    cbv
    try rw [← hR, ← hRn, ← hRe]
    refine BR.mk (fun h => absurd h (by rw [r0, r4]; simp [cmpR])) fun _ => ?_
    refine LOOP.ind0 (σ := List Int × Int) (fun (L, i) => [(0, .ms 0 0 1 none N2), (2, .p (iv i))]) (fun (L, i) => ⟨[{ cells := [.arr N2 tB L], e := 5, fz := false }, { cells := [.p (iv Rn), .ms 0 0 1 none N2], e := 46, fz := false }, { cells := [.p (iv Rn), .tl none tB R], e := 46, fz := false }, { cells := [.p (iv Rn), .ms 0 0 1 none N2], e := 46, fz := false }, { cells := [.p (iv Rn), .tl none tB R], e := 46, fz := false }], []⟩) (fun (L, i) => (N2 - i).toNat) (fun (L, i) => 0 ≤ i ∧ i ≤ N2) (R, 0) (by simp) (.inl ⟨rfl, rfl⟩) ?_
    intro ⟨L, j⟩ hJ X5 hX5
    have hNl : N2 ≤ 2000 := by omega
    cbv
    refine BR.mk (fun hj => ?_) fun _ => ?_
    · have hj : j < N2 := by rw [r0, r4] at hj; simpa [cmpR] using hj
      have hj1 : ar .add .i64 j 1 = j + 1 := by rw [r1]; exact wrap64 (n := j + 1) (by omega) (by omega)
      have hjb : INB j (ic N2) := ⟨hJ.1, by rw [r4]; exact hj⟩
      rw [hj1]
      exact ⟨hjb, hjb, NEXT.mk (hX5 (_, j + 1) _ _ ⟨by show (0 : Int) ≤ j + 1; omega, by show j + 1 ≤ (N2 : Int); omega⟩ (by show (N2 - (j + 1) : Int).toNat < (N2 - j : Int).toNat; omega) (.inl ⟨rfl, rfl⟩))⟩
    exact ⟨hsh, BR.mk (fun _ => trivial) fun h => by rw [hq] at h; cases h⟩
  · skip
    refine LOOP.ind0 (σ := List Int × Int) (fun (L, i) => [(0, .ms 0 0 1 none N), (2, .p (iv i))]) (fun (L, i) => ⟨[{ cells := [.arr N tI L], e := 3, fz := false }, { cells := [.p (iv Rn), .p (.sl (some true) 0 [])], e := 46, fz := false }, { cells := [.p (iv Rn), .tl none tB R], e := 46, fz := false }, { cells := [.p (iv Rn), .p (.sl (some true) 0 [])], e := 46, fz := false }, { cells := [.p (iv Rn), .tl none tB R], e := 46, fz := false }], []⟩) (fun (L, i) => (N - i).toNat) (fun (L, i) => 0 ≤ i ∧ i ≤ N) (S, 0) (by simp) (.inl ⟨rfl, rfl⟩) ?_
    intro ⟨L, j⟩ hJ X5 hX5
    have hNl : N ≤ 2000 := by omega
    cbv
    refine BR.mk (fun hj => ?_) fun _ => ?_
    · have hj : j < N := by rw [r0, r4] at hj; simpa [cmpR] using hj
      have hj1 : ar .add .i64 j 1 = j + 1 := by rw [r1]; exact wrap64 (n := j + 1) (by omega) (by omega)
      have hjb : INB j (ic N) := ⟨hJ.1, by rw [r4]; exact hj⟩
      rw [hj1]
      exact ⟨hjb, hjb, NEXT.mk (hX5 (_, j + 1) _ _ ⟨by show (0 : Int) ≤ j + 1; omega, by show j + 1 ≤ (N : Int); omega⟩ (by show (N - (j + 1) : Int).toNat < (N - j : Int).toNat; omega) (.inl ⟨rfl, rfl⟩))⟩
    refine LOOP.ind0 (σ := Unit) (fun _ => [(0, .p (.sl (some true) 0 [])), (2, .p (iv 0))]) (fun _ => _) (fun _ => 0) (fun _ => True) () trivial (.inl ⟨rfl, rfl⟩) ?_
    intro _ _ X1 hX1
    cbv
    try rw [← hR, ← hRn, ← hRe]
    refine BR.mk (fun h => absurd h (by rw [r0, r4]; simp [cmpR])) fun _ => ?_
    exact ⟨hsh, BR.mk (fun _ => trivial) fun h => by rw [hq] at h; cases h⟩
  · skip
    refine LOOP.ind0 (σ := List Int × Int) (fun (L, i) => [(0, .ms 0 0 1 none N), (2, .p (iv i))]) (fun (L, i) => ⟨[{ cells := [.arr N tI L], e := 3, fz := false }, { cells := [.arr N2 tB R], e := 5, fz := false }, { cells := [.p (iv Rn), .ms 1 0 1 none N2], e := 46, fz := false }, { cells := [.p (iv Rn), .tl none tB R], e := 46, fz := false }, { cells := [.p (iv Rn), .ms 1 0 1 none N2], e := 46, fz := false }, { cells := [.p (iv Rn), .tl none tB R], e := 46, fz := false }], []⟩) (fun (L, i) => (N - i).toNat) (fun (L, i) => 0 ≤ i ∧ i ≤ N) (S, 0) (by simp) (.inl ⟨rfl, rfl⟩) ?_
    intro ⟨L, j⟩ hJ X5 hX5
    have hNl : N ≤ 2000 := by omega
    cbv
    refine BR.mk (fun hj => ?_) fun _ => ?_
    · have hj : j < N := by rw [r0, r4] at hj; simpa [cmpR] using hj
      have hj1 : ar .add .i64 j 1 = j + 1 := by rw [r1]; exact wrap64 (n := j + 1) (by omega) (by omega)
      have hjb : INB j (ic N) := ⟨hJ.1, by rw [r4]; exact hj⟩
      rw [hj1]
      exact ⟨hjb, hjb, NEXT.mk (hX5 (_, j + 1) _ _ ⟨by show (0 : Int) ≤ j + 1; omega, by show j + 1 ≤ (N : Int); omega⟩ (by show (N - (j + 1) : Int).toNat < (N - j : Int).toNat; omega) (.inl ⟨rfl, rfl⟩))⟩
    refine LOOP.ind0 (σ := List Int × Int) (fun (Q, i) => [(0, .ms 1 0 1 none N2), (2, .p (iv i))]) (fun (Q, i) => ⟨[{ cells := [.arr N tI L], e := 3, fz := false }, { cells := [.arr N2 tB Q], e := 5, fz := false }, { cells := [.p (iv Rn), .ms 1 0 1 none N2], e := 46, fz := false }, { cells := [.p (iv Rn), .tl none tB R], e := 46, fz := false }, { cells := [.p (iv Rn), .ms 1 0 1 none N2], e := 46, fz := false }, { cells := [.p (iv Rn), .tl none tB R], e := 46, fz := false }], []⟩) (fun (Q, i) => (N2 - i).toNat) (fun (Q, i) => 0 ≤ i ∧ i ≤ N2) (R, 0) (by simp) (.inl ⟨rfl, rfl⟩) ?_
    intro ⟨Q, j⟩ hJ X5 hX5
    have hNl : N2 ≤ 2000 := by omega
    cbv
    refine BR.mk (fun hj => ?_) fun _ => ?_
    · have hj : j < N2 := by rw [r0, r4] at hj; simpa [cmpR] using hj
      have hj1 : ar .add .i64 j 1 = j + 1 := by rw [r1]; exact wrap64 (n := j + 1) (by omega) (by omega)
      have hjb : INB j (ic N2) := ⟨hJ.1, by rw [r4]; exact hj⟩
      rw [hj1]
      exact ⟨hjb, hjb, NEXT.mk (hX5 (_, j + 1) _ _ ⟨by show (0 : Int) ≤ j + 1; omega, by show j + 1 ≤ (N2 : Int); omega⟩ (by show (N2 - (j + 1) : Int).toNat < (N2 - j : Int).toNat; omega) (.inl ⟨rfl, rfl⟩))⟩
    exact ⟨hsh, BR.mk (fun _ => trivial) fun h => by rw [hq] at h; cases h⟩
theorem finds_typed : ∀ xs, TyVs Tryd.prog [30, 3, 4] xs → PurFn Tryd.prog 4 (xs.map .p) (.v (.bool true)) := law3 (P := Tryd.prog) (f := 4) (t1 := 30) (t2 := 3) (t3 := 4) (T1 := .sl tI) (T2 := tI) (T3 := .bool) (by kernel_rfl) fun t n lg _ _ _ => cFinds t.1 t.2 n lg
end Go.Ab

