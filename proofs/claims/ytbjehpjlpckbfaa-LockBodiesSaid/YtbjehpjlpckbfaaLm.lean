/- LockBodies. -/
import Derived.Test.YtbjehpjlpckbfaaLl
set_option linter.unusedSimpArgs false
set_option linter.unusedVariables false
set_option maxRecDepth 20000
set_option maxHeartbeats 8000000
namespace Go.Ab
open Go.Proofs
theorem tPack : ∀ ds st K, spOwn (argT1 tChoice) (fun c => PKP c.2.2.1) tB 5 (fun c => packM (c.1, (c.2.1, (c.2.2.1, c.2.2.2)))) (fun c => shT (iv (lcheckM (c.1, (c.2.1, (c.2.2.1, c.2.2.2)))))) OpsS.real 29 ds st K → FnS Try.prog 29 ds st K :=
  spOwn.ok (fun _ => shT.ok _ _) (argT1.ok (a := tChoice) (Q := fun xs c => PKP c.2.2.1 → OwnL Try.prog 29 xs tB 5 (packM (c.1, (c.2.1, (c.2.2.1, c.2.2.2)))) (shT (iv (lcheckM (c.1, (c.2.1, (c.2.2.1, c.2.2.2))))))) (fun _ _ _ he h hp => (h hp).cong he) fun c h => by
    obtain ⟨a, t, se, m⟩ := c
    exact cPack a t se m _ h.h rfl)
theorem lawBodies (a t se m : Int) (nb : Option Bool) (b : List Int) (to : Int) (hse : 0 ≤ se) (hb : ∀ x ∈ b, 0 ≤ x) (hto : -9223372036854775808 ≤ to ∧ to ≤ 9223372036854775807) : PurS Try.prog 4 [injT tChoice (a, (t, (se, m))), injT (.sl tB) (nb, b), injT tI to] (.sb true) := by
  refine PurS.of (S := [(11, _), (31, _), (32, _), (27, _), (30, _), (28, _), (57, _), (48, _)]) (T := [(29, _)]) (U := []) (tbl := [(33, ac33 none, [.tmp 4], 8), (26, ac26 none, [.tmp 2], 5), (34, ac34 none, [], 4), (58, ac58 none, [], 12)]) (n := 84) hm32 cfg (.cons (spT0.ok cAwake) (.cons (spT1.ok (a := (.pair (.int .i64) (.pair (.int .i64) (.pair (.int .u8) (.int .i64))))) (pre := fun _ => True) fun x0 _ => cLChk x0.1 x0.2.1 x0.2.2.1 x0.2.2.2) (.cons (spT1.ok (a := (.pair (.int .i64) (.pair (.int .i64) (.pair (.int .u8) (.int .i64))))) (pre := fun _ => True) fun x0 _ => cRChk x0.1 x0.2.1 x0.2.2.1 x0.2.2.2) (.cons (spT1.ok (a := (.pair (.int .i64) (.pair (.int .i64) (.pair (.int .u8) (.int .i64))))) fun x0 h => cPackRT x0.1 x0.2.1 x0.2.2.1 x0.2.2.2 h) (.cons (spT2.ok (a := (.sl (.int .u8))) (b := (.int .i64)) fun x0 x1 h => cUnpackT x0.1 x0.2 x1 h) (.cons (spT2.ok (a := (.sl (.int .u8))) (b := (.int .i64)) fun x0 x1 h => cUnpackRT x0.1 x0.2 x1 h) (.cons (spT2.ok (a := (.sl (.int .u8))) (b := (.sl (.int .u8))) fun x0 x1 h => cEqB x0.1 x0.2 x1.1 x1.2 h) (.cons (spT1.ok (a := (.sl (.int .u8))) fun x0 h => cCopyB x0.1 x0.2 h) .nil)))))))) (.cons tPack .nil) .nil (.cons Try.call33 Try.func33 (ac33_ok none) (by rw [Try.ntmps33]; exact Nat.le_refl _) (.cons Try.call26 Try.func26 (ac26_ok none) (by rw [Try.ntmps26]; exact Nat.le_refl _) (.cons Try.call34 Try.func34 (ac34_ok none) (by rw [Try.ntmps34]; exact Nat.le_refl _) (.cons Try.call58 Try.func58 (ac58_ok none) (by rw [Try.ntmps58]; exact Nat.le_refl _) .nil)))) 6 Try.call4 Try.func4 (ac4_ok (some (0, 0))) (by rw [Try.ntmps4]; exact Nat.le_refl _) rfl ⟨_, rfl⟩ ?_
  intro cmp ar cv tn ic ai mx an ad ml sb mn ln em gt up ap sc vw cp rp p1 p2 s1 s2 X Y hX hY r0 r1 r2 r3 r4 r5 r6 r7 r8 r9 r10 r11 r12 r13 r14 r15 r16 r17 r18 r19 r20 r21 r22 r23 r24
  generalize hg0 : lcheckM = g0
  generalize hg1 : packM = g1
  generalize hg2 : unpE = g2
  generalize hg3 : unpC = g3
  generalize hg4 : eqI = g4
  cbv
  dsimp only
  obtain ⟨e, he⟩ : ∃ e, e = g0 (a, (t, (se, m))) := ⟨_, rfl⟩
  obtain ⟨B, hB⟩ : ∃ B, B = g1 (a, (t, (se, m))) := ⟨_, rfl⟩
  obtain ⟨f, hf⟩ : ∃ f, f = g2 b to := ⟨_, rfl⟩
  obtain ⟨⟨v1, v2, v3, v4⟩, hv⟩ : ∃ u : Int × Int × Int × Int, u = g3 b to := ⟨_, rfl⟩
  rw [← he, ← hB, ← hf, ← hv]
  dsimp only
  have hBl : B.length ≤ 56 := by
    rw [hB, ← hg1]
    unfold packM
    split
    · exact Nat.le_of_eq rfl
    · exact Nat.zero_le _
  have hq : ∀ x, g4 x x = true := fun x => by rw [← hg4]; simp [eqI]
  have hlb : ic (ln tB b) = b.length := by rw [r4, r12]
  rw [hlb]
  refine BR.gtr r0 (fun _ => trivial) fun hb2 => ?_
  have hbn : b.length ≤ 200 := by omega
  refine ⟨⟨by omega⟩, ⟨hse⟩, ⟨hb, hto.1, hto.2, by omega⟩, ?_⟩
  refine LOOP.ind (σ := Int) (fun i => [(1, .tl nb tB b), (2, .p (iv to)), (3, .ptr 0 0), (7, .tl none tB b), (8, .tl none tB B), (9, .p (iv e)), (10, .ptr 1 0), (11, .p (iv f)), (12, .p (iv i))])
    (fun _ => ⟨[{ cells := [.p (iv a), .p (iv t), .p (uv se), .p (iv m)], e := 34, fz := false }, { cells := [.p (iv v1), .p (iv v2), .p (uv v3), .p (iv v4)], e := 34, fz := false }], []⟩) (fun i => (2 - i).toNat) (fun i => 0 ≤ i ∧ i ≤ 2) 0 ⟨by omega, by omega⟩ (.inl ⟨rfl, rfl⟩) ?_
  intro i hI X' hX
  obtain ⟨hI1, hI2⟩ := hI
  have heq : ∀ x y z w x' y' z' w' : Int, an (cmp .eql x x') (an (cmp .eql y y') (an (cmp .eql z z') (an (cmp .eql w w') true))) = decide (x = x' ∧ y = y' ∧ z = z' ∧ w = w') := fun x y z w x' y' z' w' => by
    rw [r7, r0]; simp [cmpR]
  obtain ⟨j, hj⟩ : ∃ j, j = ar .add .i64 i 1 := ⟨_, rfl⟩
  have hadd : i < 2 → j = i + 1 := fun h => by rw [hj, r1]; exact wrap64 (n := i + 1) (by omega) (by omega)
  have hvw : ∀ (N : Nat) (L : List Int), L.length = N → vw tB N L 0 N = L := fun N L h => by rw [r18]; exact vw_all (t := tB) h
  cbv
  dsimp only
  rw [← he, ← hB]
  try simp only [nc_eq] at *
  refine BR.lss r0 (fun h1 => ⟨⟨hse⟩, OWNK.mk (fun h0 => ?_) fun N hne hN => ?_⟩) (fun h1 => trivial)
  · cbv
    dsimp only
    rw [← hf, ← hv, ← he]
    dsimp only
    rw [heq]
    refine ⟨⟨hb, hto.1, hto.2, by omega⟩, BR.nn r0 (BR.nn r0 (BR.nn r0 (BR.mk (fun _ => ⟨⟨by simp⟩, BR.mk (fun _ => ⟨⟨by omega⟩, BR.mk (fun _ => ?_) (fun h => absurd h (by rw [hq]; decide))⟩) (fun h => absurd h (by rw [h0, hq]; decide))⟩) (fun h => absurd h (by simp)))))⟩
    refine LOOP.ind0 (σ := Unit) (fun _ => [(0, .p (.sl (some true) 0 [])), (2, .p (iv 0))]) (fun _ => ⟨[{ cells := [.p (iv a), .p (iv t), .p (uv se), .p (iv m)], e := 34, fz := false }, { cells := [.p (iv v1), .p (iv v2), .p (uv v3), .p (iv v4)], e := 34, fz := false }, { cells := [.p (iv v1), .p (iv v2), .p (uv v3), .p (iv v4)], e := 34, fz := false }], []⟩) (fun _ => 0) (fun _ => True) () trivial (.inl ⟨rfl, rfl⟩) ?_
    intro _ _ X2 hX2
    cbv
    refine BR.lss r0 (fun h => absurd h (by rw [r4]; decide)) fun _ => ?_
    have hj2 := hadd h1
    rw [← hj]
    exact NEXT.mk (hX j _ _ ⟨by omega, by omega⟩ (by show (2 - j).toNat < (2 - i).toNat; omega) (.inr ⟨[some 0, some 1], [], by rw [SIM_iff]; cbv; simp [nlLe_self, lstEq]⟩))
  · cbv
    dsimp only
    rw [← hf, ← hv, ← he]
    dsimp only
    rw [heq, hvw N B hN.symm]
    refine ⟨⟨hb, hto.1, hto.2, by omega⟩, BR.nn r0 (BR.nn r0 (BR.nn r0 (BR.mk (fun _ => ⟨⟨⟨by rw [r8]; show 0 + N ≤ N; omega⟩, trivial⟩, ⟨by omega⟩, BR.mk (fun _ => ⟨⟨by omega⟩, BR.mk (fun _ => ?_) (fun h => absurd h (by rw [hq]; decide))⟩) (fun h => absurd h (by rw [hq]; decide))⟩) (fun h => absurd h (by simp)))))⟩
    refine LOOP.ind0 (σ := List Int × Int) (fun (L, i) => [(0, .ms 2 0 1 none N), (2, .p (iv i))]) (fun (L, i) => ⟨[{ cells := [.p (iv a), .p (iv t), .p (uv se), .p (iv m)], e := 34, fz := false }, { cells := [.p (iv v1), .p (iv v2), .p (uv v3), .p (iv v4)], e := 34, fz := false }, { cells := [.arr N tB L], e := 5, fz := false }, { cells := [.p (iv v1), .p (iv v2), .p (uv v3), .p (iv v4)], e := 34, fz := false }], []⟩) (fun (L, i) => (N - i).toNat) (fun (L, i) => 0 ≤ i ∧ i ≤ N) (B, 0) (by simp) (.inl ⟨rfl, rfl⟩) ?_
    intro ⟨L, k⟩ hJ X2 hX2
    obtain ⟨hJ1, hJ2⟩ := hJ
    have hNn : N ≤ 56 := by omega
    have hadd2 : k < N → ar .add .i64 k 1 = k + 1 := fun h => by rw [r1]; exact wrap64 (n := k + 1) (by omega) (by omega)
    have hlN : ic N = N := by rw [r4]
    cbv
    rw [hlN]
    try simp only [nc_eq] at *
    refine BR.lss r0 (fun h => ?_) fun h => ?_
    · rw [hadd2 h]
      exact ⟨⟨hJ1, h⟩, ⟨hJ1, h⟩, NEXT.mk (hX2 (_, _) _ _ ⟨by show 0 ≤ k + 1; omega, by show k + 1 ≤ (N : Int); omega⟩ (by show ((N : Int) - (k + 1)).toNat < ((N : Int) - k).toNat; omega) (.inl ⟨rfl, rfl⟩))⟩
    · have hj2 := hadd h1
      rw [← hj]
      exact NEXT.mk (hX j _ _ ⟨by omega, by omega⟩ (by show (2 - j).toNat < (2 - i).toNat; omega) (.inr ⟨[some 0, some 1], [], by rw [SIM_iff]; cbv; simp [nlLe_self, lstEq]⟩))
theorem bodies_typed : ∀ xs, TyVs Try.prog [34, 54, 3] xs → PurFn Try.prog 4 (xs.map .p) (.v (.bool true)) := law3 (P := Try.prog) (f := 4) (t1 := 34) (t2 := 54) (t3 := 3) (T1 := tChoice) (T2 := .sl tB) (T3 := tI) (by kernel_rfl) fun c b to hc hb hto => lawBodies c.1 c.2.1 c.2.2.1 c.2.2.2 b.1 b.2 to (wf_u8 hc.2.2.1).1 (fun x hx => (wf_u8 (hb.2.2 x hx)).1) (by have := wf_i64 hto; exact ⟨this.1, by omega⟩)
end Go.Ab

