/- LockOrder. -/
import Derived.Test.YtbjehpjlpckbfaaLs
set_option linter.unusedSimpArgs false
set_option linter.unusedVariables false
set_option maxRecDepth 20000
set_option maxHeartbeats 8000000
namespace Go.Ab
open Go.Proofs
theorem cAwake : PurS Try.prog 11 [] (.p (.v (.bool true))) := ⟨_, rfl, s32_awake⟩
structure AFX (L : List tChoice.den) : Prop where
  h : ∃ nums, L = nums.map chO ∧ nums ≠ [] ∧ nums.length ≤ 12 ∧ ∀ x ∈ nums, 1 ≤ x ∧ x ≤ 65536
def maxC (L : List tChoice.den) : Int := maxN (L.map fun c => (c.2.2.2 : Int))
theorem map_chO (nums : List Int) : ((nums.map chO).map fun c : tChoice.den => (c.2.2.2 : Int)) = nums := by
  rw [List.map_map]
  exact List.map_id' nums
theorem maxN_le {l : List Int} {x : Int} (h : x ∈ l) : x ≤ maxN l := by
  have key : ∀ (l : List Int) (a : Int), a ≤ l.foldl max a ∧ ∀ x ∈ l, x ≤ l.foldl max a := by
    intro l
    induction l with
    | nil => intro a; exact ⟨Int.le_refl _, by simp⟩
    | cons y l ih =>
      intro a
      obtain ⟨h1, h2⟩ := ih (max a y)
      refine ⟨by simp only [List.foldl_cons]; omega, fun x hx => ?_⟩
      rcases List.mem_cons.1 hx with rfl | hx
      · simp only [List.foldl_cons]; omega
      · exact h2 x hx
  exact (key l 0).2 x h
theorem maxN_mem {l : List Int} (h : l ≠ []) (hp : ∀ x ∈ l, 1 ≤ x) : maxN l ∈ l := by
  have key : ∀ (l : List Int) (a : Int), l.foldl max a = a ∨ l.foldl max a ∈ l := by
    intro l
    induction l with
    | nil => intro a; exact .inl rfl
    | cons y l ih =>
      intro a
      rcases ih (max a y) with h | h
      · simp only [List.foldl_cons, h]
        by_cases hay : a ≤ y
        · right; rw [show max a y = y by omega]; simp
        · left; omega
      · right; exact List.mem_cons_of_mem _ h
  rcases key l 0 with h' | h'
  · cases l with
    | nil => exact absurd rfl h
    | cons x l =>
      have h1 := maxN_le (l := x :: l) (x := x) (by simp)
      have h2 := hp x (by simp)
      unfold maxN at h1
      omega
  · exact h'
theorem maxN_same {a b : List Int} (h : ∀ x, x ∈ a ↔ x ∈ b) (ha : ∀ x ∈ a, 1 ≤ x) : maxN a = maxN b := by
  by_cases he : a = []
  · subst he
    have : b = [] := List.eq_nil_iff_forall_not_mem.2 fun x hx => by have := (h x).2 hx; cases this
    rw [this]
  · have hb : b ≠ [] := fun e => by
      obtain ⟨x, hx⟩ := List.exists_mem_of_ne_nil a he
      have := (h x).1 hx
      rw [e] at this; cases this
    have h1 := maxN_mem he ha
    have h2 := maxN_mem hb fun x hx => ha x ((h x).2 hx)
    have := maxN_le ((h _).1 h1)
    have := maxN_le ((h _).2 h2)
    omega
theorem AFX.get {L : List tChoice.den} (h : AFX L) (back : Bool) : ∃ nums, AFT nums L ∧ maxC L = maxN (seqO nums back) ∧ maxC L ≠ 0 := by
  obtain ⟨nums, rfl, hne, hl, hb⟩ := h.h
  have hm : maxC (nums.map chO) = maxN nums := by unfold maxC; rw [map_chO]
  refine ⟨nums, ⟨by simp, hl, fun i h0 h1 => ?_, hb⟩, ?_, ?_⟩
  · have hi : i.toNat < nums.length := by omega
    simp [gtR, hi]
  · rw [hm]
    exact maxN_same (fun x => by unfold seqO; split <;> simp) fun x hx => (hb x hx).1
  · rw [hm]
    have := (hb _ (maxN_mem hne fun x hx => (hb x hx).1)).1
    omega
theorem cAfterP (nl : Option Bool) (L : List tChoice.den) (b : Bool) (h : AFX L) : PurS Try.prog 38 [injT (.sl tChoice) (nl, L), injT .bool b] (.tl none tLock [lkO (maxC L)]) := by
  cases b
  · obtain ⟨nums, h1, h2, h3⟩ := h.get false
    exact cAfterfalse nl L nums _ h1 h2 h3
  · obtain ⟨nums, h1, h2, h3⟩ := h.get true
    exact cAftertrue nl L nums _ h1 h2 h3
theorem lawOrder (nn : Option Bool) (nums : List Int) (turn : Int) (hn : ∀ x ∈ nums, 0 ≤ x ∧ x < 65536) (ht : 0 ≤ turn ∧ turn < 256) (hnl : nums.length ≤ maxLen) : PurS Try.prog 7 [injT (.sl (.int .u16)) (nn, nums), injT tU turn] (.sb true) := by
  refine PurS.of (S := [(11, _), (38, _), (21, _)]) (T := []) (U := []) (tbl := [(37, ac37 none, [.cell 4 (some 4)], 8)]) (n := 85) hm32 cfg (.cons (spT0.ok cAwake) (.cons (spT2.ok (a := (.sl (.pair (.int .i64) (.pair (.int .i64) (.pair (.int .u8) (.int .i64)))))) (b := .bool) fun x0 x1 h => cAfterP x0.1 x0.2 x1 h) (.cons (spT2.ok (a := (.sl (.pair (.int .i64) (.pair (.int .u8) (.pair (.int .i64) (.int .i64)))))) (b := (.sl (.pair (.int .i64) (.pair (.int .u8) (.pair (.int .i64) (.int .i64)))))) fun x0 x1 h => cEqK x0.1 x0.2 x1.1 x1.2 h) .nil))) .nil .nil (.cons Try.call37 Try.func37 (ac37_ok none) (by rw [Try.ntmps37]; exact Nat.le_refl _) .nil) 6 Try.call7 Try.func7 (ac7_ok (some (0, 0))) (by rw [Try.ntmps7]; exact Nat.le_refl _) rfl ⟨_, rfl⟩ ?_
  intro cmp ar cv tn ic ai mx an ad ml sb mn ln em gt up ap sc vw cp rp p1 p2 s1 s2 X Y hX hY r0 r1 r2 r3 r4 r5 r6 r7 r8 r9 r10 r11 r12 r13 r14 r15 r16 r17 r18 r19 r20 r21 r22 r23 r24
  generalize hg0 : lkO = g0
  generalize hg1 : maxC = g1
  generalize hg2 : eqK = g2
  cbv
  simp only [maxLen] at hnl
  obtain ⟨W, hW⟩ : ∃ W, W = nums.take 12 := ⟨_, rfl⟩
  obtain ⟨N, hN⟩ : ∃ N : Int, N = W.length := ⟨_, rfl⟩
  have hlW : W.length = min 12 nums.length := by rw [hW, List.length_take]
  have hln : ic (ln (.int .u16) nums) = nums.length := by rw [r4, r12]
  have hmx : mx false (ic (ln (.int .u16) nums)) 12 = N := by rw [hln, r6]; unfold mxR; simp only [Bool.false_eq_true, if_false]; split <;> omega
  have hsc : sc (.int .u16) nums 0 N = W := by
    rw [r17]; unfold scR
    rw [hN, hlW, hW, Int.toNat_natCast]
    show (nums.take (min 12 nums.length)).drop 0 = _
    rw [List.drop_zero]
    by_cases h : nums.length ≤ 12
    · rw [Nat.min_eq_right h, List.take_of_length_le (Nat.le_refl _), List.take_of_length_le h]
    · rw [Nat.min_eq_left (by omega)]
  have hWb : ∀ x ∈ W, 0 ≤ x ∧ x < 65536 := fun x hx => hn x (by rw [hW] at hx; exact List.mem_of_mem_take hx)
  have hlnW : ic (ln (.int .u16) W) = N := by rw [r4, r12, hN]
  rw [hmx, hsc, hln]
  refine BR.eql r0 (fun _ => trivial) (fun hz => ⟨⟨by omega, by omega, by omega⟩, ?_⟩)
  have hN1 : 1 ≤ N ∧ N ≤ 12 := by omega
  have hE2 : ∀ x, g2 x x = true := fun x => by rw [← hg2]; simp [eqK]
  obtain ⟨V, hV⟩ : ∃ V : List Int, V = W.map (· + 1) := ⟨_, rfl⟩
  have hVl : V.length = W.length := by rw [hV, List.length_map]
  have hVb : ∀ x ∈ V, 1 ≤ x ∧ x ≤ 65536 := fun x hx => by
    rw [hV] at hx
    obtain ⟨y, hy, rfl⟩ := List.mem_map.1 hx
    have := hWb y hy
    omega
  clear hsc hmx hln hlW hW hn hnl hz
  refine LOOP.ind (σ := Int × List tChoice.den × Int) (fun (G, A, i) => [(1, .p (uv turn)), (5, .tl nn (.int .u16) W), (6, .p (iv G)), (7, .og 0 tChoice A), (8, .p (.sl (some true) 0 [])), (9, .p (iv i))])
    (fun (G, A, i) => ⟨[], [(ml (ln tChoice A) 4, 34)]⟩) (fun (G, A, i) => (N - i).toNat) (fun (G, A, i) => (0 ≤ i ∧ i ≤ N) ∧ G = maxN (V.take i.toNat) ∧ A = (V.take i.toNat).map chO ∧ A.length = i.toNat) (0, [], 0) ⟨by omega, rfl, rfl, rfl⟩ (.inr ⟨[], [none], ?_⟩) ?_
  · rw [SIM_iff]; cbv; simp [nlLe_self, lstEq]
  intro ⟨G, A, i⟩ hI X' hX
  dsimp only at hI
  obtain ⟨⟨hI1, hI2⟩, hG, hA, hAl⟩ := hI
  obtain ⟨x, hx⟩ : ∃ x : Int, x = gt (.int .u16) W i := ⟨_, rfl⟩
  have hxb : i < N → 0 ≤ x ∧ x < 65536 := fun h => by rw [hx, r14]; exact hWb _ (gtR_mem (t := .int .u16) hI1 (by omega))
  have hxv : i < N → gtR tI V i = x + 1 := fun h => by
    have hi : i.toNat < W.length := by omega
    rw [hx, r14, hV]; simp [gtR, hi]
  have hGb := maxN_bd (l := V.take i.toNat) fun y hy => hVb y (List.mem_of_mem_take hy)
  rw [← hG] at hGb
  have htk : i < N → max G (x + 1) = maxN (V.take (i + 1).toNat) := fun h => by rw [maxN_take hI1 (by omega), hxv h, ← hG]
  have hst : i < N → A ++ [chO (x + 1)] = (V.take (i + 1).toNat).map chO := fun h => by
    have hlt : i.toNat < V.length := by omega
    rw [show (i + 1).toNat = i.toNat + 1 by omega, List.take_add_one, List.getElem?_eq_getElem hlt, List.map_append, ← hA]
    have : V[i.toNat] = x + 1 := by rw [← hxv h]; simp [gtR, hlt]
    simp [this]
  have hv : i < N → ar .add .i64 1 (cv .i64 x) = x + 1 := fun h => by
    have := hxb h
    rw [r1, r2]; simp only [arR]
    rw [wrap64 (n := x) (by omega) (by omega), wrap64 (n := 1 + x) (by omega) (by omega)]; omega
  have hs : i < N → cv .u8 (ar .rem .i64 (x + 1) 3) = (x + 1) % 3 := fun h => by
    have := hxb h
    rw [r1, r2]
    show IntKind.wrap .u8 (Int.tmod (x + 1) 3) = _
    rw [Int.tmod_eq_emod_of_nonneg (by omega)]
    simp [IntKind.wrap, IntKind.signed, IntKind.bits]
    omega
  have hmxv : mx true G (x + 1) = max G (x + 1) := by rw [r6]; unfold mxR; simp only [if_true]; split <;> omega
  obtain ⟨y, hy⟩ : ∃ y, y = chO (x + 1) := ⟨_, rfl⟩
  have hch : ((7 : Int), (9 : Int), (x + 1) % 3, x + 1) = y := by rw [hy]; rfl
  rw [← hy] at hst
  have hap : ap tChoice A [y] = A ++ [y] := by rw [r16]
  have hlA : ln tChoice A = A.length := by rw [r12]
  have hl1 : ln tChoice [y] = 1 := by rw [r12]; rfl
  have hadd : i < N → ar .add .i64 i 1 = i + 1 := fun h => by rw [r1]; exact wrap64 (n := i + 1) (by omega) (by omega)
  have hlim : i < N → LIM (ad A.length 1) 32 := fun h => ⟨by rw [r8]; show (A.length + 1) * 32 ≤ _; omega, by rw [r8]; show A.length + 1 ≤ 2 ^ 63 - 1; omega⟩
  have hal : i < N → (A ++ [y]).length = (i + 1).toNat := fun h => by rw [List.length_append, List.length_singleton]; omega
  have hfin : ¬ i < N → A = V.map chO ∧ G = maxN V := fun h => by
    have : V.take i.toNat = V := List.take_of_length_le (by omega)
    rw [this] at hA hG
    exact ⟨hA, hG⟩
  clear hA hG hy
  cbv
  try simp only [nc_eq] at *
  rw [hlnW]
  refine BR.lss r0 (fun hc => ?_) (fun hc => ?_)
  · rw [← hx, hv hc, hs hc, hch, hmxv, hap, hlA, hl1, hadd hc, htk hc]
    refine ⟨⟨hI1, hc⟩, ⟨hI1, hc⟩, ⟨by decide⟩, ⟨rfl⟩, hlim hc, NEXT.mk (hX (maxN (V.take (i + 1).toNat), A ++ [y], i + 1) _ _ ⟨⟨by show 0 ≤ i + 1; omega, by show i + 1 ≤ N; omega⟩, rfl, hst hc, hal hc⟩ (by show (N - (i + 1)).toNat < (N - i).toNat; omega) (.inr ⟨[], [some 0], ?_⟩))⟩
    rw [SIM_iff]; cbv
    exact ⟨⟨⟨rfl, trivial⟩, trivial⟩, ⟨nlLe_self.2 trivial, trivial⟩, nlLe_self.2 trivial, trivial⟩
  · obtain ⟨hA, hG⟩ := hfin hc
    have hAN : ic (ln tChoice A) = N := by rw [r4, r12]; show ((A.length : Nat) : Int) = N; rw [hA, List.length_map, hVl, hN]
    have hAln : A.length = V.length := by rw [hA, List.length_map]
    obtain ⟨k, hk⟩ : ∃ k, k = ar .rem .i64 (cv .i64 turn) N := ⟨_, rfl⟩
    have hkb : 0 ≤ k ∧ k < N := by
      rw [hk, r1, r2]
      show 0 ≤ Int.tmod (IntKind.wrap .i64 turn) N ∧ Int.tmod (IntKind.wrap .i64 turn) N < N
      rw [wrap64 (n := turn) (by omega) (by omega), Int.tmod_eq_emod_of_nonneg (by omega)]
      exact ⟨Int.emod_nonneg _ (by omega), Int.emod_lt_of_pos _ (by omega)⟩
    obtain ⟨S1, hS1⟩ : ∃ S, S = sc tChoice A k N := ⟨_, rfl⟩
    obtain ⟨S2, hS2⟩ : ∃ S, S = sc tChoice A 0 k := ⟨_, rfl⟩
    have e1 : S1 = (V.drop k.toNat).map chO := by
      rw [hS1, r17]; show (A.take N.toNat).drop k.toNat = _
      rw [List.take_of_length_le (by omega), hA, List.map_drop]
    have e2 : S2 = (V.take k.toNat).map chO := by
      rw [hS2, r17]; show (A.take k.toNat).drop 0 = _
      rw [List.drop_zero, hA, List.map_take]
    have hb1 : S1.length ≤ 12 := by rw [e1, List.length_map, List.length_drop]; omega
    have hb2 : S2.length ≤ 12 := by rw [e2, List.length_map, List.length_take]; omega
    obtain ⟨B, hB⟩ : ∃ B, B = ap tChoice S1 S2 := ⟨_, rfl⟩
    have e3 : B = (V.drop k.toNat ++ V.take k.toNat).map chO := by rw [hB, r16, e1, e2, List.map_append]
    have hX1 : AFX A := ⟨V, hA, fun h => by rw [h] at hVl; simp at hVl; omega, by omega, hVb⟩
    have hX2 : AFX B := ⟨_, e3, fun h => by
      have := congrArg List.length h
      simp only [List.length_append, List.length_drop, List.length_take, List.length_nil] at this
      omega, by simp only [List.length_append, List.length_drop, List.length_take]; omega, fun x hx => hVb x (by
        rcases List.mem_append.1 hx with hx | hx
        · exact List.mem_of_mem_drop hx
        · exact List.mem_of_mem_take hx)⟩
    have hm1 : maxC A = G := by unfold maxC; rw [hA, map_chO, hG]
    have hm2 : maxC B = G := by
      unfold maxC
      rw [e3, map_chO, hG]
      refine maxN_same (fun x => ?_) (fun x hx => ?_)
      · rw [List.mem_append, or_comm, ← List.mem_append, List.take_append_drop]
      · rcases List.mem_append.1 hx with hx | hx
        · exact (hVb x (List.mem_of_mem_drop hx)).1
        · exact (hVb x (List.mem_of_mem_take hx)).1
    have hlk : lkO G = (7, (G % 3, (G, 9))) := rfl
    rw [hg1] at hm1 hm2
    rw [hg0] at hlk
    have hsG : cv .u8 (ar .rem .i64 G 3) = G % 3 := by
      rw [r1, r2]
      show IntKind.wrap .u8 (Int.tmod G 3) = _
      rw [Int.tmod_eq_emod_of_nonneg (by omega)]
      simp [IntKind.wrap, IntKind.signed, IntKind.bits]
      omega
    have hl1' : ln tChoice S1 = S1.length := by rw [r12]
    have hl2' : ln tChoice S2 = S2.length := by rw [r12]
    clear e1 e2 e3 hA hG hfin hst htk
    rw [hAN, ← hk, ← hS1, ← hS2, ← hB, hl1', hl2']
    have hlim2 : LIM (ad S1.length S2.length) 32 := ⟨by rw [r8]; show (S1.length + S2.length) * 32 ≤ _; omega, by rw [r8]; show S1.length + S2.length ≤ 2 ^ 63 - 1; omega⟩
    refine ⟨⟨by omega⟩, ⟨by omega, by omega, by omega⟩, ⟨by omega, by omega, by omega⟩, ⟨by omega, by show S1.length ≤ 2 ^ 63 - 1; omega⟩, ⟨rfl⟩, hlim2, ?_⟩
    rw [hm1, hm2, hsG, hlk]
    have no : ∀ z : List LKV, ¬ g2 z z = false := fun z h => by rw [hE2] at h; cases h
    exact ⟨⟨by decide⟩, hX1, ⟨by simp⟩, BR.mk (fun _ => ⟨hX2, ⟨by simp⟩, BR.mk (fun _ => ⟨hX1, ⟨by simp⟩, BR.mk (fun _ => trivial) (fun h => absurd h (no _))⟩) (fun h => absurd h (no _))⟩) (fun h => absurd h (no _))⟩
theorem order_typed : ∀ xs, TyVs Try.prog [66, 5] xs → PurFn Try.prog 7 (xs.map .p) (.v (.bool true)) := law2 (P := Try.prog) (f := 7) (t1 := 66) (t2 := 5) (T1 := .sl (.int .u16)) (T2 := tU) (by kernel_rfl) fun nums turn hn ht => lawOrder nums.1 nums.2 turn (fun x hx => wf_u16 (hn.2.2 x hx)) (wf_u8 ht) hn.1
end Go.Ab
