/- The reference's Pack and Unpack. -/
import Derived.Test.YtbjehpjlpckbfaaLg
set_option linter.unusedSimpArgs false
set_option linter.unusedVariables false
set_option maxRecDepth 20000
set_option maxHeartbeats 4000000
namespace Go.Ab
open Go.Proofs
theorem shrAndI {v a : Int} (ha : 0 ≤ a) (h62 : a ≤ 62) (h0 : 0 ≤ v) (h1 : v < 4611686018427387904) : IntKind.wrap .u8 (arR .and .i64 (arR .shr .i64 v a) 1) = v / 2 ^ a.toNat % 2 := by
  obtain ⟨k, rfl⟩ : ∃ k : Nat, a = k := ⟨a.toNat, by omega⟩
  obtain ⟨m, rfl⟩ : ∃ m : Nat, v = m := ⟨v.toNat, by omega⟩
  have hk : k ≤ 62 := by omega
  have e2 : arR .shr .i64 ((m : Nat) : Int) (k : Nat) = ((m / 2 ^ k : Nat) : Int) := by
    have hmin : min ((k : Nat) : Int).toNat (IntKind.bits .i64) = k := by
      rw [Int.toNat_natCast]; exact Nat.min_eq_left (Nat.le_trans hk (by decide))
    show Int.fdiv ((m : Nat) : Int) (2 ^ min ((k : Nat) : Int).toNat (IntKind.bits .i64)) = _
    rw [hmin, show ((2 : Int) ^ k) = ((2 ^ k : Nat) : Int) by rw [Int.natCast_pow]; rfl]
    rw [Int.fdiv_eq_ediv_of_nonneg _ (Int.natCast_nonneg _)]; rfl
  have hle : m / 2 ^ k ≤ m := Nat.div_le_self _ _
  rw [e2]
  show IntKind.wrap .u8 (IntKind.wrap .i64 ((BitVec.ofInt 64 ((m / 2 ^ k : Nat) : Int) &&& BitVec.ofInt 64 (1 : Int)).toNat : Int)) = _
  rw [BitVec.ofInt_natCast, show BitVec.ofInt 64 (1 : Int) = BitVec.ofNat 64 1 from rfl, BitVec.toNat_and, BitVec.toNat_ofNat, BitVec.toNat_ofNat, Nat.mod_eq_of_lt (by omega), show 1 % 2 ^ 64 = 1 from rfl, Nat.and_one_is_mod]
  rw [wrap64 (n := ((m / 2 ^ k % 2 : Nat) : Int)) (by omega) (by omega)]
  have : ((m : Int) / 2 ^ k % 2) = ((m / 2 ^ k % 2 : Nat) : Int) := by
    rw [Int.natCast_emod, Int.natCast_ediv, Int.natCast_pow]; rfl
  rw [Int.toNat_natCast, this]
  simp [IntKind.wrap, IntKind.signed, IntKind.bits]
  omega
theorem cFieldR0 (L R : List Int) (a m : Nat) (v n : Int) (hL : L = []) (hR : R = L ++ encM v n.toNat) (ha : a = L.length) (hm : m = R.length) (h0 : 0 ≤ v) (h1 : v < 4611686018427387904) (hn : 0 ≤ n) (hn2 : n ≤ 60) (hLl : L.length ≤ 1000) : FnS Try.prog 49 ([.p (.sl (some true) 0 []), .p (iv v), .p (iv n)]) (⟨[], []⟩ ) fun x_ s_ => x_ = (.og 0 tB R) ∧ s_ = (⟨[], [(m, 5)]⟩) := by
  refine FnS.of (S := []) (T := []) (U := []) (tbl := []) (n := 24) hm32 cfg .nil .nil .nil .nil 0 Try.call49 Try.func49 (ac49_ok (some (0, 0))) (by rw [Try.ntmps49]; exact Nat.le_refl _) rfl _ _ _ (by rfl) ?_
  intro cmp ar cv tn ic ai mx an ad ml sb mn ln em gt up ap sc vw cp rp p1 p2 s1 s2 X Y hX hY r0 r1 r2 r3 r4 r5 r6 r7 r8 r9 r10 r11 r12 r13 r14 r15 r16 r17 r18 r19 r20 r21 r22 r23 r24
  cbv
  have hsub : ∀ i, 0 ≤ i → i ≤ 60 → ar .sub .i64 i 1 = i - 1 := fun i h h' => by rw [r1]; exact wrap64 (n := i - 1) (by omega) (by omega)
  rw [hsub n hn hn2]
  refine LOOP.ind (σ := List Int × Int) (fun (O, i) => [(0, .og 0 tB O), (1, .p (iv v)), (7, .p (iv i))]) (fun (O, i) => ⟨[], [(ml (ln tB O) 1, 5)]⟩) (fun (O, i) => (i + 1).toNat) (fun (O, i) => -1 ≤ i ∧ i < n ∧ O ++ encM v (i + 1).toNat = R ∧ O.length ≤ 1100 - i) (L, n - 1) (by dsimp only; rw [show n - 1 + 1 = n by omega]; exact ⟨by omega, by omega, hR.symm, by omega⟩) (.inr ⟨[], [none], ?_⟩) ?_
  · rw [SIM_iff]; cbv; simp [nlLe_self, lstEq, hL, r9, r12, ha]
  intro ⟨O, i⟩ hI X' hX
  dsimp only at hI
  obtain ⟨hI1, hI2, hI3, hI4⟩ := hI
  have hcv : 0 ≤ i → cv .u64 i = i := fun h => by rw [r2]; exact wrap_u64 h (by omega)
  obtain ⟨x, hx⟩ : ∃ x, x = cv .u8 (ar .and .i64 (ar .shr .i64 v i) 1) := ⟨_, rfl⟩
  have hxv : 0 ≤ i → x = v / 2 ^ i.toNat % 2 := fun h => by rw [hx, r1, r2]; exact shrAndI h (by omega) h0 h1
  have hap : ap tB O [x] = O ++ [x] := by rw [r16]
  have hlo : ln tB O = O.length := by rw [r12]
  have hl1 : ln tB [x] = 1 := by rw [r12]; rfl
  have hend : ¬ i ≥ 0 → O = R := fun h => by rw [← hI3, show (i + 1).toNat = 0 by omega]; simp [encM]
  cbv
  try simp only [nc_eq] at *
  refine BR.geq r0 (fun hc => ?_) (fun hc => ?_)
  · rw [hcv hc, ← hx, hl1]
    refine ⟨⟨hc⟩, ⟨rfl⟩, ⟨by rw [r8, hlo]; show (O.length + 1) * 1 ≤ _; omega, by rw [r8, hlo]; show O.length + 1 ≤ 2 ^ 63 - 1; omega⟩, NEXT.mk ?_⟩
    rw [hap, hsub i hc (by omega)]
    have hnI : -1 ≤ i - 1 ∧ i - 1 < n ∧ (O ++ [x]) ++ encM v (i - 1 + 1).toNat = R ∧ ((O ++ [x]).length : Int) ≤ 1100 - (i - 1) := by
      refine ⟨by omega, by omega, ?_, by rw [List.length_append, List.length_singleton]; omega⟩
      rw [show i - 1 + 1 = i by omega, hxv hc, ← hI3, show (i + 1).toNat = i.toNat + 1 by omega, encM]
      simp
    exact hX (_, _) _ _ hnI (by show (i - 1 + 1).toNat < (i + 1).toNat; omega) (.inl ⟨rfl, rfl⟩)
  · refine RET.mk ⟨[], [some 0], ?_⟩
    rw [SIM_iff]; cbv
    simp [lstEq, hend hc, r9, r12, hm]
theorem cFieldR1 (L R : List Int) (a m : Nat) (v n : Int) (hL : True) (hR : R = L ++ encM v n.toNat) (ha : a = L.length) (hm : m = R.length) (h0 : 0 ≤ v) (h1 : v < 4611686018427387904) (hn : 0 ≤ n) (hn2 : n ≤ 60) (hLl : L.length ≤ 1000) : FnS Try.prog 49 ([.og 0 tB L, .p (iv v), .p (iv n)]) (⟨[], [(a, 5)]⟩ ) fun x_ s_ => x_ = (.og 0 tB R) ∧ s_ = (⟨[], [(m, 5)]⟩) := by
  refine FnS.of (S := []) (T := []) (U := []) (tbl := []) (n := 24) hm32 cfg .nil .nil .nil .nil 0 Try.call49 Try.func49 (ac49_ok (some (0, 1))) (by rw [Try.ntmps49]; exact Nat.le_refl _) rfl _ _ _ (by rfl) ?_
  intro cmp ar cv tn ic ai mx an ad ml sb mn ln em gt up ap sc vw cp rp p1 p2 s1 s2 X Y hX hY r0 r1 r2 r3 r4 r5 r6 r7 r8 r9 r10 r11 r12 r13 r14 r15 r16 r17 r18 r19 r20 r21 r22 r23 r24
  cbv
  have hsub : ∀ i, 0 ≤ i → i ≤ 60 → ar .sub .i64 i 1 = i - 1 := fun i h h' => by rw [r1]; exact wrap64 (n := i - 1) (by omega) (by omega)
  rw [hsub n hn hn2]
  refine LOOP.ind (σ := List Int × Int) (fun (O, i) => [(0, .og 0 tB O), (1, .p (iv v)), (7, .p (iv i))]) (fun (O, i) => ⟨[], [(ml (ln tB O) 1, 5)]⟩) (fun (O, i) => (i + 1).toNat) (fun (O, i) => -1 ≤ i ∧ i < n ∧ O ++ encM v (i + 1).toNat = R ∧ O.length ≤ 1100 - i) (L, n - 1) (by dsimp only; rw [show n - 1 + 1 = n by omega]; exact ⟨by omega, by omega, hR.symm, by omega⟩) (.inr ⟨[], [some 0], ?_⟩) ?_
  · rw [SIM_iff]; cbv; simp [nlLe_self, lstEq, hL, r9, r12, ha]
  intro ⟨O, i⟩ hI X' hX
  dsimp only at hI
  obtain ⟨hI1, hI2, hI3, hI4⟩ := hI
  have hcv : 0 ≤ i → cv .u64 i = i := fun h => by rw [r2]; exact wrap_u64 h (by omega)
  obtain ⟨x, hx⟩ : ∃ x, x = cv .u8 (ar .and .i64 (ar .shr .i64 v i) 1) := ⟨_, rfl⟩
  have hxv : 0 ≤ i → x = v / 2 ^ i.toNat % 2 := fun h => by rw [hx, r1, r2]; exact shrAndI h (by omega) h0 h1
  have hap : ap tB O [x] = O ++ [x] := by rw [r16]
  have hlo : ln tB O = O.length := by rw [r12]
  have hl1 : ln tB [x] = 1 := by rw [r12]; rfl
  have hend : ¬ i ≥ 0 → O = R := fun h => by rw [← hI3, show (i + 1).toNat = 0 by omega]; simp [encM]
  cbv
  try simp only [nc_eq] at *
  refine BR.geq r0 (fun hc => ?_) (fun hc => ?_)
  · rw [hcv hc, ← hx, hl1]
    refine ⟨⟨hc⟩, ⟨rfl⟩, ⟨by rw [r8, hlo]; show (O.length + 1) * 1 ≤ _; omega, by rw [r8, hlo]; show O.length + 1 ≤ 2 ^ 63 - 1; omega⟩, NEXT.mk ?_⟩
    rw [hap, hsub i hc (by omega)]
    have hnI : -1 ≤ i - 1 ∧ i - 1 < n ∧ (O ++ [x]) ++ encM v (i - 1 + 1).toNat = R ∧ ((O ++ [x]).length : Int) ≤ 1100 - (i - 1) := by
      refine ⟨by omega, by omega, ?_, by rw [List.length_append, List.length_singleton]; omega⟩
      rw [show i - 1 + 1 = i by omega, hxv hc, ← hI3, show (i + 1).toNat = i.toNat + 1 by omega, encM]
      simp
    exact hX (_, _) _ _ hnI (by show (i - 1 + 1).toNat < (i + 1).toNat; omega) (.inl ⟨rfl, rfl⟩)
  · refine RET.mk ⟨[], [some 0], ?_⟩
    rw [SIM_iff]; cbv
    simp [lstEq, hend hc, r9, r12, hm]
structure FLDK (L : List Int) (a : Nat) (v n : Int) (K : List Int → Nat → Prop) : Prop where
  pre : a = L.length ∧ 0 ≤ v ∧ v < 4611686018427387904 ∧ 0 ≤ n ∧ n ≤ 60 ∧ L.length ≤ 1000
  h : ∀ R m, R = L ++ encM v n.toNat → m = R.length → K R m
def fldAt (ds : List DC) (st : StS) (F : List Nat → List DC → StS → List Int → Nat → Prop) : Prop := match ds with
  | [.p (.sl (some true) 0 []), .p (.v (.int .i64 v)), .p (.v (.int .i64 n))] => FLDK [] 0 v n fun R m => F [] [.p (.sl (some true) 0 []), .p (iv v), .p (iv n)] ⟨[], []⟩ R m
  | [.og G t L, .p (.v (.int .i64 v)), .p (.v (.int .i64 n))] => (match castL tB t L, nthD st.grp G with
    | some L, some (a, _) => FLDK L a v n fun R m => F [G] [.og 0 tB L, .p (iv v), .p (iv n)] ⟨[], [(a, 5)]⟩ R m
    | _, _ => False)
  | _ => False
def spFld : OpsS → CallS := fun _ _ ds st K => fldAt ds st fun hl dsL stL R m => frS [] hl dsL stL (.og 0 tB R) ⟨[], [(m, 5)]⟩ ds st K
def spFldU : OpsS → List Nat → CallS := fun _ pl _ ds st K => fldAt ds st fun hl dsL stL R m => frST pl [] hl dsL stL (.og 0 tB R) ⟨[], [(m, 5)]⟩ ds st K
theorem fldAt_ok {ds : List DC} {st : StS} {F : List Nat → List DC → StS → List Int → Nat → Prop} {G : Prop} (h : fldAt ds st F)
    (hF : ∀ hl dsL stL R m, F hl dsL stL R m → (FnS Try.prog 49 dsL stL fun x s => x = .og 0 tB R ∧ s = ⟨[], [(m, 5)]⟩) → G) : G := by
  unfold fldAt at h
  split at h
  · obtain ⟨h1, h2, h3, h4, h5, h6⟩ := h.pre
    exact hF _ _ _ _ _ (h.h _ _ rfl rfl) (cFieldR0 [] _ _ _ _ _ rfl rfl h1 rfl h2 h3 h4 h5 h6)
  · split at h
    · obtain ⟨h1, h2, h3, h4, h5, h6⟩ := h.pre
      exact hF _ _ _ _ _ (h.h _ _ rfl rfl) (cFieldR1 _ _ _ _ _ _ trivial rfl h1 rfl h2 h3 h4 h5 h6)
    · exact h.elim
  · exact h.elim
theorem tFld : ∀ ds st K, spFld OpsS.real 49 ds st K → FnS Try.prog 49 ds st K := fun ds st K h => fldAt_ok h fun hl dsL stL R m hf hs => frS_ok hs hf
theorem uFld : ∀ pl ds st K, spFldU OpsS.real pl 49 ds st K → CT Try.prog pl 49 (concL ds) st.conc (KP K) := fun pl ds st K h => fldAt_ok h fun hl dsL stL R m hf hs => frST_ok hs hf
theorem cPackR (a t se m e : Int) (R : List Int) (hse : 0 ≤ se) (hR : R = packM (a, (t, (se, m)))) (he : e = lcheckM (a, (t, (se, m)))) : PurS Try.prog 27 [injT tChoice (a, (t, (se, m)))] (.tup [.tl none tB R, .p (iv e)]) := by
  refine PurS.of (S := [(32, _)]) (T := [(49, _)]) (U := [(49, _)]) (tbl := []) (n := 21) hm32 cfg (.cons (spT1.ok (a := (.pair (.int .i64) (.pair (.int .i64) (.pair (.int .u8) (.int .i64))))) (pre := fun _ => True) fun x0 _ => cRChk x0.1 x0.2.1 x0.2.2.1 x0.2.2.2) .nil) (.cons tFld .nil) (.cons uFld .nil) .nil 0 Try.call27 Try.func27 (ac27_ok (some (0, 0))) (by rw [Try.ntmps27]; exact Nat.le_refl _) rfl ⟨_, rfl⟩ ?_
  intro cmp ar cv tn ic ai mx an ad ml sb mn ln em gt up ap sc vw cp rp p1 p2 s1 s2 X Y hX hY r0 r1 r2 r3 r4 r5 r6 r7 r8 r9 r10 r11 r12 r13 r14 r15 r16 r17 r18 r19 r20 r21 r22 r23 r24
  generalize hg0 : lcheckM = g0
  cbv
  dsimp only
  have hR2 : R = if g0 (a, (t, (se, m))) = 0 then packL (a, (t, (se, m))) else [] := by rw [hR, ← hg0]; rfl
  have he0 : lcheckM (a, (t, (se, m))) = g0 (a, (t, (se, m))) := by rw [hg0]
  obtain ⟨e', he'⟩ : ∃ e', e' = g0 (a, (t, (se, m))) := ⟨_, rfl⟩
  rw [← he'] at hR2 he0 ⊢
  rw [he0] at he
  clear he'
  refine BR.neq r0 (fun hc => ?_) (fun hc => ?_)
  · rw [if_neg hc] at hR2
    exact ⟨⟨nlLe_none.2 trivial, hR2⟩, he.symm, trivial⟩
  obtain rfl : e' = 0 := Classical.not_not.1 hc
  obtain ⟨h1, h2, h3, h4, h5, h6, h7, h8⟩ := lchk_ok he0
  have hcvs : cv .i64 se = se := by rw [r2]; exact wrap64 (by omega) (by omega)
  rw [if_pos rfl] at hR2
  refine FLDK.mk ⟨rfl, h1, by omega, by decide, by decide, by simp⟩ fun R1 m1 e1 f1 => ?_
  have l1 : R1.length = 24 := by rw [e1]; rfl
  cbv
  rw [hcvs]
  refine ⟨⟨nlLe_self.2 trivial, trivial⟩, FLDK.mk ⟨f1, hse, by omega, by decide, by decide, by omega⟩ fun R2 m2 e2 f2 => ?_⟩
  have l2 : R2.length = 26 := by rw [e2, List.length_append, encM_len, l1]; rfl
  cbv
  refine FLDK.mk ⟨f2, by omega, by omega, by decide, by decide, by omega⟩ fun R3 m3 e3 f3 => ?_
  have l3 : R3.length = 46 := by rw [e3, List.length_append, encM_len, l2]; rfl
  cbv
  refine FLDK.mk ⟨f3, by omega, by omega, by decide, by decide, by omega⟩ fun R4 m4 e4 f4 => ?_
  have hf : R4 = R := by
    rw [e4, e3, e2, e1, hR2]; rfl
  cbv
  exact ⟨⟨nlLe_none.2 trivial, hf⟩, he.symm, trivial⟩
end Go.Ab

