/- CoordinateRecovers. -/
import Derived.Test.YteiolnofaebknaaMj
set_option linter.unusedSimpArgs false
set_option linter.unusedVariables false
set_option maxRecDepth 20000
set_option maxHeartbeats 4000000
namespace Go.Ab
open Go.Proofs
theorem fat0_mem {l : List Int} : ∀ x ∈ fatL l 0, x = -1 ∨ x = 0 := fun x hx => by
  obtain ⟨q, _, rfl⟩ := List.mem_map.1 hx
  have key : ∀ r : Int, 0 ≤ r → r < 0 + 2 → r - 1 = -1 ∨ r - 1 = 0 := fun r _ _ => by omega
  exact key _ (Int.emod_nonneg _ (by omega)) (Int.emod_lt_of_pos _ (by omega))
theorem fat_len (l : List Int) (m : Int) : (fatL l m).length ≤ 40 := by simp [fatL]; omega
theorem fate_in {F : List Int} {j : Int} (h0 : 0 ≤ j) (h : j < F.length) (h2 : F.length ≤ 40) : fateM (fatesM F) j = gtR tI F j := by
  unfold fateM fatesM gtR
  rw [if_pos (by omega), List.getD_eq_getElem?_getD, List.getElem?_append_left (by omega), List.getD_eq_getElem?_getD]
theorem fate_out {F : List Int} {j : Int} (h : F.length ≤ j) : fateM (fatesM F) j = 0 := by
  unfold fateM fatesM gtR
  split
  · rw [List.getD_eq_getElem?_getD, List.getElem?_append_right (by omega), List.getElem?_replicate]
    split <;> rfl
  · rfl
theorem fate_neg {F : List Int} {j : Int} (h : j < 0) (hF : ∀ x ∈ F, x = -1 ∨ x = 0) : fateM (fatesM F) j = -1 ∨ fateM (fatesM F) j = 0 := by
  have hm : ∀ x ∈ fatesM F, x = -1 ∨ x = 0 := fun x hx => by
    rcases List.mem_append.1 hx with hx | hx
    · exact hF x hx
    · exact .inr (List.eq_of_mem_replicate hx)
  unfold fateM gtR
  split
  · rw [List.getD_eq_getElem?_getD]
    cases hc : (fatesM F)[j.toNat]? with
    | none => exact .inr rfl
    | some v => exact hm v (List.mem_of_getElem? hc)
  · exact .inr rfl
theorem fate_01 {F : List Int} (hF : ∀ x ∈ F, x = -1 ∨ x = 0) (j : Int) : fateM (fatesM F) j = -1 ∨ fateM (fatesM F) j = 0 := by
  have hm : ∀ x ∈ fatesM F, x = -1 ∨ x = 0 := fun x hx => by
    rcases List.mem_append.1 hx with hx | hx
    · exact hF x hx
    · exact .inr (List.eq_of_mem_replicate hx)
  unfold fateM gtR
  split
  · rw [List.getD_eq_getElem?_getD]
    cases hc : (fatesM F)[j.toNat]? with
    | none => exact .inr rfl
    | some v => exact hm v (List.mem_of_getElem? hc)
  · exact .inr rfl
/-- What the loop over the fates keeps. -/
structure RUNI (F : List Int) (n run i : Int) : Prop where
  i0 : 0 ≤ i ∧ i ≤ F.length
  r0 : 0 ≤ run ∧ run ≤ i
  n0 : 0 ≤ n ∧ n ≤ i
  all : ∀ p k, p ≤ i → LOSS (fatesM F) p k → k ≤ n
  last : ∀ k, LOSS (fatesM F) i k → k ≤ run
theorem RUNI.start (F : List Int) : RUNI F 0 0 0 := ⟨by omega, by omega, by omega, fun p k hp hl => by have := hl.1; omega, fun k hl => hl.1⟩
theorem RUNI.step {F : List Int} {n run i : Int} (h : RUNI F n run i) (hi : i < F.length) (h40 : F.length ≤ 40) : RUNI F (max n (if gtR tI F i = 0 then 0 else run + 1)) (if gtR tI F i = 0 then 0 else run + 1) (i + 1) := by
  have hf := fate_in (F := F) (j := i) h.i0.1 hi h40
  have hlast : ∀ k, LOSS (fatesM F) (i + 1) k → k ≤ (if gtR tI F i = 0 then 0 else run + 1) := fun k hl => by
    by_cases hk : k ≤ 0
    · have := h.r0; split <;> omega
    · have h1 := hl.2 i (by omega) (by omega)
      rw [hf] at h1
      rw [if_neg (by rw [h1]; decide)]
      have := h.last (k - 1) ⟨by have := hl.1; omega, fun j j1 j2 => hl.2 j (by omega) (by omega)⟩
      omega
  have hr : 0 ≤ (if gtR tI F i = 0 then 0 else run + 1) ∧ (if gtR tI F i = 0 then 0 else run + 1) ≤ i + 1 := by have := h.r0; have := h.i0; split <;> omega
  refine ⟨by have := h.i0; omega, hr, by have := h.n0; omega, fun p k hp hl => ?_, hlast⟩
  by_cases hpi : p = i + 1
  · subst hpi; have := hlast k hl; omega
  · have := h.all p k (by omega) hl; omega
theorem RUNI.end {F : List Int} {n run i : Int} (h : RUNI F n run i) (hi : ¬ i < F.length) : ∀ u k, LOSS (fatesM F) u k → k ≤ n := fun u k hl => by
  have := h.i0
  have := h.n0
  by_cases hu : u ≤ i
  · exact h.all u k hu hl
  · by_cases hk : k ≤ 0
    · omega
    · have h1 := hl.2 (u - 1) (by omega) (by omega)
      rw [fate_out (by omega)] at h1
      omega
theorem rec_safe {w : List tW.den} {l : List Int} {i : Nat} {n : Int} (h : i < (cutL w).length) (hn : ∀ u k, LOSS (fatesM (fatL l 0)) u k → k ≤ n) (hi : (chgS (cutL w) (i + 1)).1 + n ≤ i) :
    safeM (gtR tMeet (runR 5 6 (cutL w) (fatL l 0) []) i).1 (gtR tMeet (runR 5 6 (cutL w) (fatL l 0) []) i).2 = true := by
  have v : VA 5 6 := by unfold VA; omega
  rw [runR_get h, new_ok v, new_ok v.symm]
  have hl := cut_len w
  have i1 := INV.all (Fa := fatesM (fatL l 0)) (Fb := fatesM []) v (cut_rng (l := w)) (by omega) (i + 1) (by omega)
  have i2 := RINV.all (Fa := fatesM (fatL l 0)) (Fb := fatesM []) v (by omega) (cut_rng (l := w)) (by omega) (fate_01 fat0_mem) (i + 1) (by omega)
  have hs := i1.sound v
  have hh : (cyN (fatesM (fatL l 0)) (fatesM []) (cutL w) ((5, 6, 0, 0, 0, 0), (6, 5, 0, 0, 0, 0), (0, []), (0, [])) (i + 1)).2.1.2.2.2.2.2 = (cyN (fatesM (fatL l 0)) (fatesM []) (cutL w) ((5, 6, 0, 0, 0, 0), (6, 5, 0, 0, 0, 0), (0, []), (0, [])) (i + 1)).1.2.2.2.1 := by
    rcases i2.heard with e | ⟨_, e⟩
    · exact e
    · have := hn _ _ e; omega
  obtain ⟨⟨se, m, h', hm, se', m', h2, hm', ex, ey, _⟩, _⟩ := i1
  dsimp only
  rw [ex, ey] at hs hh ⊢
  dsimp only at hh
  subst hh
  unfold soundM leadsM at hs
  dsimp only at hs
  simpa using hs
theorem lawRecovers (nw : Option Bool) (w : List tW.den) (n1 : Option Bool) (l1 : List Int) (hw : PRE (∀ x ∈ w, 0 ≤ x.1 ∧ 0 ≤ x.2)) (h1 : ∀ x ∈ l1, 0 ≤ x ∧ x < 256) : PurS Try.prog 9 [injT (.sl tW) (nw, w), injT (.sl (.int .u8)) (n1, l1)] (.sb true) := by
  refine PurS.of (S := [(21, _), (27, _), (28, _), (23, _), (25, _)]) (T := []) (tbl := []) (n := 90) hm33 cfg (.cons (spT0.ok caw34) (.cons (spT1.ok (a := (.sl (.pair (.int .u8) (.int .u8)))) fun x0 h => cCut x0.1 x0.2 h) (.cons (spT2.ok (a := (.sl (.int .u8))) (b := (.int .i64)) fun x0 x1 h => cFat x0.1 x0.2 x1 h) (.cons (spT5.ok (a := (.int .i64)) (b := (.int .i64)) (c := (.sl (.pair (.int .u8) (.int .u8)))) (d := (.sl (.int .i64))) (e := (.sl (.int .i64))) fun x0 x1 x2 x3 x4 h => cRun' x0 x1 x2.1 x2.2 x3.1 x3.2 x4.1 x4.2 h) (.cons (spT2.ok (a := (.pair (.int .i64) (.pair (.int .i64) (.pair (.int .u8) (.pair (.int .i64) (.pair (.int .u8) (.int .i64))))))) (b := (.pair (.int .i64) (.pair (.int .i64) (.pair (.int .u8) (.pair (.int .i64) (.pair (.int .u8) (.int .i64))))))) (pre := fun _ _ => True) fun x0 x1 _ => c25 x0.1 x0.2.1 x0.2.2.1 x0.2.2.2.1 x0.2.2.2.2.1 x0.2.2.2.2.2 x1.1 x1.2.1 x1.2.2.1 x1.2.2.2.1 x1.2.2.2.2.1 x1.2.2.2.2.2) .nil))))) .nil .nil 0 Try.call9 Try.func9 (ac9_ok (some (0, 0))) (by rw [Try.ntmps9]; exact Nat.le_refl _) rfl ⟨_, rfl⟩ ?_
  intro cmp ar cv tn ic ai mx an ad ml sb mn ln em gt up ap sc vw cp rp p1 p2 s1 s2 X Y hX hY r0 r1 r2 r3 r4 r5 r6 r7 r8 r9 r10 r11 r12 r13 r14 r15 r16 r17 r18 r19 r20 r21 r22 r23 r24
  generalize hg0 : cutL = g0
  generalize hg1 : fatL = g1
  generalize hg2 : runR = g2
  generalize hg3 : safeM = g3
  cbv
  dsimp only
  have hk : RUNK 5 6 (cutL w) (fatL l1 0) [] := runk (by unfold VA; omega) (by have := cut_len w; omega) (cut_bad w) (fat_wrong (.inl rfl)) (by decide)
  have hf40 : (g1 l1 0).length ≤ 40 := by rw [← hg1]; exact fat_len _ _
  refine ⟨hw, ⟨h1, trivial⟩, ?_⟩
  generalize hgF : g1 l1 0 = F at *
  refine LOOP.ind (σ := Int × Int × Int) (fun (n, run, i) => [(5, .tl none tW (g0 w)), (6, .tl none tI F), (7, .p (iv n)), (8, .p (iv run)), (9, .p (iv i))]) (fun _ => ⟨[], []⟩) (fun (n, run, i) => (40 - i).toNat) (fun (n, run, i) => RUNI F n run i) (0, 0, 0) (.start F) (.inl ⟨rfl, rfl⟩) ?_
  intro ⟨n, run, i⟩ hI X' hX
  dsimp only at hI
  have hFl : ic (ln tI F) = F.length := by rw [r4, r12]
  have hi40 : 0 ≤ i ∧ i ≤ 40 ∧ 0 ≤ run ∧ run ≤ 40 := by have := hI.i0; have := hI.r0; omega
  have ha : i < F.length → ar .add .i64 i 1 = i + 1 := fun _ => by rw [r1]; exact wrap64 (n := i + 1) (by omega) (by omega)
  have hb : ar .add .i64 run 1 = run + 1 := by rw [r1]; exact wrap64 (n := run + 1) (by omega) (by omega)
  have hmx : ∀ a b : Int, mx true a b = max a b := fun a b => by rw [r6]; unfold mxR; simp only [if_true]; split <;> omega
  have hgt : gt tI F i = gtR tI F i := by rw [r14]
  cbv
  try simp only [nc_eq] at *
  rw [hFl, hb, hmx, hmx, hgt]
  refine BR.lss r0 (fun hlt => ?_) (fun hge => ?_)
  · have hst := hI.step hlt hf40
    rw [ha hlt]
    refine ⟨⟨hI.i0.1, hlt⟩, ⟨hI.i0.1, hlt⟩, ?_⟩
    refine BR.eql r0 (fun h0 => ?_) (fun h0 => ?_)
    · rw [if_pos h0] at hst
      refine NEXT.mk (hX (max n 0, 0, i + 1) _ _ hst ?_ (.inl ⟨rfl, rfl⟩))
      show (40 - (i + 1)).toNat < (40 - i).toNat
      omega
    · rw [if_neg h0] at hst
      refine NEXT.mk (hX (max n (run + 1), run + 1, i + 1) _ _ hst ?_ (.inl ⟨rfl, rfl⟩))
      show (40 - (i + 1)).toNat < (40 - i).toNat
      omega
  have hN := hI.end hge
  clear hX hb ha
  have hn40 : 0 ≤ n ∧ n ≤ 40 := by have := hI.n0; omega
  clear hI
  have hlen : ic (ln tMeet (g2 5 6 (g0 w) F [])) = ic (ln tW (g0 w)) := by
    rw [r4, r12, ← hg2, ← hg0]
    exact congrArg Int.ofNat (runR_len _ _ _ _ _)
  have hll : (g2 5 6 (g0 w) F []).length = (g0 w).length := by
    rw [← hg2, ← hg0]
    exact runR_len _ _ _ _ _
  have hl24 : (g0 w).length ≤ 24 := by rw [← hg0]; exact cut_len w
  have hs : ∀ i : Nat, i < (g0 w).length → (chgS (g0 w) (i + 1)).1 + n ≤ i → g3 (gtR tMeet (g2 5 6 (g0 w) F []) i).1 (gtR tMeet (g2 5 6 (g0 w) F []) i).2 = true := by
    rw [← hgF, ← hg1] at hN ⊢
    rw [← hg2, ← hg0, ← hg3]
    exact fun i h hc => rec_safe h hN hc
  have hch : ∀ i : Nat, 0 ≤ (chgS (g0 w) i).1 ∧ (chgS (g0 w) i).1 ≤ i := fun i => by
    induction i with
    | zero => exact ⟨Int.le_refl _, Int.le_refl _⟩
    | succ i ih => unfold chgS; split <;> (try dsimp only) <;> omega
  try simp only [nc_eq]
  generalize hgL : g2 5 6 (g0 w) F [] = L at *
  refine ⟨by rw [← hgF, ← hg1, ← hg0]; exact hk, BR.nn r0 ?_⟩
  rw [hlen]
  refine BR.nn r0 ?_
  generalize hgW : g0 w = W at *
  refine LOOP.ind (σ := (Int × Nat) × Int × Int) (fun ((i, _), ch, be) => [(5, .tl none tW W), (7, .p (iv n)), (10, .tl none tMeet L), (12, .p (iv ch)), (13, .p (.v (.int .u8 be))), (14, .p (iv i))]) (fun _ => ⟨[], []⟩) (fun ((i, _), _) => (24 - i).toNat) (fun ((i, k), ch, be) => i = k ∧ k ≤ W.length ∧ (ch, be) = chgS W k) ((0, 0), 0, 0) ⟨rfl, by omega, rfl⟩ (.inr ⟨[], [], ?_⟩) ?_
  · rw [SIM_iff]; cbv
    exact ⟨⟨nlLe_self.2 trivial, trivial⟩, ⟨nlLe_self.2 trivial, trivial⟩, trivial⟩
  intro ⟨⟨i', k⟩, ch, be⟩ hI X' hX
  dsimp only at hI
  obtain ⟨rfl, hI2, hI3⟩ := hI
  obtain ⟨i, hi⟩ : ∃ i : Int, i = k := ⟨_, rfl⟩
  rw [← hi]
  have hLl : ic (ln tMeet L) = L.length := by rw [r4, r12]
  have hWl : ic (ln tW W) = W.length := by rw [r4, r12]
  have ha : k < W.length → ar .add .i64 i 1 = i + 1 := fun _ => by rw [r1]; exact wrap64 (n := i + 1) (by omega) (by omega)
  have hgL : gt tMeet L i = gtR tMeet L i := by rw [r14]
  have hgW : gt tW W i = gtR tW W i := by rw [r14]
  have hch2 := hch k
  rw [← hI3] at hch2
  have hcn : ∀ c : Int, 0 ≤ c → c ≤ 40 → ar .add .i64 c n = c + n := fun c _ _ => by rw [r1]; exact wrap64 (n := c + n) (by omega) (by omega)
  have hcs : chgS W (k + 1) = if (gtR tW W i).1 ≠ be then (i, (gtR tW W i).1) else (ch, be) := by rw [chgS, ← hI3, hi]
  have hs2 := hs k
  rw [hcs] at hs2
  rw [← hi] at hs2 hch2
  have hc1 := hcn i (by omega) (by omega)
  have hc2 := hcn ch (by omega) (by omega)
  cbv
  rw [hLl, hWl, r21, r22, r14, hc1, hc2]
  refine BR.lss r0 (fun hlt => ?_) (fun _ => by first | rfl | trivial)
  try simp only [nc_eq] at *
  have hkW : k < W.length := by omega
  rw [ha hkW]
  replace hs2 := hs2 hkW
  generalize hw0 : (gtR tW W i).1 = w0 at *
  have hi0 : 0 ≤ i := by omega
  have hiL : INB i (L.length : Int) := ⟨hi0, by omega⟩
  have hiW : INB i (W.length : Int) := ⟨hi0, by omega⟩
  refine ⟨hiW, INB.lit r4 (by decide), hiW, BR.neq r0 (fun hwb => ?_) (fun hwb => ?_)⟩
  · rw [if_pos hwb] at hs2 hcs
    dsimp only at hs2
    repeat' (first | exact True.intro | refine And.intro ?_ ?_ | (refine BR.nn r0 ?_) | (refine BR.lss r0 ?_ ?_ <;> intro _) | (refine BR.neq r0 ?_ ?_ <;> intro _) | (refine BR.eql r0 ?_ ?_ <;> intro _) | (refine BR.leq r0 ?_ ?_ <;> intro _) | (refine BR.gtr r0 ?_ ?_ <;> intro _) | (refine BR.geq r0 ?_ ?_ <;> intro _) | (refine BR.mk ?_ ?_ <;> intro _) | (refine CASE.mk ?_; intro _))
    all_goals first
      | exact hiW
      | exact hiL
      | (show INB _ _; exact INB.lit r4 (by decide))
      | (show NEXT _ _ _; skip)
      | (rename_i c1 c2; exact absurd ((hs2 (by omega)).symm.trans c2) (by decide))
    all_goals refine NEXT.mk (hX ((i + 1, k + 1), i, w0) _ _ ?_ ?_ (.inl ⟨rfl, rfl⟩))
    all_goals first
      | (show (24 - (i + 1)).toNat < (24 - (k : Int)).toNat; omega)
      | exact ⟨by show i + 1 = ((k + 1 : Nat) : Int); omega, by show k + 1 ≤ W.length; omega, hcs.symm⟩
  · rw [if_neg hwb] at hs2 hcs
    dsimp only at hs2
    repeat' (first | exact True.intro | refine And.intro ?_ ?_ | (refine BR.nn r0 ?_) | (refine BR.lss r0 ?_ ?_ <;> intro _) | (refine BR.neq r0 ?_ ?_ <;> intro _) | (refine BR.eql r0 ?_ ?_ <;> intro _) | (refine BR.leq r0 ?_ ?_ <;> intro _) | (refine BR.gtr r0 ?_ ?_ <;> intro _) | (refine BR.geq r0 ?_ ?_ <;> intro _) | (refine BR.mk ?_ ?_ <;> intro _) | (refine CASE.mk ?_; intro _))
    all_goals first
      | exact hiW
      | exact hiL
      | (show INB _ _; exact INB.lit r4 (by decide))
      | (show NEXT _ _ _; skip)
      | (rename_i c1 c2; exact absurd ((hs2 (by omega)).symm.trans c2) (by decide))
    all_goals refine NEXT.mk (hX ((i + 1, k + 1), ch, be) _ _ ?_ ?_ (.inl ⟨rfl, rfl⟩))
    all_goals first
      | (show (24 - (i + 1)).toNat < (24 - (k : Int)).toNat; omega)
      | exact ⟨by show i + 1 = ((k + 1 : Nat) : Int); omega, by show k + 1 ≤ W.length; omega, hcs.symm⟩
theorem recovers_typed : ∀ xs, TyVs Try.prog [37, 51] xs → PurFn Try.prog 9 (xs.map .p) (.v (.bool true)) := law2 (P := Try.prog) (f := 9) (t1 := 37) (t2 := 51) (T1 := .sl tW) (T2 := .sl (.int .u8)) (by kernel_rfl) fun a b ha hb =>
  lawRecovers a.1 a.2 b.1 b.2 ⟨fun x hx => ⟨(wf_u8 (ha.2.2 x hx).1).1, (wf_u8 (ha.2.2 x hx).2).1⟩⟩ (fun x hx => wf_u8 (hb.2.2 x hx))
end Go.Ab

