/- PulseReads. -/
import Derived.Test.YtnfimkmjjjbopaaDoorLk
set_option linter.unusedSimpArgs false
set_option linter.unusedVariables false
set_option maxRecDepth 20000
set_option maxHeartbeats 8000000
namespace Go.Ab
open Go.Proofs
abbrev tBs : Ty := .sl tB
abbrev tH : Ty := .int .u16
def rdL : List TL → List Int → List TL
  | b :: l, a :: at' => (none, shiT (makT b.2) a) :: rdL l at'
  | _, _ => []
structure RDG (b : List Int) (a : Int) : Prop where
  m : makE b = 0
  s : shiE (makT b) a = 0
  n : 0 ≤ a
  f : a + 15 + 2 * b.length < 1024
  h0 : ∀ x ∈ b, 0 ≤ x
theorem RDG.read {b : List Int} {a : Int} (h : RDG b a) (lg : Bool) (hl : lg = decide (b.length = 112)) : reaE (shiT (makT b) a) a lg = 0 ∧ reaN (shiT (makT b) a) a lg = a ∧ reaB (shiT (makT b) a) a lg = b := by
  subst hl
  obtain ⟨h1, h2, _, _⟩ := read_made h.m h.h0 h.s h.n h.f
  exact ⟨h1, by rw [reaN, if_neg (by simp [h1])], h2⟩
structure RDA (l : List TL) (at' : List Int) (i : Int) : Prop where
  h : ∀ j : Int, 0 ≤ j → j < i → RDG (gtR tBs l j).2 (gtR tH at' j)
theorem RDA.zero {l : List TL} {at' : List Int} : RDA l at' 0 := ⟨fun j h0 h1 => by omega⟩
theorem RDA.step {l : List TL} {at' : List Int} {i : Int} (h : RDA l at' i) {b : List Int} {a : Int} (hb : b = (gtR tBs l i).2) (ha : a = gtR tH at' i) (hg : RDG b a) : RDA l at' (i + 1) := ⟨fun j h0 h1 => by
  by_cases e : j = i
  · subst e; rw [← hb, ← ha]; exact hg
  · exact h.h j h0 (by omega)⟩
theorem rdL_drop {l : List TL} {at' : List Int} {i : Int} {b : List Int} {a : Int} (h0 : 0 ≤ i) (h1 : i < l.length) (h2 : i < at'.length) (hb : b = (gtR tBs l i).2) (ha : a = gtR tH at' i) : rdL (l.drop i.toNat) (at'.drop i.toNat) = (none, shiT (makT b) a) :: rdL (l.drop (i + 1).toNat) (at'.drop (i + 1).toNat) := by
  rw [gtR_drop (t := tBs) h0 h1, gtR_drop (t := tH) h0 h2, rdL, hb, ha]
theorem rdL_end {l : List TL} {at' : List Int} {i : Int} (h : ¬ i < l.length) : rdL (l.drop i.toNat) (at'.drop i.toNat) = [] := by
  rw [gtR_end h]; simp [rdL]
theorem rdL_len : ∀ {l : List TL} {at' : List Int}, (rdL l at').length ≤ l.length
  | [], _ => by simp [rdL]
  | _ :: _, [] => by simp [rdL]
  | b :: l, a :: at' => by have := rdL_len (l := l) (at' := at'); simp [rdL, this]
theorem rdL_mem : ∀ {l : List TL} {at' : List Int} {t : TL}, t ∈ rdL l at' → ∃ j : Int, 0 ≤ j ∧ j < l.length ∧ t = (none, shiT (makT (gtR tBs l j).2) (gtR tH at' j))
  | [], _, t, h => by simp [rdL] at h
  | _ :: _, [], t, h => by simp [rdL] at h
  | b :: l, a :: at', t, h => by
    rw [rdL] at h
    rcases List.mem_cons.1 h with rfl | h
    · exact ⟨0, by omega, by simp only [List.length_cons]; omega, rfl⟩
    · obtain ⟨j, j0, j1, rfl⟩ := rdL_mem h
      refine ⟨j + 1, by omega, by simp only [List.length_cons]; omega, ?_⟩
      have e : (j + 1).toNat = j.toNat + 1 := by omega
      simp [gtR, e]
theorem rdL_get : ∀ {l : List TL} {at' : List Int} {j : Int}, l.length ≤ at'.length → 0 ≤ j → j < l.length → (none, shiT (makT (gtR tBs l j).2) (gtR tH at' j)) ∈ rdL l at'
  | [], _, j, _, h0, h1 => by simp at h1; omega
  | _ :: _, [], j, h, _, _ => by simp at h
  | b :: l, a :: at', j, h, h0, h1 => by
    rw [rdL]
    by_cases e : j = 0
    · subst e; exact List.mem_cons_self
    · have := rdL_get (l := l) (at' := at') (j := j - 1) (by simpa using h) (by omega) (by simp only [List.length_cons] at h1; omega)
      have e : j.toNat = (j - 1).toNat + 1 := by omega
      have e1 : gtR tBs (b :: l) j = gtR tBs l (j - 1) := by unfold gtR; rw [e]; rfl
      have e2 : gtR tH (a :: at') j = gtR tH at' (j - 1) := by unfold gtR; rw [e]; rfl
      rw [e1, e2]
      exact List.mem_cons_of_mem _ this
/-- What is read in the merged train at the slot of a message. -/
structure RDF (M b : List Int) (a : Int) (lg : Bool) : Prop where
  e : reaE M a lg = 0
  l : (reaB M a lg).length = b.length
  s : hasM (staT M) a = true
  k : ∀ k : Int, 0 ≤ k → k < b.length → gtR tB (reaB M a lg) k = gtR tB b k ∨ gtR tB (reaB M a lg) k = 2
theorem rd_merged {l : List TL} {at' : List Int} (h8 : l.length ≤ 8) (hla : l.length ≤ at'.length) (hA : RDA l at' l.length) : mrgE (rdL l at') = 0 ∧ staE (mrgT (rdL l at')) = 0 ∧
    ∀ i : Int, 0 ≤ i → i < l.length → ∀ lg, lg = decide ((gtR tBs l i).2.length = 112) → RDF (mrgT (rdL l at')) (gtR tBs l i).2 (gtR tH at' i) lg := by
  have hE : mrgE (rdL l at') = 0 := by
    rw [mrgE_iff]
    refine ⟨Nat.le_trans rdL_len h8, fun t ht => ?_⟩
    obtain ⟨j, j0, j1, rfl⟩ := rdL_mem ht
    exact shiT_chk (hA.h j j0 j1).s
  have hc := mrgT_chk hE
  refine ⟨hE, staE0 hc, fun i i0 i1 lg hlg => ?_⟩
  have hg := hA.h i i0 i1
  obtain ⟨r1, _, r3⟩ := hg.read lg hlg
  obtain ⟨_, _, r4, r5⟩ := read_made hg.m hg.h0 hg.s hg.n hg.f
  have hsub : ∀ x, (shiT (makT (gtR tBs l i).2) (gtR tH at' i)).contains x = true → (mrgT (rdL l at')).contains x = true := fun x hx => by
    rw [List.contains_iff_mem, mem_mrgT hE]
    exact ⟨_, rdL_get hla i0 i1, by simpa using hx⟩
  obtain ⟨q1, q2, q3⟩ := rea_mono r5 hc hsub r1
  rw [r3] at q2 q3
  refine ⟨q1, q2, ?_, fun k k0 k1 => (q3 k k0 k1).imp Eq.symm id⟩
  rw [hasM, List.contains_iff_mem]
  exact sta_mono r5 hc hsub r4
theorem rd_bad {b : List Int} {a : Int} (h : makE b ≠ 0 ∨ shiE (makT b) a ≠ 0) : shiT (makT b) a = [] := by
  by_cases h1 : makE b = 0
  · exact shiT_bad (h.resolve_left (by simp [h1]))
  · rw [makT, if_pos h1]
    by_cases h2 : shiE [] a = 0
    · rw [shiT_ok h2]; rfl
    · exact shiT_bad h2
theorem makT_ln {b : List Int} : (makT b).length ≤ 2000 := by
  unfold makT
  split
  · simp
  · rename_i h
    unfold makE at h
    split at h
    · exact absurd (by assumption) h
    · split at h
      · exact absurd (show (2 : Int) ≠ 0 by decide) h
      · simp [makS_len]; omega
theorem shiT_ln {b : List Int} {a : Int} : (shiT (makT b) a).length ≤ 1500 := by
  refine Nat.le_trans shiT_len ?_
  unfold makT
  split
  · simp
  · rename_i h
    unfold makE at h
    split at h
    · exact absurd (by assumption) h
    · split at h
      · exact absurd (show (2 : Int) ≠ 0 by decide) h
      · simp [makS_len]; omega
theorem reaB_ln {t : List Int} {n : Int} {lg : Bool} : (reaB t n lg).length ≤ 2000 := by
  by_cases h : reaE t n lg = 0
  · rw [rea_len h]; cases lg <;> simp [reaM]
  · rw [reaB, if_pos h]; simp
theorem staT_ln {t : List Int} : (staT t).length ≤ 2000 := by
  unfold staT
  split
  · simp
  · rw [stF_eq]; exact Nat.le_trans slP_len (by decide)
theorem cReads (nl : Option Bool) (l : List TL) (na : Option Bool) (at' : List Int) (hl0 : l.length ≤ maxLen) (hl : ∀ b ∈ l, ∀ x ∈ b.2, 0 ≤ x) (ha0 : at'.length ≤ maxLen) (ha : ∀ a ∈ at', 0 ≤ a ∧ a < 65536) : PurS Tryd.prog 5 [injT (.sl tBs) (nl, l), injT (.sl tH) (na, at')] (.sb true) := by
  refine PurS.of (S := [(10, _), (13, _), (15, _), (20, _), (25, _), (27, _), (33, _), (32, _)]) (T := []) (tbl := []) (n := 214) hmD cfg (.cons (spT0.ok cAwakeT) (.cons (spT1.ok (a := (.sl (.int .u8))) fun x0 h => cMakeT x0.1 x0.2 h) (.cons (spT1.ok (a := (.sl (.sl (.int .i64)))) fun x0 h => cMergeT x0.1 x0.2 h) (.cons (spT2.ok (a := (.sl (.int .i64))) (b := (.int .i64)) fun x0 x1 h => cShiftT x0.1 x0.2 x1 h) (.cons (spT1.ok (a := (.sl (.int .i64))) fun x0 h => cStartsT x0.1 x0.2 h) (.cons (spT3.ok (a := (.sl (.int .i64))) (b := (.int .i64)) (c := .bool) fun x0 x1 x2 h => cReadT x0.1 x0.2 x1 x2 h) (.cons (spT2.ok (a := (.sl (.int .i64))) (b := (.int .i64)) fun x0 x1 h => cHas x0.1 x0.2 x1 h) (.cons (spT2.ok (a := (.sl (.int .u8))) (b := (.sl (.int .u8))) fun x0 x1 h => cEqB x0.1 x0.2 x1.1 x1.2 h) .nil)))))))) .nil .nil 0 Tryd.call5 Tryd.func5 (ac5_ok (some (0, 0))) (by rw [Tryd.ntmps5]; exact Nat.le_refl _) rfl ⟨_, rfl⟩ ?_
  intro cmp ar cv tn ic ai mx an ad ml sb mn ln em gt up ap sc vw cp rp p1 p2 s1 s2 X Y hX hY r0 r1 r2 r3 r4 r5 r6 r7 r8 r9 r10 r11 r12 r13 r14 r15 r16 r17 r18 r19 r20 r21 r22 r23 r24
  generalize hg0 : makT = g0
  generalize hg1 : makE = g1
  generalize hg2 : mrgT = g2
  generalize hg3 : mrgE = g3
  generalize hg4 : shiT = g4
  generalize hg5 : shiE = g5
  generalize hg6 : staT = g6
  generalize hg7 : staE = g7
  generalize hg8 : reaN = g8
  generalize hg9 : reaB = g9
  generalize hg10 : reaE = g10
  generalize hg11 : eqI = g11
  generalize hg12 : hasM = g12
  cbv
  obtain ⟨RL, hRL⟩ : ∃ RL, RL = rdL l at' := ⟨_, rfl⟩
  have hbad : ∀ b a, makE b ≠ 0 ∨ shiE (makT b) a ≠ 0 → shiT (makT b) a = [] := fun b a => rd_bad
  have hbl : ∀ b, makE b = 0 → b.length ≤ 112 := fun b h => by
    unfold makE at h
    split at h
    · exact absurd h (by assumption)
    · split at h
      · cases h
      · omega
  have hmk : ∀ b, Short 2000 (makT b) := fun b => ⟨makT_ln⟩
  have hrd : ∀ b a, RDG b a → ∀ lg, lg = decide (b.length = 112) → reaE (shiT (makT b) a) a lg = 0 ∧ reaN (shiT (makT b) a) a lg = a ∧ reaB (shiT (makT b) a) a lg = b := fun b a h => h.read
  have hsl : ∀ b a, Short 1500 (shiT (makT b) a) := fun b a => ⟨shiT_ln⟩
  have hrb : ∀ t n lg, Short 2000 (reaB t n lg) := fun t n lg => ⟨reaB_ln⟩
  have hgo : ∀ b a, makE b = 0 → shiE (makT b) a = 0 → 0 ≤ a → a + 15 + 2 * b.length < 1024 → (∀ x ∈ b, 0 ≤ x) → RDG b a := fun b a h1 h2 h3 h4 h5 => ⟨h1, h2, h3, h4, h5⟩
  have hfin : l.length ≤ 8 → l.length ≤ at'.length → RDA l at' l.length → MRG RL ∧ Short 1500 (mrgT RL) ∧ Short 2000 (staT (mrgT RL)) ∧ mrgE RL = 0 ∧ staE (mrgT RL) = 0 ∧
      ∀ i : Int, 0 ≤ i → i < l.length → ∀ lg, lg = decide ((gtR tBs l i).2.length = 112) → RDF (mrgT RL) (gtR tBs l i).2 (gtR tH at' i) lg := fun h8 hla hA => by
    rw [hRL]
    refine ⟨MRG.of (Nat.le_trans rdL_len (by omega)) fun t ht => ?_, ⟨Nat.le_trans mrgT_len (by decide)⟩, ⟨staT_ln⟩, rd_merged h8 hla hA⟩
    obtain ⟨j, _, _, rfl⟩ := rdL_mem ht
    exact shiT_ln
  have hRL0 : rdL l at' = RL := hRL.symm
  have hqe : ∀ x, eqI x x = true := fun x => by simp [eqI]
  have hnn : ∀ i : Int, 0 ≤ i → i < l.length → MAK (gtR tBs l i).2 ∧ ∀ x ∈ (gtR tBs l i).2, 0 ≤ x := fun i h0 h1 => by
    have h := hl _ (gtR_mem (t := tBs) h0 h1)
    exact ⟨⟨by simp only [makB, List.all_eq_true, decide_eq_true_eq]; exact h⟩, h⟩
  have hgE : ∀ M b a lg, RDF M b a lg → reaE M a lg = 0 ∧ (reaB M a lg).length = b.length ∧ hasM (staT M) a = true ∧ ∀ k : Int, 0 ≤ k → k < b.length → gtR tB (reaB M a lg) k = gtR tB b k ∨ gtR tB (reaB M a lg) k = 2 := fun M b a lg h => ⟨h.e, h.l, h.s, h.k⟩
  have hpE : ∀ (i : Int) (O : List TL), ¬ i < l.length → O ++ rdL (l.drop i.toNat) (at'.drop i.toNat) = RL → O = RL := fun i O h h2 => by rw [rdL_end h, List.append_nil] at h2; exact h2
  have hpS : ∀ (i : Int) (b : List Int) (a : Int), 0 ≤ i → i < l.length → i < at'.length → b = (gtR tBs l i).2 → a = gtR tH at' i → rdL (l.drop i.toNat) (at'.drop i.toNat) = (none, shiT (makT b) a) :: rdL (l.drop (i + 1).toNat) (at'.drop (i + 1).toNat) := fun i b a h0 h1 h2 hb ha => rdL_drop h0 h1 h2 hb ha
  clear hRL
  simp only [hg0, hg1, hg2, hg3, hg4, hg5, hg6, hg7, hg8, hg9, hg10, hg11, hg12] at hbad hbl hmk hrd hsl hrb hgo hfin hqe hgE hpS
  have hlL : ic (ln tBs l) = l.length := by rw [r4, r12]
  have hlA : ic (ln tH at') = at'.length := by rw [r4, r12]
  refine BR.mk (fun _ => trivial) fun h8 => BR.mk (fun _ => trivial) fun hla => ?_
  have h8 : l.length ≤ 8 := by
    rw [r0, hlL] at h8
    have h2 : ¬ (8 : Int) < l.length := by simpa [cmpR] using h8
    omega
  have hla : l.length ≤ at'.length := by
    rw [r0, hlL, hlA] at hla
    have h2 : ¬ (at'.length : Int) < l.length := by simpa [cmpR] using hla
    omega
  have hfin := hfin h8 hla
  have h8' : (l.length : Int) ≤ 8 := Int.ofNat_le.2 h8
  have hla' : (l.length : Int) ≤ at'.length := Int.ofNat_le.2 hla
  refine LOOP.ind (σ := List TL × Int) (fun (O, i) => [(0, .tl nl tBs l), (1, .tl na tH at'), (5, .og 0 tTr O), (6, .p (iv i))]) (fun (O, i) => ⟨[], [(ml (ln tTr O) 1, 30)]⟩) (fun (O, i) => (l.length - i).toNat)
    (fun (O, i) => 0 ≤ i ∧ i ≤ l.length ∧ O.length ≤ i ∧ O ++ rdL (l.drop i.toNat) (at'.drop i.toNat) = RL ∧ RDA l at' i) ([], 0) ⟨by omega, by show (0 : Int) ≤ _; omega, by simp, hRL0, .zero⟩ (.inr ⟨[], [none], ?_⟩) ?_
  · rw [SIM_iff]; cbv; simp [nlLe_self]
  intro ⟨O, i⟩ hI X1 hX
  dsimp only at hI
  obtain ⟨hI1, hI2, hI3, hI4, hI5⟩ := hI
  obtain ⟨b, hb⟩ : ∃ a, a = s2 tB (gt tBs l i) := ⟨_, rfl⟩
  obtain ⟨a, ha'⟩ : ∃ a : Int, a = gt tH at' i := ⟨_, rfl⟩
  have hb1 : b = (gtR tBs l i).2 := by rw [hb, r14, r24]
  have ha1 : a = gtR tH at' i := by rw [ha', r14]
  obtain ⟨a2, ha2⟩ : ∃ x : Int, x = cv .i64 a := ⟨_, rfl⟩
  have hab : i < l.length → 0 ≤ a ∧ a < 65536 := fun h => by rw [ha1]; exact ha _ (gtR_mem (t := tH) hI1 (Int.lt_of_lt_of_le h hla'))
  have ha2v : i < l.length → a2 = a := fun h => by rw [ha2, r2]; exact wrap64 (n := a) (by have := hab h; omega) (by have := hab h; omega)
  obtain ⟨w, hw⟩ : ∃ x : Int, x = ar .add .i64 (ar .add .i64 a2 15) (ar .mul .i64 2 (ic (ln tB b))) := ⟨_, rfl⟩
  have hlb : ic (ln tB b) = b.length := by rw [r4, r12]
  have hbl := hbl b
  have hwv : i < l.length → g1 b = 0 → w = a + 15 + 2 * b.length := fun h h2 => by
    have h3 := hbl h2
    have h4 := hab h
    have e0 : a2 = a := ha2v h
    have e1 : ar .add .i64 a2 15 = a + 15 := by rw [r1, e0]; exact wrap64 (n := a + 15) (by omega) (by omega)
    have e2 : ar .mul .i64 2 (ic (ln tB b)) = 2 * b.length := by rw [r1, hlb]; exact wrap64 (n := 2 * b.length) (by omega) (by omega)
    rw [hw, e1, e2, r1]; exact wrap64 (n := a + 15 + 2 * b.length) (by omega) (by omega)
  cbv
  rw [← hb, ← ha', ← ha2, ← hw]
  dsimp only
  refine BR.mk (fun hi => ?_) fun hi => ?_
  · have hi : i < l.length := by rw [r0, hlL] at hi; simpa [cmpR] using hi
    have hia : i < (at'.length : Int) := Int.lt_of_lt_of_le hi hla'
    have hi8 : i < 8 := Int.lt_of_lt_of_le hi h8'
    have hinb : INB i (ic (ln tBs l)) := ⟨hI1, by rw [hlL]; exact hi⟩
    have hinb2 : INB i (ic (ln tH at')) := ⟨hI1, by rw [hlA]; exact hia⟩
    obtain ⟨hmk1, hmk2⟩ := hnn i hI1 hi
    rw [← hb1] at hmk1 hmk2
    have ha2v := ha2v hi
    have hwv := hwv hi
    have hab := hab hi
    subst ha2v
    have f1 := hbad b a2
    have f2 := hgo b a2
    have f3 := hrd b a2
    have f4 := hpS i b a2 hI1 hi hia hb1 ha1
    have f5 : RDG b a2 → RDA l at' (i + 1) := fun h => hI5.step hb1 ha1 h
    have f6 : g1 b = 0 → g5 (g0 b) a2 = 0 → a2 + 15 + 2 * b.length < 1024 → RDG b a2 := fun h1 h2 h3 => f2 h1 h2 hab.1 h3 hmk2
    have hmk := hmk b
    have hsl := hsl b a2
    have hrb1 := hrb (g4 (g0 b) a2) a2 true
    have hrb2 := hrb (g4 (g0 b) a2) a2 false
    have hqb := hqe b
    have hl1 : g4 (g0 b) a2 = [] → ln tI (g4 (g0 b) a2) = 0 := fun h => by rw [h, r12]; rfl
    have hi1 : ar .add .i64 i 1 = i + 1 := by rw [r1]; exact wrap64 (n := i + 1) (by omega) (by omega)
    have f3a : RDG b a2 → b.length = 112 → g10 (g4 (g0 b) a2) a2 true = 0 ∧ g8 (g4 (g0 b) a2) a2 true = a2 ∧ g9 (g4 (g0 b) a2) a2 true = b := fun h h2 => f3 h true (by simp [h2])
    have f3b : RDG b a2 → b.length ≠ 112 → g10 (g4 (g0 b) a2) a2 false = 0 ∧ g8 (g4 (g0 b) a2) a2 false = a2 ∧ g9 (g4 (g0 b) a2) a2 false = b := fun h h2 => f3 h false (by simp [h2])
    clear hl1 hbad hgo hrd hpS hpE hfin hgE hl ha f2 f3 hI5 hnn hbl hRL0 hqe hmk2 hb1 ha1 hb ha' hw ha2 hrb
    rw [hi1, hlb]
    repeat' (first | exact True.intro | refine And.intro ?_ ?_ | (refine BR.nn r0 ?_) | (refine BR.lss r0 ?_ ?_ <;> intro _) | (refine BR.neq r0 ?_ ?_ <;> intro _) | (refine BR.eql r0 ?_ ?_ <;> intro _) | (refine BR.leq r0 ?_ ?_ <;> intro _) | (refine BR.gtr r0 ?_ ?_ <;> intro _) | (refine BR.geq r0 ?_ ?_ <;> intro _) | (refine BR.mk ?_ ?_ <;> intro _) | (refine CASE.mk ?_; intro _))
    all_goals try (exact hinb)
    all_goals try (exact hinb2)
    all_goals try (exact hmk1)
    all_goals try (exact hmk)
    all_goals try (exact hsl)
    all_goals try (exact hrb1)
    all_goals try (exact hrb2)
    all_goals try (refine NEXT.mk (hX (ap tTr O [(none, g4 (g0 b) a2)], i + 1) _ _ ?_ ?_ (.inr ⟨[], [some 0], by rw [SIM_iff]; cbv; simp [nlLe_self, lstEq]⟩)))
    all_goals clear hX
    all_goals subst_vars
    all_goals simp only [Short_iff, cmpR, arR, mxR, INB_iff, SLB_iff, SLM_iff, NZ_iff, NN_iff, EQN_iff, LEN_iff, LIM_iff, MK_iff, decide_eq_true_eq, decide_eq_false_iff_not, ne_eq, Bool.and_eq_true, cmpR, Prod.mk.injEq] at *
    all_goals grind
  · have hi : ¬ i < l.length := by rw [r0, hlL] at hi; simpa [cmpR] using hi
    have hO : O = RL := hpE i O hi hI4
    have hil : i = l.length := Int.le_antisymm hI2 (Int.not_lt.1 hi)
    rw [hil] at hI5
    obtain ⟨k1, k2, k3, k4, k5, k6⟩ := hfin hI5
    subst hO
    obtain ⟨M, hM⟩ : ∃ M, M = g2 O := ⟨_, rfl⟩
    obtain ⟨A, hA⟩ : ∃ A0, A0 = g6 M := ⟨_, rfl⟩
    rw [← hM] at k2 k3 k5 k6 ⊢
    rw [← hA] at k3 ⊢
    have hgE := fun b a lg => hgE M b a lg
    rw [← hA] at hgE
    have hrb1 := fun n => hrb M n true
    have hrb2 := fun n => hrb M n false
    have haa := ha
    clear hbad hgo hrd hpS hpE hfin hl ha hI1 hI2 hI3 hI4 hI5 hnn hbl hRL0 hqe hb1 ha1 hb ha' hw ha2 hX hab ha2v hmk hsl hM hA hil hwv hlb
    repeat' (first | exact True.intro | refine And.intro ?_ ?_ | (refine BR.nn r0 ?_) | (refine BR.lss r0 ?_ ?_ <;> intro _) | (refine BR.neq r0 ?_ ?_ <;> intro _) | (refine BR.eql r0 ?_ ?_ <;> intro _) | (refine BR.leq r0 ?_ ?_ <;> intro _) | (refine BR.gtr r0 ?_ ?_ <;> intro _) | (refine BR.geq r0 ?_ ?_ <;> intro _) | (refine BR.mk ?_ ?_ <;> intro _) | (refine CASE.mk ?_; intro _))
    all_goals try (exact k1)
    all_goals try (exact k2)
    all_goals try (exact k3)
    all_goals try (exact absurd ‹cmp .neq (g3 O) 0 = true› (by rw [r0, k4]; simp [cmpR]))
    all_goals try (exact absurd ‹cmp .neq (g7 M) 0 = true› (by rw [r0, k5]; simp [cmpR]))
    refine LOOP.ind (σ := Int) (fun j => [(0, .tl nl tBs l), (1, .tl na tH at'), (13, .tl none tI M), (15, .tl none tI A), (17, .p (iv j))]) (fun _ => ⟨[], []⟩) (fun j => (l.length - j).toNat)
      (fun j => 0 ≤ j ∧ j ≤ l.length) 0 ⟨by omega, by show (0 : Int) ≤ _; omega⟩ (.inr ⟨[], [], ?_⟩) ?_
    · rw [SIM_iff]; cbv; simp [nlLe_self]
    intro j hJ X2 hY
    obtain ⟨hJ1, hJ2⟩ := hJ
    obtain ⟨b, hb⟩ : ∃ a, a = s2 tB (gt tBs l j) := ⟨_, rfl⟩
    obtain ⟨a, ha'⟩ : ∃ a : Int, a = gt tH at' j := ⟨_, rfl⟩
    have hb1 : b = (gtR tBs l j).2 := by rw [hb, r14, r24]
    have ha1 : a = gtR tH at' j := by rw [ha', r14]
    obtain ⟨a2, ha2⟩ : ∃ x : Int, x = cv .i64 a := ⟨_, rfl⟩
    have hlb : ic (ln tB b) = b.length := by rw [r4, r12]
    cbv
    rw [← hb, ← ha', ← ha2]
    dsimp only
    refine BR.mk (fun hj => ?_) fun _ => trivial
    have hj : j < l.length := by rw [r0, hlL] at hj; simpa [cmpR] using hj
    have hia : j < (at'.length : Int) := Int.lt_of_lt_of_le hj hla'
    have hj8 : j < 8 := Int.lt_of_lt_of_le hj h8'
    have hinb : INB j (ic (ln tBs l)) := ⟨hJ1, by rw [hlL]; exact hj⟩
    have hinb2 : INB j (ic (ln tH at')) := ⟨hJ1, by rw [hlA]; exact hia⟩
    have hab : 0 ≤ a ∧ a < 65536 := by rw [ha1]; exact haa _ (gtR_mem (t := tH) hJ1 hia)
    have ha2v : a2 = a := by rw [ha2, r2]; exact wrap64 (n := a) (by omega) (by omega)
    subst ha2v
    have k7 := k6 j hJ1 hj
    rw [← hb1, ← ha1] at k7
    have f3a := fun h2 : b.length = 112 => hgE b a2 true (k7 true (by simp [h2]))
    have f3b := fun h2 : b.length ≠ 112 => hgE b a2 false (k7 false (by simp [h2]))
    have hi1 : ar .add .i64 j 1 = j + 1 := by rw [r1]; exact wrap64 (n := j + 1) (by omega) (by omega)
    have hrb1 := hrb1 a2
    have hrb2 := hrb2 a2
    rw [hlb]
    clear k6 k7 hgE hb1 ha1 ha2
    repeat' (first | exact True.intro | refine And.intro ?_ ?_ | (refine BR.mk ?_ ?_ <;> intro _) | (refine CASE.mk ?_; intro _) | refine NEXT.mk (hY _ _ _ ?_ ?_ (.inl ⟨rfl, rfl⟩)))
    all_goals first | (show LOOP _ _ _ _ _ _; skip) | (clear hY; subst_vars; (all_goals try simp only [Short_iff, cmpR, arR, mxR, INB_iff, SLB_iff, SLM_iff, NZ_iff, NN_iff, EQN_iff, LEN_iff, LIM_iff, MK_iff, decide_eq_true_eq, decide_eq_false_iff_not, ne_eq, Bool.and_eq_true, cmpR] at *); (all_goals try dsimp only [Ty.den] at *); (all_goals try simp only [nc_eq] at *); (all_goals try (simp (disch := omega) only [wrap64] at *)); all_goals grind)
    · have hlen : decide (b.length = 112) = true := by have h := ‹cmp .eql (b.length : Int) 112 = true›; rw [r0] at h; simp only [cmpR] at h; rw [← h]; simp; omega
      obtain ⟨_, q2, _, q4⟩ := f3a (by simpa using hlen)
      obtain ⟨N1, hN1⟩ : ∃ N1, N1 = g8 M a2 true := ⟨_, rfl⟩
      obtain ⟨R, hR⟩ : ∃ N1, N1 = g9 M a2 true := ⟨_, rfl⟩
      rw [← hR] at q2 q4
      rw [← hN1, ← hR]
      have hRl : R.length ≤ 2000 := by rw [hR]; exact (hrb _ _ _).h
      refine LOOP.ind (σ := Int) (fun k => [(0, .tl nl tBs l), (1, .tl na tH at'), (13, .tl none tI M), (15, .tl none tI A), (17, .p (iv j)), (18, .ptr 0 0), (20, .p (iv k))]) (fun _ => ⟨[{ cells := [.p (iv N1), .tl none tB R], e := 46, fz := false }], []⟩) (fun k => (R.length - k).toNat)
        (fun k => 0 ≤ k ∧ k ≤ R.length) 0 ⟨by omega, by show (0 : Int) ≤ _; omega⟩ (.inl ⟨rfl, rfl⟩) ?_
      intro k hK X3 hZ
      have q4 := q4 k hK.1
      have hRl' : (R.length : Int) ≤ 2000 := Int.ofNat_le.2 hRl
      have hk2 : k ≤ 2000 := Int.le_trans hK.2 hRl'
      have hk1 : ar .add .i64 k 1 = k + 1 := by rw [r1]; exact wrap64 (n := k + 1) (by have := hK.1; omega) (by omega)
      have hlR : ic (ln tB R) = R.length := by rw [r4, r12]
      have q4 : k < R.length → gt tB R k = gt tB b k ∨ gt tB R k = 2 := fun h => by rw [r14]; exact q4 (by rw [q2] at h; exact h)
      cbv
      rw [← hb, hi1, hk1, hlR, hlb]
      clear hrb hN1 hR
      repeat' (first | exact True.intro | refine And.intro ?_ ?_ | (refine BR.mk ?_ ?_ <;> intro _) | (refine CASE.mk ?_; intro _))
      all_goals try (exact hinb)
      all_goals try (refine NEXT.mk (hZ (k + 1) _ _ ?_ ?_ (.inl ⟨rfl, rfl⟩)))
      all_goals try (exact NEXT.mk (hY (j + 1) _ _ ⟨by omega, by omega⟩ (by omega) (.inr ⟨[], [], by rw [SIM_iff]; cbv; simp [nlLe_self]⟩)))
      all_goals clear hZ hY hi1 hk1 hlb hlR hb hlL hlA k1 k2 k3 k4 k5 f3a f3b hab hinb hinb2
      all_goals rw [r0] at *
      all_goals simp only [Short_iff, cmpR, arR, mxR, INB_iff, SLB_iff, SLM_iff, NZ_iff, NN_iff, EQN_iff, LEN_iff, LIM_iff, MK_iff, decide_eq_true_eq, decide_eq_false_iff_not, ne_eq, Bool.and_eq_true, cmpR] at *
      all_goals grind
    · have hlen : decide (b.length = 112) = false := by have h := ‹cmp .eql (b.length : Int) 112 = false›; rw [r0] at h; simp only [cmpR] at h; rw [← h]; simp; omega
      obtain ⟨_, q2, _, q4⟩ := f3b (by simpa using hlen)
      obtain ⟨N1, hN1⟩ : ∃ N1, N1 = g8 M a2 false := ⟨_, rfl⟩
      obtain ⟨R, hR⟩ : ∃ N1, N1 = g9 M a2 false := ⟨_, rfl⟩
      rw [← hR] at q2 q4
      rw [← hN1, ← hR]
      have hRl : R.length ≤ 2000 := by rw [hR]; exact (hrb _ _ _).h
      refine LOOP.ind (σ := Int) (fun k => [(0, .tl nl tBs l), (1, .tl na tH at'), (13, .tl none tI M), (15, .tl none tI A), (17, .p (iv j)), (18, .ptr 0 0), (20, .p (iv k))]) (fun _ => ⟨[{ cells := [.p (iv N1), .tl none tB R], e := 46, fz := false }], []⟩) (fun k => (R.length - k).toNat)
        (fun k => 0 ≤ k ∧ k ≤ R.length) 0 ⟨by omega, by show (0 : Int) ≤ _; omega⟩ (.inl ⟨rfl, rfl⟩) ?_
      intro k hK X3 hZ
      have q4 := q4 k hK.1
      have hRl' : (R.length : Int) ≤ 2000 := Int.ofNat_le.2 hRl
      have hk2 : k ≤ 2000 := Int.le_trans hK.2 hRl'
      have hk1 : ar .add .i64 k 1 = k + 1 := by rw [r1]; exact wrap64 (n := k + 1) (by have := hK.1; omega) (by omega)
      have hlR : ic (ln tB R) = R.length := by rw [r4, r12]
      have q4 : k < R.length → gt tB R k = gt tB b k ∨ gt tB R k = 2 := fun h => by rw [r14]; exact q4 (by rw [q2] at h; exact h)
      cbv
      rw [← hb, hi1, hk1, hlR, hlb]
      clear hrb hN1 hR
      repeat' (first | exact True.intro | refine And.intro ?_ ?_ | (refine BR.mk ?_ ?_ <;> intro _) | (refine CASE.mk ?_; intro _))
      all_goals try (exact hinb)
      all_goals try (refine NEXT.mk (hZ (k + 1) _ _ ?_ ?_ (.inl ⟨rfl, rfl⟩)))
      all_goals try (exact NEXT.mk (hY (j + 1) _ _ ⟨by omega, by omega⟩ (by omega) (.inr ⟨[], [], by rw [SIM_iff]; cbv; simp [nlLe_self]⟩)))
      all_goals clear hZ hY hi1 hk1 hlb hlR hb hlL hlA k1 k2 k3 k4 k5 f3a f3b hab hinb hinb2
      all_goals rw [r0] at *
      all_goals simp only [Short_iff, cmpR, arR, mxR, INB_iff, SLB_iff, SLM_iff, NZ_iff, NN_iff, EQN_iff, LEN_iff, LIM_iff, MK_iff, decide_eq_true_eq, decide_eq_false_iff_not, ne_eq, Bool.and_eq_true, cmpR] at *
      all_goals grind
theorem reads_typed : ∀ xs, TyVs Tryd.prog [53, 54] xs → PurFn Tryd.prog 5 (xs.map .p) (.v (.bool true)) := law2 (P := Tryd.prog) (f := 5) (t1 := 53) (t2 := 54) (T1 := .sl tBs) (T2 := .sl tH) (by kernel_rfl) fun l a hl ha => cReads l.1 l.2 a.1 a.2 hl.1 (fun b hb x hx => (wf_u8 ((hl.2.2 b hb).2.2 x hx)).1) ha.1 (fun x hx => wf_u16 (ha.2.2 x hx))
end Go.Ab

