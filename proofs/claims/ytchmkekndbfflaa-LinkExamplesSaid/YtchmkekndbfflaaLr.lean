/- The law's function 'hears': messages that are due, marked as heard. -/
import Derived.Test.YtchmkekndbfflaaLq
set_option linter.unusedSimpArgs false
set_option linter.unusedVariables false
set_option maxRecDepth 20000
set_option maxHeartbeats 4000000
namespace Go.Ab
open Go.Proofs
/-- What is under way, and the due times that the law keeps. -/
structure REL (s : List PT) (D : List Int) : Prop where
  so : s.Pairwise ltP
  mem : ∀ p ∈ s, ∃ k : Nat, k < D.length ∧ p = (gtR tI D k, ((k : Int), wantE k)) ∧ (0 : Int) ≤ gtR tI D k
  all : ∀ k : Nat, k < D.length → (0 : Int) ≤ gtR tI D k → ((gtR tI D k, ((k : Int), wantE k)) : PT) ∈ s
theorem REL.nil : REL [] [] := ⟨.nil, fun p hp => by simp at hp, fun k hk => by simp at hk⟩
theorem gtR_set {D : List Int} {k j : Nat} {x : Int} (h : k < D.length) : gtR tI (D.set k x) (j : Int) = if j = k then x else gtR tI D j := by
  unfold gtR
  simp only [List.getD_eq_getElem?_getD, List.getElem?_set, Int.toNat_natCast]
  by_cases e : j = k
  · subst e; simp [h]
  · rw [if_neg (by omega), if_neg e]
theorem gtR_app {D : List Int} {j : Nat} {x : Int} : gtR tI (D ++ [x]) (j : Int) = if j < D.length then gtR tI D j else if j = D.length then x else 0 := by
  unfold gtR
  simp only [List.getD_eq_getElem?_getD, List.getElem?_append, Int.toNat_natCast]
  by_cases h : j < D.length
  · simp [h]
  · simp only [h, if_false]
    by_cases e : j = D.length
    · subst e; simp
    · rw [if_neg e, List.getElem?_eq_none (by simp; omega)]; rfl
theorem REL.pop {p : PT} {s : List PT} {D : List Int} (h : REL (p :: s) D) : ∃ k : Nat, k < D.length ∧ p = (gtR tI D k, ((k : Int), wantE k)) ∧ (0 : Int) ≤ gtR tI D k ∧ REL s (D.set k (-1)) := by
  obtain ⟨k, hk, hp, h0⟩ := h.mem p List.mem_cons_self
  have hso := List.pairwise_cons.1 h.so
  have hne : ∀ q ∈ s, ∀ j : Nat, q = (gtR tI D j, ((j : Int), wantE j)) → j ≠ k := fun q hq j e hjk => by
    subst hjk
    have := hso.1 q hq
    rw [e, ← hp] at this
    exact ltP.irrefl _ this
  refine ⟨k, hk, hp, h0, hso.2, fun q hq => ?_, fun j hj hj0 => ?_⟩
  · obtain ⟨j, hj, e, hj0⟩ := h.mem q (List.mem_cons_of_mem _ hq)
    have hjk := hne q hq j e
    exact ⟨j, by simpa using hj, by rw [gtR_set hk, if_neg hjk]; exact e, by rw [gtR_set hk, if_neg hjk]; exact hj0⟩
  · rw [gtR_set hk] at hj0 ⊢
    by_cases e : j = k
    · rw [if_pos e] at hj0; exact absurd hj0 (by decide)
    · rw [if_neg e] at hj0 ⊢
      rcases List.mem_cons.1 (h.all j (by simpa using hj) hj0) with e2 | e2
      · rw [hp] at e2
        have e2 : ((j : Int), wantE j) = ((k : Int), wantE k) := (Prod.mk.inj e2).2
        have e2 : (j : Int) = (k : Int) := (Prod.mk.inj e2).1
        omega
      · exact e2
theorem REL.push {s : List PT} {D : List Int} {F : List Int} {t : Int} (h : REL s D) (ht : 0 ≤ t) (hf : -1 ≤ fateM F D.length) : REL (sIns F D.length t (wantE D.length) s) (D ++ [if fateM F D.length = -1 then -1 else t + fateM F D.length]) := by
  have hN : ∀ y ∈ s, y.2.1 < (D.length : Int) := fun y hy => by
    obtain ⟨k, hk, e, _⟩ := h.mem y hy
    rw [e]; show (k : Int) < D.length; omega
  unfold sIns
  by_cases hl : fateM F D.length = -1
  · rw [if_pos hl, if_pos hl]
    refine ⟨h.so, fun p hp => ?_, fun k hk h0 => ?_⟩
    · obtain ⟨k, hk, e, h0⟩ := h.mem p hp
      exact ⟨k, by simp; omega, by rw [gtR_app, if_pos hk]; exact e, by rw [gtR_app, if_pos hk]; exact h0⟩
    · rw [gtR_app] at h0 ⊢
      by_cases hkl : k < D.length
      · rw [if_pos hkl] at h0 ⊢; exact h.all k hkl h0
      · have : k = D.length := by simp at hk; omega
        rw [if_neg hkl, if_pos this] at h0; exact absurd h0 (by decide)
  · rw [if_neg hl, if_neg hl]
    refine ⟨insP_so h.so hN, fun p hp => ?_, fun k hk h0 => ?_⟩
    · rcases List.mem_cons.1 ((insP_perm _ _).mem_iff.1 hp) with rfl | hp
      · exact ⟨D.length, by simp, by rw [gtR_app, if_neg (by omega), if_pos rfl], by rw [gtR_app, if_neg (by omega), if_pos rfl]; show (0 : Int) ≤ t + _; omega⟩
      · obtain ⟨k, hk, e, h0⟩ := h.mem p hp
        exact ⟨k, by simp; omega, by rw [gtR_app, if_pos hk]; exact e, by rw [gtR_app, if_pos hk]; exact h0⟩
    · refine (insP_perm _ _).mem_iff.2 ?_
      rw [gtR_app] at h0 ⊢
      by_cases hkl : k < D.length
      · rw [if_pos hkl] at h0 ⊢; exact List.mem_cons_of_mem _ (h.all k hkl h0)
      · have : k = D.length := by simp at hk; omega
        subst this
        rw [if_neg hkl, if_pos rfl]; exact List.mem_cons_self
/-- What is heard is marked. -/
def dueM : List PT → List Int → List Int
  | [], D => D
  | p :: l, D => dueM l (D.set p.2.1.toNat (-1))
theorem dueM_len : ∀ (l : List PT) (D : List Int), (dueM l D).length = D.length
  | [], _ => rfl
  | p :: l, D => by rw [dueM, dueM_len l]; simp
theorem REL.hears : ∀ {l r : List PT} {D : List Int}, REL (l ++ r) D → REL r (dueM l D)
  | [], r, D, h => h
  | p :: l, r, D, h => by
    obtain ⟨k, hk, hp, _, h2⟩ := REL.pop (s := l ++ r) h
    have : p.2.1.toNat = k := by rw [hp]; exact Int.toNat_natCast k
    rw [dueM, this]
    exact REL.hears h2
def outL (t : Int) (s : List PT) : List tChoice.den := (s.takeWhile (dueT t)).map (fun x => x.2.2)
/-- A channel and the due times. -/
def stH (F : List Int) (now sent : Int) (N n : Nat) (q : List tPar.den) (m : Nat) (D : List Int) (g : List (Nat × Nat)) : StS :=
  ⟨[{ cells := [.arr 256 tI F, .p (iv now), .p (iv sent), .ptr 1 0], e := 73, fz := false }, { cells := [.ms 2 0 6 none n], e := 70, fz := false }, { cells := [.arr N tPar q], e := 49, fz := false, ap := true },
    { cells := [.arr m tI D], e := 3, fz := false, ap := true }], g⟩
/-- The first loop of 'hears': what is left of the messages heard, and the due times. -/
structure HLK (t : Int) (W R : List PT) (D0 D : List Int) (last i : Int) : Prop where
  r : REL (W.drop i.toNat ++ R) D
  d : dueM (W.drop i.toNat) D = dueM W D0
  l : ∀ p ∈ W.drop i.toNat, last ≤ p.1 ∧ p.1 ≤ t
theorem HLK.start {t : Int} {s : List PT} {D : List Int} (h : REL s D) (h0 : 0 ≤ t) : HLK t (s.takeWhile (dueT t)) (s.dropWhile (dueT t)) D D (-1) 0 := by
  refine ⟨by simpa using h, rfl, fun p hp => ?_⟩
  have hp : p ∈ s.takeWhile (dueT t) := by simpa using hp
  have hm := (List.takeWhile_sublist (dueT t) (l := s)).subset hp
  obtain ⟨k, hk, rfl, h1⟩ := h.mem p hm
  have ht : ∀ l : List PT, ∀ x ∈ l.takeWhile (dueT t), dueT t x = true := by
    intro l
    induction l with
    | nil => intro x hx; simp at hx
    | cons y l ih =>
      intro x hx
      rw [List.takeWhile] at hx
      split at hx
      · rcases List.mem_cons.1 hx with rfl | hx
        · assumption
        · exact ih x hx
      · simp at hx
  have := ht s _ hp
  simp only [dueT, decide_eq_true_eq] at this
  exact ⟨by show (-1 : Int) ≤ gtR tI D k; omega, this⟩
theorem HLK.step {t : Int} {W R : List PT} {D0 D : List Int} {last i : Int} (h : HLK t W R D0 D last i) (i0 : 0 ≤ i) (i1 : i < W.length) : ∃ (k : Nat) (v : Int), v = gtR tI D k ∧ k < D.length ∧ gtR tPar W i = (v, ((k : Int), wantE k)) ∧ 0 ≤ v ∧ v ≤ t ∧ last ≤ v ∧ HLK t W R D0 (D.set k (-1)) v (i + 1) := by
  have e := gtR_drop (t := tPar) i0 i1
  obtain ⟨hr, hd, hl⟩ := h
  rw [e] at hr hd hl
  obtain ⟨k, hk, hp, hk0, hr2⟩ := REL.pop (s := W.drop (i + 1).toNat ++ R) hr
  have h1 := hl _ List.mem_cons_self
  rw [hp] at h1
  have hso := List.pairwise_cons.1 (show List.Pairwise ltP (gtR tPar W i :: (W.drop (i + 1).toNat ++ R)) from hr.so)
  refine ⟨k, gtR tI D k, rfl, hk, hp, hk0, h1.2, h1.1, hr2, ?_, fun p hp2 => ⟨?_, (hl p (List.mem_cons_of_mem _ hp2)).2⟩⟩
  · rw [← hd, dueM, hp]; show _ = dueM _ (D.set (k : Int).toNat (-1)); rw [Int.toNat_natCast]
  · have := hso.1 p (List.mem_append_left _ hp2)
    rw [hp] at this
    unfold ltP at this
    show gtR tI D k ≤ p.1
    rcases this with h | h
    · exact Int.le_of_lt h
    · exact Int.le_of_eq h.1
theorem HLK.fin {t : Int} {s : List PT} {D0 D : List Int} {last i : Int} (h : HLK t (s.takeWhile (dueT t)) (s.dropWhile (dueT t)) D0 D last i) (i1 : ¬ i < (s.takeWhile (dueT t)).length) : D = dueM (s.takeWhile (dueT t)) D0 ∧ ∀ k : Int, 0 ≤ k → k < D.length → (0 : Int) ≤ gtR tI D k → ¬ (gtR tI D k : Int) ≤ t := by
  obtain ⟨hr, hd, _⟩ := h
  have e : (s.takeWhile (dueT t)).drop i.toNat = [] := List.drop_of_length_le (by omega)
  rw [e] at hr hd
  refine ⟨hd, fun k k0 k1 h0 hle => ?_⟩
  have hm := hr.all k.toNat (by omega) (by rw [show ((k.toNat : Nat) : Int) = k by omega]; exact h0)
  have hmm : ((gtR tI D k, ((k.toNat : Int), wantE k.toNat)) : PT) ∈ s.dropWhile (dueT t) := by
    rw [show ((k.toNat : Nat) : Int) = k by omega] at hm ⊢; exact hm
  have hso : (s.dropWhile (dueT t)).Pairwise ltP := hr.so
  cases hc : s.dropWhile (dueT t) with
  | nil => rw [hc] at hmm; simp at hmm
  | cons y r =>
    have hy : dueT t y ≠ true := fun hh => by
      have := List.head?_dropWhile_not (dueT t) s
      rw [hc] at this
      simp [hh] at this
    have hy : ¬ y.1 ≤ t := by simpa [dueT] using hy
    rw [hc] at hmm hso
    rcases List.mem_cons.1 hmm with h | h
    · rw [← h] at hy; exact hy hle
    · have := (List.pairwise_cons.1 hso).1 _ h
      unfold ltP at this
      have : y.1 ≤ gtR tI D k := by rcases this with h | h; exact Int.le_of_lt h; exact Int.le_of_eq h.1
      exact hy (Int.le_trans this hle)
theorem cHears (F : List Int) (now sent t : Int) (N n : Nat) (q s : List tPar.den) (m : Nat) (D : List Int) (n' : Nat) (q' : List tPar.den) (hs : SQ q n s) (hr : REL s D) (hm : D.length = m) (hN : q.length = N) (hn : n ≤ 64) (ht : atM now t = 0) (hm1 : m ≤ 64) (hn' : n' = hearN t n q) (hq' : q' = hearQ t n q) : FnS Try.prog 26 ([.ptr 0 0, .p (iv t), .ms 3 0 1 none m]) (stH F now sent N n q m D [] ) fun x_ s_ => x_ = (.p (.v (.bool true))) ∧ s_ = (stH F t sent N n' q' m (dueM (s.takeWhile (dueT t)) D) []) := by
  refine FnS.of (S := [(27, _)]) (T := [(15, _)]) (tbl := []) (n := 107) hm33 cfg (.cons (spT1.ok (a := (.int .i64)) (pre := fun _ => True) fun x0 _ => c27 x0) .nil) (.cons cHearR .nil) .nil 0 Try.call26 Try.func26 (ac26_ok (some (4, 0))) (by rw [Try.ntmps26]; exact Nat.le_refl _) rfl _ _ _ (by rfl) ?_
  intro cmp ar cv tn ic ai mx an ad ml sb mn ln em gt up ap sc vw cp rp p1 p2 s1 s2 X Y hX hY r0 r1 r2 r3 r4 r5 r6 r7 r8 r9 r10 r11 r12 r13 r14 r15 r16 r17 r18 r19 r20 r21 r22 r23 r24
  generalize hg0 : dueM = g0
  generalize hg1 : List.takeWhile = g1
  cbv
  refine HEAR.mk ⟨ht, hN, hN ▸ hs.le, hn⟩ ?_
  intro n2 q2 o hn2 hq2 ho
  obtain rfl := hn2.trans hn'.symm
  obtain rfl := hq2.trans hq'.symm
  cbv
  have ht0 : 0 ≤ t ∧ t ≤ 1099511627776 := by unfold atM at ht; split at ht <;> first | (cases ht; done) | omega
  obtain ⟨W, hW⟩ : ∃ W, W = List.takeWhile (dueT t) s := ⟨_, rfl⟩
  obtain ⟨R, hR⟩ : ∃ R, R = List.dropWhile (dueT t) s := ⟨_, rfl⟩
  obtain ⟨D1, hD1⟩ : ∃ R, R = dueM W D := ⟨_, rfl⟩
  have hoW : o = W.map (fun x => x.2.2) := by rw [ho, hW]; exact hs.hears.1
  have h1 : HLK t W R D D (-1) 0 := by rw [hW, hR]; exact HLK.start hr ht0.1
  have h2 : ∀ D' last i, HLK t W R D D' last i → ¬ i < W.length → D' = D1 ∧ ∀ k : Int, 0 ≤ k → k < D'.length → (0 : Int) ≤ gtR tI D' k → ¬ (gtR tI D' k : Int) ≤ t := fun D' last i h hi => by
    rw [hD1, hW]; rw [hW] at h hi; rw [hR] at h; exact h.fin hi
  have hWl : W.length ≤ 64 := by
    have := (List.takeWhile_sublist (dueT t) (l := s)).length_le
    rw [← hW] at this
    have := hs.len; omega
  have hgo : ∀ i : Int, 0 ≤ i → i < W.length → gtR tChoice o i = (gtR tPar W i).2.2 := fun i i0 i1 => by
    have h : i.toNat < W.length := by omega
    have h2 : i.toNat < (W.map (fun x => x.2.2)).length := by simpa using h
    rw [gtR, gtR, hoW, List.getD_eq_getElem?_getD, List.getD_eq_getElem?_getD, List.getElem?_eq_getElem h2, List.getElem?_eq_getElem h, List.getElem_map]; rfl
  have hol : o.length = W.length := by rw [hoW]; simp
  have hg3 : g0 (g1 (dueT t) s) D = D1 := by rw [← hg0, ← hg1, hD1, hW]
  rw [hg3]
  clear hoW hW hR hD1 hg3 ho hn2 hq2 hr hs
  refine BR.nn r0 ?_
  refine LOOP.ind (σ := List Int × Int × Int) (fun (D', last, i) => [(1, .p (iv t)), (2, .ms 3 0 1 none m), (7, .og 0 tChoice o), (9, .p (iv last)), (10, .p (iv i)), (11, .p (iv i))]) (fun (D', last, i) => stH F t sent N n2 q2 m D' [(ml (ln tChoice o) 4, 33)]) (fun (D', last, i) => (W.length - i).toNat)
    (fun (D', last, i) => 0 ≤ i ∧ i ≤ W.length ∧ D'.length = m ∧ HLK t W R D D' last i) (D, -1, 0) ⟨by omega, by show (0 : Int) ≤ _; omega, hm, h1⟩ (.inl ⟨rfl, rfl⟩) ?_
  intro ⟨D', last, i⟩ hI X' hX
  dsimp only at hI
  obtain ⟨hI1, hI2, hI3, hI4⟩ := hI
  cbv
  have hlo : ic (ln tChoice o) = W.length := by rw [r4, r12]; show ((o.length : Nat) : Int) = _; rw [hol]
  refine BR.mk (fun hi => ?_) fun hi => ?_
  · have hi : i < W.length := by rw [r0, hlo] at hi; simpa [cmpR] using hi
    obtain ⟨k, v, hv, k1, hp, v0, v1, v2, hn⟩ := hI4.step hI1 hi
    have hgt : gt tChoice o i = (3, 4, 0, (k : Int) + 1) := by rw [r14, hgo i hI1 hi, hp]; rfl
    obtain ⟨kk, hkk⟩ : ∃ kk : Int, kk = k := ⟨_, rfl⟩
    have hks : ar .sub .i64 (kk + 1) 1 = kk := by rw [r1]; exact (wrap64 (n := kk + 1 - 1) (by omega) (by omega)).trans (by omega)
    have hka : ar .add .i64 kk 1 = kk + 1 := by rw [r1]; exact wrap64 (n := kk + 1) (by omega) (by omega)
    have hia : ar .add .i64 i 1 = i + 1 := by rw [r1]; exact wrap64 (n := i + 1) (by omega) (by omega)
    have hgd : gt tI D' kk = v := by rw [r14, hv, hkk]
    have hup : up tI m D' kk (-1) = D'.set k (-1) := by rw [r15, upR_len (t := tI) hI3, hkk, Int.toNat_natCast]
    have hinb : INB i (ic (ln tChoice o)) := ⟨hI1, by rw [hlo]; exact hi⟩
    have hinb2 : INB kk (ic m) := ⟨by omega, by rw [r4]; show kk < (m : Int); omega⟩
    rw [← hkk] at hgt
    rw [hgt]
    simp only [r21, r22]
    rw [hks, hka, hia, hgd, hup]
    have hicm : ic m = m := by rw [r4]
    rw [hicm]
    have hnI : 0 ≤ i + 1 ∧ i + 1 ≤ W.length ∧ (D'.set k (-1)).length = m ∧ HLK t W R D (D'.set k (-1)) v (i + 1) := ⟨by omega, hi, by rw [List.length_set]; exact hI3, hn⟩
    have hmu : (W.length - (i + 1) : Int).toNat < (W.length - i : Int).toNat := by omega
    repeat' (first | exact True.intro | refine And.intro ?_ ?_ | (refine BR.nn r0 ?_) | (refine BR.lss r0 ?_ ?_ <;> intro _) | (refine BR.neq r0 ?_ ?_ <;> intro _) | (refine BR.eql r0 ?_ ?_ <;> intro _) | (refine BR.leq r0 ?_ ?_ <;> intro _) | (refine BR.gtr r0 ?_ ?_ <;> intro _) | (refine BR.geq r0 ?_ ?_ <;> intro _) | (refine BR.mk ?_ ?_ <;> intro _) | (refine CASE.mk ?_; intro _))
    all_goals try (exact hinb)
    all_goals try (rw [hicm] at hinb2; exact hinb2)
    all_goals try (exfalso; omega)
    all_goals try (exact NEXT.mk (hX (D'.set k (-1), v, i + 1) _ _ hnI hmu (.inl ⟨rfl, rfl⟩)))
    all_goals (exfalso; rename_i hz; rw [r7, r0] at hz; simp [cmpR] at hz)
  · have hi : ¬ i < W.length := by rw [r0, hlo] at hi; simpa [cmpR] using hi
    obtain ⟨hD, hf⟩ := h2 _ _ _ hI4 hi
    have hil : i = W.length := Int.le_antisymm hI2 (Int.not_lt.1 hi)
    have hicm : ic m = m := by rw [r4]
    clear hX h1 h2 hgo
    refine LOOP.ind (σ := Int) (fun k => [(1, .p (iv t)), (2, .ms 3 0 1 none m), (7, .og 0 tChoice o), (10, .p (iv i)), (13, .p (iv k))]) (fun _ => stH F t sent N n2 q2 m D' [(ml (ln tChoice o) 4, 33)]) (fun k => (m - k).toNat)
      (fun k => 0 ≤ k ∧ k ≤ m) 0 ⟨by omega, by show (0 : Int) ≤ _; omega⟩ (.inl ⟨rfl, rfl⟩) ?_
    intro k hK X2 hY
    have hf := hf k hK.1
    have hka : ar .add .i64 k 1 = k + 1 := by rw [r1]; exact wrap64 (n := k + 1) (by omega) (by omega)
    obtain ⟨v, hv⟩ : ∃ v : Int, v = gt tI D' k := ⟨_, rfl⟩
    have hv1 : v = gtR tI D' k := by rw [hv, r14]
    have hf : k < m → 0 ≤ v → ¬ v ≤ t := fun a b => by rw [hv1] at b ⊢; exact hf (by rw [hI3]; exact a) b
    cbv
    rw [← hv, hicm, hka, hlo]
    repeat' (first | exact True.intro | refine And.intro ?_ ?_ | (refine BR.nn r0 ?_) | (refine BR.lss r0 ?_ ?_ <;> intro _) | (refine BR.neq r0 ?_ ?_ <;> intro _) | (refine BR.eql r0 ?_ ?_ <;> intro _) | (refine BR.leq r0 ?_ ?_ <;> intro _) | (refine BR.gtr r0 ?_ ?_ <;> intro _) | (refine BR.geq r0 ?_ ?_ <;> intro _) | (refine BR.mk ?_ ?_ <;> intro _) | (refine CASE.mk ?_; intro _))
    all_goals try (exact ⟨hK.1, by omega⟩)
    all_goals try (exfalso; have hf := hf ‹_› ‹_›; omega)
    all_goals try (refine NEXT.mk (hY (k + 1) _ _ ?_ ?_ (.inl ⟨rfl, rfl⟩)))
    all_goals first
      | (simp only [nc_eq] at *; omega)
      | (exact ⟨by omega, by omega⟩)
      | omega
      | (refine RET.mk ⟨[some 0, some 1, some 2, some 3], [], ?_⟩; rw [SIM_iff]; cbv; rw [hD]; simp; done)
      | (exfalso; rename_i hz; exact hz hil)
end Go.Ab

