/- LinkSplit. -/
import Derived.Test.YtchmkekndbfflaaLx
import Derived.Test.YtchmkekndbfflaaLv
set_option linter.unusedSimpArgs false
set_option linter.unusedVariables false
set_option maxRecDepth 20000
set_option maxHeartbeats 8000000
namespace Go.Ab
open Go.Proofs
theorem sortQ_eq {q s : List PT} {n : Nat} (h : SQ q n s) : sortQ (q.take n) = s := by
  obtain ⟨h1, h2, h3⟩ := sortQ_spec (q.take n)
  have hp := h2.trans h.pm.symm
  have hs : (sortQ (q.take n)).Pairwise fun a b => ¬ ltP b a := by
    rw [List.pairwise_iff_getElem]
    intro i j hi hj hij
    have := h3 i j hij (by omega)
    have e : ∀ k (hk : k < (sortQ (q.take n)).length), (sortQ (q.take n)).getD k tPar.dflt = (sortQ (q.take n))[k] := fun k hk => by rw [List.getD, List.getElem?_eq_getElem hk]; rfl
    rw [e i hi, e j hj] at this
    simpa [befB, ltP] using this
  refine List.Perm.eq_of_pairwise (le := fun a b => ¬ ltP b a) (fun a b ha hb h4 h5 => ?_) hs (h.so.imp fun h => h.asymm) hp
  have ha' := hp.mem_iff.1 ha
  obtain ⟨i, hi, rfl⟩ := List.getElem_of_mem ha'
  obtain ⟨j, hj, rfl⟩ := List.getElem_of_mem hb
  rcases Nat.lt_trichotomy i j with hij | hij | hij
  · exact absurd (List.pairwise_iff_getElem.1 h.so i j hi hj hij) h5
  · subst hij; rfl
  · exact absurd (List.pairwise_iff_getElem.1 h.so j i hj hi hij) h4
structure PND (N n : Nat) (q : List tPar.den) (K : List tPar.den → Prop) : Prop where
  pre : (∃ s, SQ q n s) ∧ q.length = N ∧ n ≤ 300
  h : ∀ s, SQ q n s → K s
def spPendR : OpsS → CallS := fun _ _ ds st K => match ds with
  | [.ptr a 0] => linkAt a st fun b c F now sent N n q => PND N n q fun s => frS [a, b, c] [] [.ptr 0 0] (linkS F now sent N n q) (.ms 3 0 6 none n) ⟨(linkS F now sent N n q).box ++ [{ cells := [.arr n tPar s], e := 49, fz := false, ap := true }], []⟩ ds st K
  | _ => False
theorem cPendR : ∀ ds st K, spPendR OpsS.real 18 ds st K → FnS Try.prog 18 ds st K := fun ds st K h => by
  unfold spPendR at h
  split at h
  · obtain ⟨b, c, F, now, sent, N, n, q, hu⟩ := linkAt_some h
    obtain ⟨⟨s, hs⟩, h2, h3⟩ := hu.pre
    have hc := cPend F now sent N n q h2 (h2 ▸ hs.le) h3
    rw [sortQ_eq hs] at hc
    exact frS_ok hc (hu.h s hs)
  · exact h.elim
theorem cParcels (na : Option Bool) (a : List tPar.den) (nb : Option Bool) (b : List tPar.den) (r : Bool) (hr : r = decide (a = b)) (h : a.length < 1000) : PurS Try.prog 19 [injT (.sl tPar) (na, a), injT (.sl tPar) (nb, b)] (.sb r) := by
  refine PurS.of (S := []) (T := []) (tbl := []) (n := 26) hm33 cfg .nil .nil .nil 0 Try.call19 Try.func19 (ac19_ok (some (0, 0))) (by rw [Try.ntmps19]; exact Nat.le_refl _) rfl ⟨_, rfl⟩ ?_
  intro cmp ar cv tn ic ai mx an ad ml sb mn ln em gt up ap sc vw cp rp p1 p2 s1 s2 X Y hX hY r0 r1 r2 r3 r4 r5 r6 r7 r8 r9 r10 r11 r12 r13 r14 r15 r16 r17 r18 r19 r20 r21 r22 r23 r24
  cbv
  refine BR.mk ?_ ?_ <;> intro hc
  · subst_vars
    simp only [Short_iff, cmpR, arR, mxR, INB_iff, SLB_iff, SLM_iff, NZ_iff, NN_iff, EQN_iff, LEN_iff, LIM_iff, MK_iff, decide_eq_true_eq, decide_eq_false_iff_not, ne_eq, Bool.and_eq_true, nc_eq] at *
    grind
  · refine LOOP.ind (σ := Int) (fun i => [(0, .tl na tPar a), (1, .tl nb tPar b), (5, .p (iv i))]) (fun _ => ⟨[], []⟩) (fun i => (a.length - i).toNat) (fun i => 0 ≤ i ∧ i ≤ a.length ∧ (a.drop i.toNat = b.drop i.toNat ↔ a = b)) 0 (by simp) (.inl ⟨rfl, rfl⟩) ?_
    intro i hI X' hX
    have hd := drop_eq (t := tPar) (a := a) (b := b) (i := i)
    have he := gtR_end (l := a) (i := i)
    have he' := gtR_end (l := b) (i := i)
    cbv
    repeat' (first | exact True.intro | refine And.intro ?_ ?_ | (refine BR.mk ?_ ?_ <;> intro _) | (refine CASE.mk ?_; intro _) | refine NEXT.mk (hX _ _ _ ?_ ?_ (.inl ⟨rfl, rfl⟩)))
    all_goals clear hX
    all_goals subst_vars
    all_goals try simp only [Short_iff, cmpR, arR, mxR, INB_iff, SLB_iff, SLM_iff, NZ_iff, NN_iff, EQN_iff, LEN_iff, LIM_iff, MK_iff, decide_eq_true_eq, decide_eq_false_iff_not, ne_eq, Bool.and_eq_true] at *
    all_goals try dsimp only [Ty.den] at *
    all_goals try simp only [nc_eq] at *
    all_goals try (simp (disch := omega) only [wrap64] at *)

    all_goals grind
def eqPa (a b : List tPar.den) : Bool := decide (a = b)
theorem cParcels' (na : Option Bool) (a : List tPar.den) (nb : Option Bool) (b : List tPar.den) (h : Short 900 a) : PurS Try.prog 19 [injT (.sl tPar) (na, a), injT (.sl tPar) (nb, b)] (.sb (eqPa a b)) :=
  cParcels na a nb b _ rfl (by have := Short_iff.1 h; omega)
theorem take_split {a b : Int} (h : a ≤ b) : ∀ s : List PT, s.takeWhile (dueT a) ++ (s.dropWhile (dueT a)).takeWhile (dueT b) = s.takeWhile (dueT b)
  | [] => rfl
  | x :: r => by
    by_cases hx : x.1 ≤ a
    · have h1 : dueT a x = true := by simp [dueT, hx]
      have h2 : dueT b x = true := by simp only [dueT, decide_eq_true_eq]; omega
      simp only [List.takeWhile_cons, List.dropWhile_cons, h1, h2, if_true, List.cons_append, take_split h r]
    · have h1 : dueT a x = false := by simp [dueT]; omega
      simp [List.takeWhile_cons, List.dropWhile_cons, h1]
theorem drop_split {a b : Int} (h : a ≤ b) : ∀ s : List PT, (s.dropWhile (dueT a)).dropWhile (dueT b) = s.dropWhile (dueT b)
  | [] => rfl
  | x :: r => by
    by_cases hx : x.1 ≤ a
    · have h1 : dueT a x = true := by simp [dueT, hx]
      have h2 : dueT b x = true := by simp only [dueT, decide_eq_true_eq]; omega
      simp only [List.dropWhile_cons, h1, h2, if_true, drop_split h r]
    · have h1 : dueT a x = false := by simp [dueT]; omega
      simp [List.dropWhile_cons, h1]

theorem sIns_n {F : List Int} {i t : Int} {c : tChoice.den} {s : List PT} (h : ∀ p ∈ s, p.2.1 < i) : ∀ p ∈ sIns F i t c s, p.2.1 < i + 1 := fun p hp => by
  unfold sIns at hp
  split at hp
  · have := h p hp; omega
  · rcases List.mem_cons.1 ((insP_perm _ _).mem_iff.1 hp) with rfl | hp
    · show i < i + 1; omega
    · have := h p hp; omega
theorem lawSplit (nf : Option Bool) (f : List Int) (d0 m0 : Int) (hf : f.length ≤ maxLen) (hd : 0 ≤ d0 ∧ d0 < 256) (hm : 0 ≤ m0 ∧ m0 < 256) : PurS Try.prog 7 [injT (.sl (.int .i8)) (nf, f), injT (.int .u8) d0, injT (.int .u8) m0] (.sb true) := by
  refine PurS.of (S := [(10, _), (25, _), (27, _), (17, _), (19, _)]) (T := [(11, _), (13, _), (15, _), (18, _)]) (tbl := []) (n := 143) hm33 cfg (.cons (spT0.ok caw33b) (.cons (spT1.ok (a := (.int .i8)) (pre := fun _ => True) fun x0 _ => c25 x0) (.cons (spT1.ok (a := (.int .i64)) (pre := fun _ => True) fun x0 _ => c27 x0) (.cons (spT2.ok (a := (.sl (.pair (.int .i64) (.pair (.int .i64) (.pair (.int .u8) (.int .i64)))))) (b := (.sl (.pair (.int .i64) (.pair (.int .i64) (.pair (.int .u8) (.int .i64)))))) fun x0 x1 h => cChoices' x0.1 x0.2 x1.1 x1.2 h) (.cons (spT2.ok (a := (.sl (.pair (.int .i64) (.pair (.int .i64) (.pair (.int .i64) (.pair (.int .i64) (.pair (.int .u8) (.int .i64)))))))) (b := (.sl (.pair (.int .i64) (.pair (.int .i64) (.pair (.int .i64) (.pair (.int .i64) (.pair (.int .u8) (.int .i64)))))))) fun x0 x1 h => cParcels' x0.1 x0.2 x1.1 x1.2 h) .nil))))) (.cons cNewT (.cons cSendR (.cons cHearR (.cons cPendR .nil)))) .nil 0 Try.call7 Try.func7 (ac7_ok (some (0, 0))) (by rw [Try.ntmps7]; exact Nat.le_refl _) rfl ⟨_, rfl⟩ ?_
  intro cmp ar cv tn ic ai mx an ad ml sb mn ln em gt up ap sc vw cp rp p1 p2 s1 s2 X Y hX hY r0 r1 r2 r3 r4 r5 r6 r7 r8 r9 r10 r11 r12 r13 r14 r15 r16 r17 r18 r19 r20 r21 r22 r23 r24
  generalize hg0 : fatesM = g0
  generalize hg1 : clipM = g1
  generalize hg2 : eqCh = g2
  generalize hg3 : eqPa = g3
  cbv
  have hck : ∀ x, -1 ≤ clipM x ∧ clipM x ≤ 8 := clip_ok
  have hnw : ∀ a, fateL a → a.length ≤ 40 → NEWK a := fun a h k => ⟨fate_wrong h (by omega)⟩
  have hfa : ∀ a, fateL a → a.length ≤ 40 → (∀ i, -1 ≤ gtR tI (fatesM a) i ∧ gtR tI (fatesM a) i ≤ 8) ∧ ∀ i : Int, 0 ≤ i → i < 100 → fateM (fatesM a) i = if i < a.length then gtR tI a i else 0 := fun a h k => ⟨fates_bb (fate_wrong h (by omega)), fun i h0 h1 => fate_get h0 h1 k⟩
  rw [hg1] at hck
  rw [hg0] at hfa
  refine LOOP.ind (σ := List Int × Int) (fun (a, i) => [(0, .tl nf (.int .i8) f), (1, .p (.v (.int .u8 d0))), (2, .p (.v (.int .u8 m0))), (7, .og 0 tI a), (8, .p (iv i))]) (fun (a, i) => ⟨[], [(ml (ln tI a) 1, 3)]⟩) (fun (a, i) => (f.length - i).toNat)
    (fun (a, i) => 0 ≤ i ∧ i ≤ f.length ∧ i ≤ 30 ∧ a.length = i ∧ fateL a) ([], 0) ⟨by omega, by show (0 : Int) ≤ _; omega, by omega, by simp, fateL.nil⟩ (.inr ⟨[], [none], ?_⟩) ?_
  · rw [SIM_iff]; cbv; simp [nlLe_self]
  intro ⟨a, i⟩ hI X1 hX
  dsimp only at hI
  obtain ⟨hI1, hI2, hI3, hI4, hI5⟩ := hI
  have hst : ∀ x, fateL (a ++ [g1 x]) := fun x => hI5.app (fateL.one (hck x).1 (hck x).2)
  have hnw := hnw a hI5 (by omega)
  have hfa := hfa a hI5 (by omega)
  have ha40 : a.length ≤ 40 := by omega
  have ha30 : a.length ≤ 30 := by omega
  cbv
  repeat' (first | exact True.intro | refine And.intro ?_ ?_ | (refine BR.mk ?_ ?_ <;> intro _) | (refine CASE.mk ?_; intro _) | refine NEXT.mk (hX (_, _) _ _ ?_ ?_ (.inl ⟨rfl, rfl⟩)))
  all_goals first | (show LOOP _ _ _ _ _ _; skip) | (clear hX; subst_vars; (all_goals try simp only [Short_iff, cmpR, arR, mxR, INB_iff, SLB_iff, SLM_iff, NZ_iff, NN_iff, EQN_iff, LEN_iff, LIM_iff, MK_iff, decide_eq_true_eq, decide_eq_false_iff_not, ne_eq, Bool.and_eq_true, cmpR] at *); (all_goals try dsimp only [Ty.den] at *); (all_goals try simp only [nc_eq] at *); (all_goals try (simp (disch := omega) only [wrap64] at *)); all_goals grind)
  all_goals
    obtain ⟨hfa1, hfa2⟩ := hfa
    clear hX hst hnw
    obtain ⟨F, hF⟩ : ∃ F, F = g0 a := ⟨_, rfl⟩
    rw [← hF] at hfa1 hfa2 ⊢
    clear hF
    refine LOOP.ind (σ := (Int × Int × Nat) × (Nat × List tPar.den) × (Nat × List tPar.den)) (fun ((j, t, n), _, _) => [(1, .p (.v (.int .u8 d0))), (2, .p (.v (.int .u8 m0))), (7, .og 0 tI a), (9, .ptr 0 0), (11, .ptr 3 0), (13, .p (iv j))])
      (fun ((j, t, n), (Na, qa), (Nb, qb)) => stLL F t j Na n qa F t j Nb n qb [(ml (ln tI a) 1, 3)]) (fun ((j, _, _), _, _) => (a.length - j).toNat)
      (fun ((j, t, n), (Na, qa), (Nb, qb)) => 0 ≤ j ∧ j ≤ a.length ∧ (0 ≤ t ∧ t ≤ j) ∧ qa.length = Na ∧ qb.length = Nb ∧ (n : Int) ≤ j ∧ ∃ s, SQ qa n s ∧ SQ qb n s ∧ ∀ y ∈ s, y.2.1 < j) ((0, 0, 0), (0, []), (0, [])) ⟨by omega, by show (0 : Int) ≤ _; omega, by omega, rfl, rfl, by show (0 : Int) ≤ 0; omega, [], .zero _, .zero _, by simp⟩ (.inr ⟨[some 0, some 1, some 2, some 3, some 4, some 5], [some 0], ?_⟩) ?_
    · rw [SIM_iff]; cbv; try simp [nlLe_self, lstEq]
    intro ⟨⟨j, t, n⟩, ⟨Na, qa⟩, ⟨Nb, qb⟩⟩ hJ X2 hY
    dsimp only at hJ
    obtain ⟨hJ1, hJ2, hJ3, hJ4, hJ5, hJ6, s, hsa, hsb, hss⟩ := hJ
    obtain ⟨k, hk⟩ : ∃ k : Nat, (k : Int) = j := ⟨j.toNat, by omega⟩
    have hla : ic (ln tI a) = a.length := by rw [r4, r12]
    have ha1 : ar .add .i64 j 1 = j + 1 := by rw [r1]; exact wrap64 (n := j + 1) (by omega) (by omega)
    have hw : wantE k = (3, 4, 0, j + 1) := by unfold wantE; rw [hk]
    have hlq := lq_want k (by omega)
    have hat := at_ok (now := t) (t := j) (by omega) (by omega) (by omega)
    rw [hw] at hlq
    have hn30 : n ≤ 30 := by omega
    have hinsN : ∀ x, ∀ y ∈ sIns F j j x s, y.2.1 < j + 1 := fun x => sIns_n hss
    cbv
    rw [hla, ha1]
    refine BR.mk (fun hi => ?_) fun hi => ?_
    · have hi : j < a.length := by rw [r0] at hi; simpa [cmpR] using hi
      refine SENT.mk ⟨hJ4, hJ4 ▸ hsa.le, by omega, by omega, by omega, hfa1⟩ ?_
      intro e1 now1 s1 N1 n1 q1 h1
      obtain ⟨rfl, hnow1, hs1, k4, k5, k6⟩ := h1.good hsa hJ4 hss hat hlq (by omega)
      clear h1
      cbv
      rw [ha1]
      repeat' (first | exact True.intro | refine And.intro ?_ ?_ | (refine BR.nn r0 ?_) | (refine BR.lss r0 ?_ ?_ <;> intro _) | (refine BR.neq r0 ?_ ?_ <;> intro _) | (refine BR.eql r0 ?_ ?_ <;> intro _) | (refine BR.leq r0 ?_ ?_ <;> intro _) | (refine BR.gtr r0 ?_ ?_ <;> intro _) | (refine BR.geq r0 ?_ ?_ <;> intro _) | (refine BR.mk ?_ ?_ <;> intro _) | (refine CASE.mk ?_; intro _))
      refine SENT.mk ⟨hJ5, hJ5 ▸ hsb.le, by omega, by omega, by omega, hfa1⟩ ?_
      intro e2 now2 s2 N2 n2 q2 h2
      obtain ⟨rfl, hnow2, hs2, m4, m5, m6⟩ := h2.good hsb hJ5 hss hat hlq (by omega)
      clear h2
      obtain rfl : n1 = n2 := k4.len.symm.trans m4.len
      have hins := hinsN (3, 4, 0, j + 1)
      have hn1 : n1 ≤ n + 1 := k6
      cbv
      rw [ha1]
      repeat' (first | exact True.intro | refine And.intro ?_ ?_ | (refine BR.nn r0 ?_) | (refine BR.lss r0 ?_ ?_ <;> intro _) | (refine BR.neq r0 ?_ ?_ <;> intro _) | (refine BR.eql r0 ?_ ?_ <;> intro _) | (refine BR.leq r0 ?_ ?_ <;> intro _) | (refine BR.gtr r0 ?_ ?_ <;> intro _) | (refine BR.geq r0 ?_ ?_ <;> intro _) | (refine BR.mk ?_ ?_ <;> intro _) | (refine CASE.mk ?_; intro _))
      replace hnow1 := hnow1.symm
      subst hnow1
      replace hnow2 := hnow2.symm
      subst hnow2
      subst hs1
      obtain rfl := hs2
      try simp only [nc_eq] at *
      have hnI : 0 ≤ j + 1 ∧ j + 1 ≤ a.length ∧ (0 ≤ j ∧ j ≤ j + 1) ∧ q1.length = N1 ∧ q2.length = N2 ∧ (n1 : Int) ≤ j + 1 ∧ ∃ s, SQ q1 n1 s ∧ SQ q2 n1 s ∧ ∀ y ∈ s, y.2.1 < j + 1 := ⟨by omega, by omega, by omega, k5, m5, by omega, _, k4, m4, hins⟩
      have hmu : (a.length - (j + 1) : Int).toNat < (a.length - j : Int).toNat := by omega
      refine NEXT.mk (hY ((j + 1, j, n1), (N1, q1), (N2, q2)) _ _ hnI hmu (.inr ⟨[some 0, some 1, some 6, some 3, some 4, some 7], [some 0], ?_⟩))
      rw [SIM_iff]; cbv
      try simp [lstEq, nlLe_self]
    · have hi : j = a.length := by
        have : ¬ j < a.length := by rw [r0] at hi; simpa [cmpR] using hi
        simp only [nc_eq] at *
        omega
      clear hY hinsN hw hlq
      obtain ⟨A, hA⟩ : ∃ A, A = ar .add .i64 a.length (ar .rem .i64 (cv .i64 d0) 12) := ⟨_, rfl⟩
      obtain ⟨B, hB⟩ : ∃ B, B = ar .add .i64 A (ar .rem .i64 (cv .i64 m0) 12) := ⟨_, rfl⟩
      have rem12 : ∀ x : Int, 0 ≤ x ∧ x < 256 → 0 ≤ ar .rem .i64 (cv .i64 x) 12 ∧ ar .rem .i64 (cv .i64 x) 12 ≤ 11 := fun x h => by
        rw [r1, r2, tI_rem h (by omega)]; omega
      have hAv : A = a.length + ar .rem .i64 (cv .i64 d0) 12 := by have := rem12 d0 hd; rw [hA]; generalize ar .rem .i64 (cv .i64 d0) 12 = z at *; rw [r1]; exact wrap64 (n := (a.length : Int) + z) (by omega) (by omega)
      have hA1 : (a.length : Int) ≤ A ∧ A ≤ 41 := by have := rem12 d0 hd; omega
      have hBv : B = A + ar .rem .i64 (cv .i64 m0) 12 := by have := rem12 m0 hm; rw [hB]; generalize ar .rem .i64 (cv .i64 m0) 12 = z at *; rw [r1]; exact wrap64 (n := A + z) (by omega) (by omega)
      have hB1 : A ≤ B ∧ B ≤ 60 := by have := rem12 m0 hm; omega
      rw [← hA, ← hB]
      clear hAv hBv rem12
      refine ⟨⟨by decide⟩, ⟨by decide⟩, ?_⟩
      have hatA := at_ok (now := t) (t := A) (by omega) (by omega) (by omega)
      have hatB := at_ok (now := A) (t := B) (by omega) (by omega) (by omega)
      have hatC := at_ok (now := t) (t := B) (by omega) (by omega) (by omega)
      refine HEAR.mk ⟨hatA, hJ4, hJ4 ▸ hsa.le, by omega⟩ ?_
      intro n1 q1 o1 hn1 hq1 ho1
      obtain ⟨x1, x2, x3, x4⟩ := hsa.hears (t := A)
      rw [← ho1] at x1
      rw [← hn1] at x2 x3
      rw [← hq1] at x3 x4
      clear hn1 hq1 ho1
      have hn1l : n1 ≤ 30 := by rw [x2]; have := (List.dropWhile_sublist (dueT A) (l := s)).length_le; have := hsa.len; omega
      have hNq1 : q1.length = Na := by rw [x4, hJ4]
      cbv
      refine HEAR.mk ⟨hatB, hNq1, by rw [← hNq1]; exact x3.le, by omega⟩ ?_
      intro n2 q2 o2 hn2 hq2 ho2
      obtain ⟨y1, y2, y3, y4⟩ := x3.hears (t := B)
      rw [← ho2] at y1
      rw [← hn2] at y2 y3
      rw [← hq2] at y3 y4
      clear hn2 hq2 ho2
      cbv
      refine HEAR.mk ⟨hatC, hJ5, hJ5 ▸ hsb.le, by omega⟩ ?_
      intro n3 q3 o3 hn3 hq3 ho3
      obtain ⟨z1, z2, z3, z4⟩ := hsb.hears (t := B)
      rw [← ho3] at z1
      rw [← hn3] at z2 z3
      rw [← hq3] at z3 z4
      clear hn3 hq3 ho3
      rw [drop_split hB1.1] at y2 y3
      have h23 : n2 = n3 := by rw [y2, z2]
      have hNq2 : q2.length = Na := by rw [y4, hNq1]
      have hNq3 : q3.length = Nb := by rw [z4, hJ5]
      have hn3l : n3 ≤ 30 := by rw [z2]; have := (List.dropWhile_sublist (dueT B) (l := s)).length_le; have := hsa.len; omega
      have hoo : o1 ++ o2 = o3 := by rw [x1, y1, z1, ← List.map_append, take_split hB1.1]
      subst h23
      cbv
      have hap0 : ap tChoice [] o1 = o1 := by rw [r16]; rfl
      have hap1 : ap tChoice o1 o2 = o3 := by rw [r16]; exact hoo
      have hl3 : o3.length ≤ 30 := by
        rw [z1, List.length_map]; have := (List.takeWhile_sublist (dueT B) (l := s)).length_le; have := hsa.len; omega
      have hl12 : o1.length + o2.length ≤ 30 := by rw [← List.length_append, hoo]; exact hl3
      have hln1 : ln tChoice o1 = o1.length := by rw [r12]
      have hln2 : ln tChoice o2 = o2.length := by rw [r12]
      have hln0 : ln tChoice [] = 0 := by rw [r12]; rfl
      have had : ∀ x y, ad x y = x + y := fun x y => by rw [r8]
      have hml : ∀ x y, ml x y = x * y := fun x y => by rw [r9]
      rw [hap0, hap1, hln0, hln1, hln2, had, had, hml, hml]
      refine BR.eql r0 (fun _ => ?_) (fun h => absurd rfl h)
      refine BR.eql r0 (fun _ => ?_) (fun h => absurd rfl h)
      refine BR.eql r0 (fun _ => ?_) (fun h => absurd rfl h)
      refine ⟨⟨by omega⟩, ⟨by omega, by simp only [maxLen]; omega⟩, ⟨rfl⟩, ⟨by omega, by simp only [maxLen]; omega⟩, Short_iff.2 (by omega), ?_⟩
      have hg2r : g2 o3 o3 = true := by rw [← hg2]; simp [eqCh]
      refine BR.mk (fun _ => ?_) (fun h => absurd h (by dsimp only; rw [hg2r]; simp))
      refine PND.mk ⟨⟨_, y3⟩, hNq2, by omega⟩ ?_
      intro sA hsA
      have eA := (sortQ_eq hsA).symm.trans (sortQ_eq y3)
      cbv
      refine PND.mk ⟨⟨_, z3⟩, hNq3, by omega⟩ ?_
      intro sB hsB
      have eB := (sortQ_eq hsB).symm.trans (sortQ_eq z3)
      have eAB : sB = sA := by rw [eA, eB]
      have hlA := hsA.len
      subst eAB
      cbv
      have hvA : vw tPar n2 sB 0 n2 = sB := by rw [r18]; exact vw_allT (t := tPar) hlA
      have hgA : g3 sB sB = true := by rw [← hg3]; simp [eqPa]
      rw [hvA, had]
      refine ⟨⟨⟨by omega⟩, ⟨by omega⟩, trivial⟩, Short_iff.2 (by omega), BR.mk (fun _ => trivial) fun h => ?_⟩
      dsimp only at h
      rw [hgA] at h
      exact absurd h (by simp)
theorem split_typed : ∀ xs, TyVs Try.prog [54, 5, 5] xs → PurFn Try.prog 7 (xs.map .p) (.v (.bool true)) := law3 (P := Try.prog) (f := 7) (t1 := 54) (t2 := 5) (t3 := 5) (T1 := .sl (.int .i8)) (T2 := .int .u8) (T3 := .int .u8) (by kernel_rfl) fun f d m hf hd hm => lawSplit f.1 f.2 d m hf.1 (wf_u8 hd) (wf_u8 hm)
end Go.Ab

