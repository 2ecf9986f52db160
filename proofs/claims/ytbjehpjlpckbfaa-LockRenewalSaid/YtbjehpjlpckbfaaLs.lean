/- LockOrder: equal, after. -/
import Derived.Test.YtbjehpjlpckbfaaLr
set_option linter.unusedSimpArgs false
set_option linter.unusedVariables false
set_option maxRecDepth 20000
set_option maxHeartbeats 8000000
namespace Go.Ab
open Go.Proofs
def eqK (a b : List LKV) : Bool := decide (a = b)
theorem cEqK (na : Option Bool) (a : List LKV) (nb : Option Bool) (b : List LKV) (h : Short 2000 a) : PurS Try.prog 21 [injT (.sl tLock) (na, a), injT (.sl tLock) (nb, b)] (.sb (eqK a b)) := by
  refine PurS.of (S := []) (T := []) (U := []) (tbl := []) (n := 26) hm32 cfg .nil .nil .nil .nil 0 Try.call21 Try.func21 (ac21_ok (some (0, 0))) (by rw [Try.ntmps21]; exact Nat.le_refl _) rfl ⟨_, rfl⟩ ?_
  intro cmp ar cv tn ic ai mx an ad ml sb mn ln em gt up ap sc vw cp rp p1 p2 s1 s2 X Y hX hY r0 r1 r2 r3 r4 r5 r6 r7 r8 r9 r10 r11 r12 r13 r14 r15 r16 r17 r18 r19 r20 r21 r22 r23 r24
  generalize hg0 : eqK = g0
  cbv
  have h := h.h
  have he0 : ∀ b, a.length ≠ b.length → g0 a b = false := fun b h => by rw [← hg0]; exact decide_eq_false (fun e => h (by rw [e]))
  have he1 : (a.drop 0 = b.drop 0 ↔ g0 a b = true) := by rw [← hg0]; simp [eqK]
  have hla : ic (ln tLock a) = a.length := by rw [r4, r12]
  have hlb : ic (ln tLock b) = b.length := by rw [r4, r12]
  rw [hla, hlb]
  refine BR.neq r0 (fun hc => (he0 b (by omega)).symm) (fun hc => ?_)
  have hab : a.length = b.length := by omega
  refine LOOP.ind (σ := Int) (fun i => [(0, .tl na tLock a), (1, .tl nb tLock b), (5, .p (iv i))]) (fun _ => ⟨[], []⟩) (fun i => (a.length - i).toNat) (fun i => 0 ≤ i ∧ i ≤ a.length ∧ (a.drop i.toNat = b.drop i.toNat ↔ g0 a b = true)) 0 ⟨by omega, by omega, he1⟩ (.inl ⟨rfl, rfl⟩) ?_
  intro i hI X' hX
  obtain ⟨hI1, hI2, hI3⟩ := hI
  have hd := fun h => drop_eq (t := tLock) (a := a) (b := b) (i := i) hI1 h hab
  have hend : ¬ i < a.length → g0 a b = true := fun h => hI3.1 (by rw [gtR_end h, gtR_end (by omega)])
  obtain ⟨⟨x1, x2, x3, x4⟩, hx⟩ : ∃ x : LKV, x = gt tLock a i := ⟨_, rfl⟩
  obtain ⟨⟨y1, y2, y3, y4⟩, hy⟩ : ∃ x : LKV, x = gt tLock b i := ⟨_, rfl⟩
  have hxy : gtR tLock a i = gtR tLock b i ↔ (x1 = y1 ∧ x2 = y2 ∧ x3 = y3 ∧ x4 = y4) := by
    rw [← r14, ← hx, ← hy]; simp
  have heq : ∀ x y z w x' y' z' w' : Int, an (cmp .eql x x') (an (cmp .eql y y') (an (cmp .eql z z') (an (cmp .eql w w') true))) = decide (x = x' ∧ y = y' ∧ z = z' ∧ w = w') := fun x y z w x' y' z' w' => by
    rw [r7, r0]; simp [cmpR]
  have hadd : i < a.length → ar .add .i64 i 1 = i + 1 := fun h => by rw [r1]; exact wrap64 (n := i + 1) (by omega) (by omega)
  have hf : ∀ q, q ≠ true → q = false := fun q h => by simpa using h
  have q : ∀ z1 z2 z3 z4 : Int, p1 tI (.pair tU (.pair tI tI)) (z1, z2, z3, z4) = z1 ∧ p1 tU (.pair tI tI) (p2 tI (.pair tU (.pair tI tI)) (z1, z2, z3, z4)) = z2 ∧ p1 tI tI (p2 tU (.pair tI tI) (p2 tI (.pair tU (.pair tI tI)) (z1, z2, z3, z4))) = z3 ∧ p2 tI tI (p2 tU (.pair tI tI) (p2 tI (.pair tU (.pair tI tI)) (z1, z2, z3, z4))) = z4 := fun _ _ _ _ => by rw [r21, r22]; exact ⟨rfl, rfl, rfl, rfl⟩
  obtain ⟨a1, a2, a3, a4⟩ := q x1 x2 x3 x4
  obtain ⟨b1, b2, b3, b4⟩ := q y1 y2 y3 y4
  clear q
  cbv
  try simp only [nc_eq] at *
  rw [← hx, ← hy, a1, a2, a3, a4, b1, b2, b3, b4, heq, hla, hlb]
  refine BR.lss r0 (fun hc => ⟨⟨hI1, hc⟩, ⟨hI1, hc⟩, ⟨hI1, by omega⟩, ⟨hI1, by omega⟩, BR.mk (fun h2 => ?_) (fun h2 => ?_)⟩) (fun hc => (hend hc).symm)
  · rw [hadd hc]
    exact NEXT.mk (hX _ _ _ ⟨by omega, by omega, by rw [← hI3, hd hc, hxy]; exact (and_iff_right (of_decide_eq_true h2)).symm⟩ (by show ((a.length : Int) - (i + 1)).toNat < ((a.length : Int) - i).toNat; omega) (.inl ⟨rfl, rfl⟩))
  · exact (hf _ fun h => (of_decide_eq_false h2) (hxy.1 ((hd hc).1 (hI3.2 h)).1)).symm
def maxN (l : List Int) : Int := l.foldl max 0
def chO (n : Int) : Int × Int × Int × Int := (7, (9, (n % 3, n)))
def lkO (g : Int) : LKV := (7, (g % 3, (g, 9)))
def ONE (g c : Int) (l : LE) : Prop := (g = 0 ∧ l = []) ∨ (0 < g ∧ ∃ b, l = [(7, lkO g, b)])
theorem ONE.step {g w c : Int} {n : Nat} {l : LE} {m : Int} {e w' c' : Int} {l' : LE} (h : ONE g c l) (hT : TAB c n l) (hg : 0 ≤ g ∧ g ≤ 65536) (hw : w ≤ 5) (hm : 1 ≤ m ∧ m ≤ 65536) (hR : SETR 4 w c l 5 (chO m) e w' l' c') :
    e = 0 ∧ w' = 5 ∧ ONE (max g m) c' l' ∧ TAB c' l'.length l' := by
  have hat : atE w 5 = 0 := by unfold atE; rw [if_neg (by omega), if_neg (by omega)]
  have hc : lcheckM (chO m) = 0 := by
    unfold lcheckM chO
    dsimp only [Ty.den]
    rw [if_neg (by omega), if_neg (by omega), if_neg (by omega)]
  have hlive : liveL 5 l = l := by
    rcases h with ⟨_, rfl⟩ | ⟨_, b, rfl⟩
    · rfl
    · rfl
  have hT' := hT.set hR (by show 0 ≤ m % 3; omega)
  have hn16 : ¬ (MNot (liveL 5 l) (chO m).1 ∧ (liveL 5 l).length = 16) := by
    rw [hlive]
    rcases h with ⟨_, rfl⟩ | ⟨_, b, rfl⟩ <;> simp
  obtain ⟨he, hw', hS⟩ := hR.good hat hc hn16
  refine ⟨he, hw', ?_, hT'⟩
  rw [hlive] at hS
  rcases h with ⟨rfl, rfl⟩ | ⟨hg0, b, rfl⟩
  · have hp := hS.no (ch := chO m) (fun e he => by cases he)
    rcases hp with ⟨l1, v0, b, l2, e, _⟩ | ⟨_, rfl, rfl⟩
    · simp at e
    · rw [show max 0 m = m by omega]
      exact .inr ⟨by omega, c, rfl⟩
  · have hh : MHas [((7 : Int), lkO g, b)] (chO m).1 (lkO g) b := ⟨[], [], rfl, fun e he => by cases he⟩
    by_cases hgm : g > m
    · obtain ⟨rfl, rfl⟩ := hS.gt hT.ok hh hgm
      rw [show max g m = g by omega]
      exact .inr ⟨hg0, b, rfl⟩
    · have hp := hS.le hT.ok hh (by show g ≤ m; omega)
      have hv : newV 4 5 (chO m) (lkO g) = lkO (max g m) := by
        unfold newV
        by_cases hlt : (lkO g).2.2.1 < (chO m).2.2.2
        · rw [if_pos hlt]
          have : g < m := hlt
          rw [show max g m = m by omega]; rfl
        · rw [if_neg hlt]
          have : ¬ g < m := hlt
          rw [show max g m = g by omega]; rfl
      rw [hv] at hp
      rcases hp with ⟨l1, v0, b', l2, e, h1, rfl, rfl⟩ | ⟨hn, _⟩
      · cases l1 with
        | nil =>
          simp only [List.nil_append, List.cons.injEq] at e
          obtain ⟨e1, rfl⟩ := e
          exact .inr ⟨by omega, b', rfl⟩
        | cons x l1 => simp at e
      · exact absurd rfl (hn (7, lkO g, b) (by simp))
theorem ONE.locks {g c : Int} {l : LE} (h : ONE g c l) (hg : g ≠ 0) : locksL l = [lkO g] := by
  rcases h with ⟨h, _⟩ | ⟨_, b, rfl⟩
  · exact absurd h hg
  · unfold locksL keysQ
    simp [lkV]
theorem maxN_app (l : List Int) (x : Int) : maxN (l ++ [x]) = max (maxN l) x := by simp [maxN, List.foldl_append]
theorem maxN_bd {l : List Int} (h : ∀ x ∈ l, 1 ≤ x ∧ x ≤ 65536) : 0 ≤ maxN l ∧ maxN l ≤ 65536 := by
  have key : ∀ (l : List Int) (a : Int), (∀ x ∈ l, 1 ≤ x ∧ x ≤ 65536) → 0 ≤ a → a ≤ 65536 → 0 ≤ l.foldl max a ∧ l.foldl max a ≤ 65536 := by
    intro l
    induction l with
    | nil => intro a _ h1 h2; exact ⟨h1, h2⟩
    | cons x l ih =>
      intro a h h1 h2
      have := h x (by simp)
      exact ih (max a x) (fun y hy => h y (by simp [hy])) (by omega) (by omega)
  exact key l 0 h (by omega) (by omega)
def seqO (nums : List Int) (back : Bool) : List Int := if back then nums.reverse else nums
structure AFT (nums : List Int) (L : List tChoice.den) : Prop where
  l : L.length = nums.length
  n : nums.length ≤ 12
  g : ∀ i : Int, 0 ≤ i → i < nums.length → gtR tChoice L i = chO (gtR tI nums i)
  b : ∀ x ∈ nums, 1 ≤ x ∧ x ≤ 65536
theorem gtR_rev {nums : List Int} {i : Int} (h0 : 0 ≤ i) (h1 : i < nums.length) : gtR tI nums (nums.length - 1 - i) = gtR tI nums.reverse i := by
  have hi : i.toNat < nums.length := by omega
  have hj : ((nums.length : Int) - 1 - i).toNat = nums.length - 1 - i.toNat := by omega
  simp only [gtR, List.getD, hj, List.getElem?_reverse hi]
theorem maxN_take {l : List Int} {i : Int} (h0 : 0 ≤ i) (h1 : i < l.length) : maxN (l.take (i + 1).toNat) = max (maxN (l.take i.toNat)) (gtR tI l i) := by
  have hlt : i.toNat < l.length := by omega
  rw [show (i + 1).toNat = i.toNat + 1 by omega, List.take_add_one, List.getElem?_eq_getElem hlt]
  simp only [Option.toList_some]
  rw [maxN_app]
  simp [gtR, hlt]
theorem cAftertrue (nl : Option Bool) (L : List tChoice.den) (nums : List Int) (g : Int) (hA : AFT nums L) (hg : g = maxN (seqO nums true)) (hne : g ≠ 0) : PurS Try.prog 38 [injT (.sl tChoice) (nl, L), .p (.v (.bool true))] (.tl none tLock [lkO g]) := by
  refine PurS.of (S := []) (T := [(12, _), (14, _), (18, _)]) (U := []) (tbl := []) (n := 44) hm32 cfg .nil (.cons tNew (.cons tSet (.cons tLocks .nil))) .nil .nil 0 Try.call38 Try.func38 (ac38_ok (some (0, 0))) (by rw [Try.ntmps38]; exact Nat.le_refl _) rfl ⟨_, rfl⟩ ?_
  intro cmp ar cv tn ic ai mx an ad ml sb mn ln em gt up ap sc vw cp rp p1 p2 s1 s2 X Y hX hY r0 r1 r2 r3 r4 r5 r6 r7 r8 r9 r10 r11 r12 r13 r14 r15 r16 r17 r18 r19 r20 r21 r22 r23 r24
  generalize hg0 : lkO = g0
  cbv
  refine NEWK.mk (fun _ => ?_) (fun h => absurd (by decide) h)
  obtain ⟨Q, hQ⟩ : ∃ Q, Q = seqO nums true := ⟨_, rfl⟩
  rw [← hQ] at hg
  obtain ⟨hL, hn12, hget, hbd⟩ := hA
  have hQl : Q.length = nums.length := by rw [hQ]; unfold seqO; simp
  have hQb : ∀ x ∈ Q, 1 ≤ x ∧ x ≤ 65536 := fun x hx => hbd x (by rw [hQ] at hx; unfold seqO at hx; simpa using hx)
  obtain ⟨N, hN⟩ : ∃ N : Int, N = Q.length := ⟨_, rfl⟩
  have hlL : ic (ln tChoice L) = N := by rw [r4, r12]; show ((L.length : Nat) : Int) = N; rw [hL, hN, hQl]
  have hN12 : N ≤ 12 := by omega
  cbv
  try simp only [nc_eq] at *
  refine BR.nn r0 ?_
  refine LOOP.ind (σ := Int × Int × Int × Nat × LE) (fun (i, w, c, n, l) => [(0, .tl nl tChoice L), (1, .p (.v (.bool true))), (5, .ptr 0 0), (7, .p (iv i))]) (fun (i, w, c, n, l) => tabS 4 w c n l) (fun (i, w, c, n, l) => (N - i).toNat)
    (fun (i, w, c, n, l) => (0 ≤ i ∧ i ≤ N) ∧ (0 ≤ w ∧ w ≤ 5) ∧ TAB c n l ∧ ONE (maxN (Q.take i.toNat)) c l) (0, 0, 0, 0, []) ⟨by omega, by omega, TAB.empty, .inl ⟨rfl, rfl⟩⟩ (.inl ⟨rfl, rfl⟩) ?_
  intro ⟨i, w, c, n, l⟩ hI X' hX
  dsimp only at hI
  obtain ⟨⟨hI1, hI2⟩, ⟨hw0, hw5⟩, hT, hO⟩ := hI
  obtain ⟨x, hx⟩ : ∃ x : Int, x = gtR tI Q i := ⟨_, rfl⟩
  have hxb : i < N → 1 ≤ x ∧ x ≤ 65536 := fun h => by rw [hx]; exact hQb _ (gtR_mem (t := tI) hI1 (by omega))
  have htk : i < N → maxN (Q.take (i + 1).toNat) = max (maxN (Q.take i.toNat)) x := fun h => by rw [hx]; exact maxN_take hI1 (by omega)
  have hmb := maxN_bd (l := Q.take i.toNat) fun y hy => hQb y (List.mem_of_mem_take hy)
  have hstep := fun (h : i < N) e w' c' l' hR => ONE.step (m := x) (e := e) (w' := w') (c' := c') (l' := l') hO hT hmb hw5 (hxb h) hR
  have hend : ¬ i < N → locksL l = [lkO g] := fun h => by
    have : Q.take i.toNat = Q := List.take_of_length_le (by omega)
    rw [this, ← hg] at hO
    exact hO.locks hne
  obtain ⟨j, hj⟩ : ∃ j : Int, j = N - 1 - i := ⟨_, rfl⟩
  have hjb : i < N → 0 ≤ j ∧ j < N := fun h => by omega
  have hch : i < N → gt tChoice L j = (7, (9, (x % 3, x))) := fun h => by
    have h1 := hjb h
    have e1 : gtR tI nums j = x := by rw [hx, hQ, hj]; show gtR tI nums (N - 1 - i) = gtR tI nums.reverse i; rw [hN, hQl]; exact gtR_rev hI1 (by omega)
    rw [r14, hget j h1.1 (by omega), e1]; rfl
  have hjv : i < N → ar .sub .i64 (ar .sub .i64 N 1) i = j := fun h => by rw [r1, hj]; simp only [arR]; rw [wrap64 (n := N - 1) (by omega) (by omega), wrap64 (n := N - 1 - i) (by omega) (by omega)]
  have hadd : i < N → ar .add .i64 i 1 = i + 1 := fun h => by rw [r1]; exact wrap64 (n := i + 1) (by omega) (by omega)
  rw [hg0] at hend
  clear hO hQ hx hj hget
  cbv
  try simp only [nc_eq] at *
  rw [hlL]
  obtain ⟨s, hs⟩ : ∃ s, s = x % 3 := ⟨_, rfl⟩
  rw [← hs] at hch
  have q1 : p1 tI (.pair tI (.pair tU tI)) (7, (9, (s, x))) = 7 := by rw [r21]
  have q2 : p1 tI (.pair tU tI) (p2 tI (.pair tI (.pair tU tI)) (7, (9, (s, x)))) = 9 := by rw [r21, r22]
  have q3 : p1 tU tI (p2 tI (.pair tU tI) (p2 tI (.pair tI (.pair tU tI)) (7, (9, (s, x))))) = s := by rw [r21, r22]
  have q4 : p2 tU tI (p2 tI (.pair tU tI) (p2 tI (.pair tI (.pair tU tI)) (7, (9, (s, x))))) = x := by rw [r22]
  refine BR.lss r0 (fun hc => ?_) (fun hc => ?_)
  · have hjb := hjb hc
    have hch := hch hc
    rw [hjv hc]
    rw [hch, q1, q2, q3, q4]
    refine ⟨⟨hI1, hc⟩, ⟨hI1, hc⟩, ⟨hjb.1, hjb.2⟩, ⟨hjb.1, hjb.2⟩, SETK.mk hT ⟨by decide, by decide⟩ hw0 fun e w' c' n' l' hR hn' => ?_⟩
    obtain ⟨he, hw', hO', hT'⟩ := hstep hc e w' c' l' (by rw [hs] at hR; exact hR)
    rw [← hn'] at hT'
    rw [← htk hc] at hO'
    subst he hw'
    cbv
    refine BR.nn r0 ?_
    rw [hadd hc]
    refine NEXT.mk (hX (i + 1, 5, c', n', l') _ _ ⟨⟨by show 0 ≤ i + 1; omega, by show i + 1 ≤ N; omega⟩, ⟨by show (0 : Int) ≤ 5; decide, by show (5 : Int) ≤ 5; decide⟩, hT', hO'⟩ (by show (N - (i + 1)).toNat < (N - i).toNat; omega) (.inr ⟨[some 0, some 3], [], ?_⟩))
    rw [SIM_iff]; cbv
    exact ⟨⟨nlLe_self.2 trivial, trivial⟩, trivial⟩
  · have hR0 := hend hc
    refine LOKK.mk hT fun R r hR hr => ?_
    rw [hR0] at hR
    subst hR
    cbv
    exact ⟨nlLe_none.2 trivial, trivial⟩
theorem cAfterfalse (nl : Option Bool) (L : List tChoice.den) (nums : List Int) (g : Int) (hA : AFT nums L) (hg : g = maxN (seqO nums false)) (hne : g ≠ 0) : PurS Try.prog 38 [injT (.sl tChoice) (nl, L), .p (.v (.bool false))] (.tl none tLock [lkO g]) := by
  refine PurS.of (S := []) (T := [(12, _), (14, _), (18, _)]) (U := []) (tbl := []) (n := 44) hm32 cfg .nil (.cons tNew (.cons tSet (.cons tLocks .nil))) .nil .nil 0 Try.call38 Try.func38 (ac38_ok (some (0, 0))) (by rw [Try.ntmps38]; exact Nat.le_refl _) rfl ⟨_, rfl⟩ ?_
  intro cmp ar cv tn ic ai mx an ad ml sb mn ln em gt up ap sc vw cp rp p1 p2 s1 s2 X Y hX hY r0 r1 r2 r3 r4 r5 r6 r7 r8 r9 r10 r11 r12 r13 r14 r15 r16 r17 r18 r19 r20 r21 r22 r23 r24
  generalize hg0 : lkO = g0
  cbv
  refine NEWK.mk (fun _ => ?_) (fun h => absurd (by decide) h)
  obtain ⟨Q, hQ⟩ : ∃ Q, Q = seqO nums false := ⟨_, rfl⟩
  rw [← hQ] at hg
  obtain ⟨hL, hn12, hget, hbd⟩ := hA
  have hQl : Q.length = nums.length := by rw [hQ]; unfold seqO; simp
  have hQb : ∀ x ∈ Q, 1 ≤ x ∧ x ≤ 65536 := fun x hx => hbd x (by rw [hQ] at hx; unfold seqO at hx; simpa using hx)
  obtain ⟨N, hN⟩ : ∃ N : Int, N = Q.length := ⟨_, rfl⟩
  have hlL : ic (ln tChoice L) = N := by rw [r4, r12]; show ((L.length : Nat) : Int) = N; rw [hL, hN, hQl]
  have hN12 : N ≤ 12 := by omega
  cbv
  try simp only [nc_eq] at *
  refine BR.nn r0 ?_
  refine LOOP.ind (σ := Int × Int × Int × Nat × LE) (fun (i, w, c, n, l) => [(0, .tl nl tChoice L), (1, .p (.v (.bool false))), (5, .ptr 0 0), (7, .p (iv i))]) (fun (i, w, c, n, l) => tabS 4 w c n l) (fun (i, w, c, n, l) => (N - i).toNat)
    (fun (i, w, c, n, l) => (0 ≤ i ∧ i ≤ N) ∧ (0 ≤ w ∧ w ≤ 5) ∧ TAB c n l ∧ ONE (maxN (Q.take i.toNat)) c l) (0, 0, 0, 0, []) ⟨by omega, by omega, TAB.empty, .inl ⟨rfl, rfl⟩⟩ (.inl ⟨rfl, rfl⟩) ?_
  intro ⟨i, w, c, n, l⟩ hI X' hX
  dsimp only at hI
  obtain ⟨⟨hI1, hI2⟩, ⟨hw0, hw5⟩, hT, hO⟩ := hI
  obtain ⟨x, hx⟩ : ∃ x : Int, x = gtR tI Q i := ⟨_, rfl⟩
  have hxb : i < N → 1 ≤ x ∧ x ≤ 65536 := fun h => by rw [hx]; exact hQb _ (gtR_mem (t := tI) hI1 (by omega))
  have htk : i < N → maxN (Q.take (i + 1).toNat) = max (maxN (Q.take i.toNat)) x := fun h => by rw [hx]; exact maxN_take hI1 (by omega)
  have hmb := maxN_bd (l := Q.take i.toNat) fun y hy => hQb y (List.mem_of_mem_take hy)
  have hstep := fun (h : i < N) e w' c' l' hR => ONE.step (m := x) (e := e) (w' := w') (c' := c') (l' := l') hO hT hmb hw5 (hxb h) hR
  have hend : ¬ i < N → locksL l = [lkO g] := fun h => by
    have : Q.take i.toNat = Q := List.take_of_length_le (by omega)
    rw [this, ← hg] at hO
    exact hO.locks hne
  obtain ⟨j, hj⟩ : ∃ j : Int, j = i := ⟨_, rfl⟩
  have hjb : i < N → 0 ≤ j ∧ j < N := fun h => by omega
  have hch : i < N → gt tChoice L j = (7, (9, (x % 3, x))) := fun h => by
    have h1 := hjb h
    have e1 : gtR tI nums j = x := by rw [hx, hQ, hj]; rfl
    rw [r14, hget j h1.1 (by omega), e1]; rfl
  have hjv : i < N → j = i := fun h => by exact hj
  have hadd : i < N → ar .add .i64 i 1 = i + 1 := fun h => by rw [r1]; exact wrap64 (n := i + 1) (by omega) (by omega)
  rw [hg0] at hend
  clear hO hQ hx hj hget
  cbv
  try simp only [nc_eq] at *
  rw [hlL]
  obtain ⟨s, hs⟩ : ∃ s, s = x % 3 := ⟨_, rfl⟩
  rw [← hs] at hch
  have q1 : p1 tI (.pair tI (.pair tU tI)) (7, (9, (s, x))) = 7 := by rw [r21]
  have q2 : p1 tI (.pair tU tI) (p2 tI (.pair tI (.pair tU tI)) (7, (9, (s, x)))) = 9 := by rw [r21, r22]
  have q3 : p1 tU tI (p2 tI (.pair tU tI) (p2 tI (.pair tI (.pair tU tI)) (7, (9, (s, x))))) = s := by rw [r21, r22]
  have q4 : p2 tU tI (p2 tI (.pair tU tI) (p2 tI (.pair tI (.pair tU tI)) (7, (9, (s, x))))) = x := by rw [r22]
  refine BR.lss r0 (fun hc => ?_) (fun hc => ?_)
  · have hjb := hjb hc
    have hch := hch hc
    rw [hjv hc] at hch
    rw [hch, q1, q2, q3, q4]
    refine ⟨⟨hI1, hc⟩, ⟨hI1, hc⟩, SETK.mk hT ⟨by decide, by decide⟩ hw0 fun e w' c' n' l' hR hn' => ?_⟩
    obtain ⟨he, hw', hO', hT'⟩ := hstep hc e w' c' l' (by rw [hs] at hR; exact hR)
    rw [← hn'] at hT'
    rw [← htk hc] at hO'
    subst he hw'
    cbv
    refine BR.nn r0 ?_
    rw [hadd hc]
    refine NEXT.mk (hX (i + 1, 5, c', n', l') _ _ ⟨⟨by show 0 ≤ i + 1; omega, by show i + 1 ≤ N; omega⟩, ⟨by show (0 : Int) ≤ 5; decide, by show (5 : Int) ≤ 5; decide⟩, hT', hO'⟩ (by show (N - (i + 1)).toNat < (N - i).toNat; omega) (.inr ⟨[some 0, some 3], [], ?_⟩))
    rw [SIM_iff]; cbv
    exact ⟨⟨nlLe_self.2 trivial, trivial⟩, trivial⟩
  · have hR0 := hend hc
    refine LOKK.mk hT fun R r hR hr => ?_
    rw [hR0] at hR
    subst hR
    cbv
    exact ⟨nlLe_none.2 trivial, trivial⟩
end Go.Ab
