/- LinkExamples: the law. -/
import Derived.Test.YtchmkekndbfflaaLz
set_option linter.unusedSimpArgs false
set_option linter.unusedVariables false
set_option maxRecDepth 20000
set_option maxHeartbeats 8000000
namespace Go.Ab
open Go.Proofs
theorem lawEx  : PurS Try.prog 5 [] (.sb true) := by
  refine PurS.of (S := [(10, _), (24, _), (22, _)]) (T := [(11, _), (13, _), (15, _), (18, _)]) (tbl := [(21, ac21 none, [.tmp 2], 9)]) (n := 230) hm33 cfg (.cons (spT0.ok caw33b) (.cons (spT0.ok cnothing) (.cons (spT1.ok (a := (.sl (.int .i64))) fun x0 h => c22 x0.1 x0.2 h) .nil))) (.cons cNewX (.cons cSendR (.cons cHear2 (.cons cPendR .nil)))) (.cons Try.call21 Try.func21 (ac21_ok none) (by rw [Try.ntmps21]; exact Nat.le_refl _) .nil) 6 Try.call5 Try.func5 (ac5_ok (some (0, 0))) (by rw [Try.ntmps5]; exact Nat.le_refl _) rfl ⟨_, rfl⟩ ?_
  intro cmp ar cv tn ic ai mx an ad ml sb mn ln em gt up ap sc vw cp rp p1 p2 s1 s2 X Y hX hY r0 r1 r2 r3 r4 r5 r6 r7 r8 r9 r10 r11 r12 r13 r14 r15 r16 r17 r18 r19 r20 r21 r22 r23 r24
  generalize hg0 : fatesM = g0
  generalize hg1 : wrongM = g1
  generalize hg2 : lostR = g2
  cbv
  have hA : ∀ n : Nat, tn (n : Int) = n := fun n => by rw [r3]; rfl
  have hB : ∀ n : Nat, rp tI n 0 = List.replicate n (0 : Int) := fun n => by rw [r20]
  have hA7 : tn 257 = 257 := hA 257
  have hA6 : tn 256 = 256 := hA 256
  have hmk : ∀ n : Int, 0 ≤ n ∧ n ≤ 300 → MK n n 8 := fun n h => by rw [MK_iff]; omega
  have w7 : 4 = wrongM (List.replicate 257 0) := by decide +kernel
  have w6 : wrongM (List.replicate 256 0) = 0 := by decide +kernel
  have w9 : 1 = wrongM [0, 9] := by decide +kernel
  have w2 : 1 = wrongM [-2] := by decide +kernel
  have w99 : wrongM (List.replicate 256 0 ++ [99]) = 4 := by decide +kernel
  have w19 : wrongM [9] = 1 := by decide +kernel
  have had : ∀ x y, ad x y = x + y := fun x y => by rw [r8]
  have hl1 : ∀ x : Int, ln tI [x] = 1 := fun x => by rw [r12]; rfl
  have hv6 : vw tI 256 (List.replicate 256 0) 0 256 = List.replicate 256 (0 : Int) := by rw [r18]; exact vw_allT (t := tI) (by simp)
  have hap6 : ap tI (List.replicate 256 0) [99] = List.replicate 256 (0 : Int) ++ [99] := by rw [r16]
  have hv7 : vw tI 257 (List.replicate 256 0 ++ [99]) 0 257 = List.replicate 256 (0 : Int) ++ [99] := by rw [r18]; exact vw_allT (t := tI) (by simp)
  rw [hA7, hA6, hB 257, hB 256]
  refine ⟨hmk _ (by decide), ⟨rfl, by simp⟩, NB.err 4 w7 (by decide) (by simp) ?_⟩
  cbv
  refine NB.err 1 w9 (by decide) (by decide) ?_
  cbv
  refine ⟨⟨⟨nlLe_none.2 trivial, trivial⟩, trivial⟩, NB.err 1 w2 (by decide) (by decide) ?_⟩
  cbv
  rw [hA6, hB 256]
  refine ⟨⟨⟨nlLe_none.2 trivial, trivial⟩, trivial⟩, hmk _ (by decide), ⟨rfl, by simp⟩, NB.ok w6 ?_⟩
  cbv
  have h66 : tn 66 = 66 := hA 66
  rw [hv6, hl1, had 256 1, hap6, hv7, had, h66, hB 66]
  have e99 : g1 (List.replicate 256 0 ++ [99]) = 4 := by rw [← hg1]; exact w99
  have e9 : g1 [9] = 1 := by rw [← hg1]; exact w19
  refine ⟨hmk _ (by decide), ⟨Nat.le_refl _⟩, ⟨by decide, by decide⟩, ⟨⟨by omega⟩, trivial⟩, Short_iff.2 (by simp), Short_iff.2 (by decide), ?_⟩
  refine BR.nn r0 (BR.nn r0 (BR.nn r0 (BR.nn r0 ?_)))
  refine BR.neq r0 (fun h => absurd e99 h) fun _ => BR.neq r0 (fun h => absurd e9 h) fun _ => ?_
  refine ⟨hmk _ (by decide), ?_⟩
  clear w6 w7 w9 w2 w99 w19 hv6 hap6 hv7 e99 e9 hA7 hA6 hmk had hl1 hA hB
  refine LOOP.ind (σ := List Int × Int) (fun (_, i) => [(13, .ptr 0 0), (14, .ms 1 0 1 none 66), (15, .p (iv i))]) (fun (l, _) => ⟨[{ cells := [.p (iv 1), .p (iv 2), .p (.v (.int .u8 0)), .p (iv 1)], e := 33, fz := false }, { cells := [.arr 66 tI l], e := 3, fz := false, ap := true }], []⟩) (fun (_, i) => (64 - i).toNat)
    (fun (l, i) => 0 ≤ i ∧ i ≤ 64 ∧ l = ftE i.toNat) (ftE 0, 0) ⟨by omega, by omega, rfl⟩ (.inr ⟨[some 7, some 8], [], ?_⟩) ?_
  · rw [SIM_iff]; cbv
  intro ⟨l, i⟩ hI X1 hX
  dsimp only at hI
  obtain ⟨hI1, hI2, hI3⟩ := hI
  have hll : l.length = 66 := by rw [hI3]; exact ftE_len (by omega)
  have ha1 : ar .add .i64 i 1 = i + 1 := by rw [r1]; exact wrap64 (n := i + 1) (by omega) (by omega)
  have hval : ar .add .i64 1 (ar .rem .i64 i 8) = 1 + i % 8 := by
    have : ar .rem .i64 i 8 = i % 8 := by rw [r1]; exact tmod_nn hI1
    rw [this, r1]; exact wrap64 (n := 1 + i % 8) (by omega) (by omega)
  have hup : ∀ (k v : Int), up tI 66 l k v = l.set k.toNat v := fun k v => by rw [r15]; exact upR_len (t := tI) hll k v
  have hic : ic 66 = 66 := by rw [r4]; rfl
  have hi8 : i < 64 → l.set i.toNat (1 + i % 8) = ftE (i + 1).toNat := fun h => by
    obtain ⟨k, rfl⟩ : ∃ k : Nat, (k : Int) = i := ⟨i.toNat, by omega⟩
    rw [hI3, Int.toNat_natCast, show ((k : Int) + 1).toNat = k + 1 by omega]; exact ftE_step (by omega)
  have hmu : (64 - (i + 1) : Int).toNat < (64 - i : Int).toNat ∨ ¬ i < 64 := by omega
  have hFT : ¬ i < 64 → l.set 64 (-1) = FT := fun h => by rw [hI3, show i.toNat = 64 by omega]; rfl
  cbv
  refine BR.lss r0 (fun hi => ?_) fun hi => ?_
  · rw [ha1, hval, hup, hi8 hi, hic]
    refine ⟨⟨by decide⟩, ⟨hI1, by omega⟩, ⟨hI1, by omega⟩, NEXT.mk (hX (_, i + 1) _ _ ⟨by omega, by omega, rfl⟩ (by show (64 - (i + 1) : Int).toNat < (64 - i : Int).toNat; omega) (.inl ⟨rfl, rfl⟩))⟩
  · rw [hup, show ((64 : Int)).toNat = 64 from rfl, hFT hi, hic]
    clear hX hmu hi8 hval ha1 hFT hup hll hI3
    have hF0 : g0 FT = F64 := by rw [← hg0]; rfl
    have hFb : ∀ i, -1 ≤ gtR tI F64 i ∧ gtR tI F64 i ≤ 8 := fates_bb FT_wrong
    refine ⟨⟨by decide, by decide⟩, ⟨by decide, by decide⟩, ⟨rfl, by simp [FT, ftE]⟩, NB.ok FT_wrong ?_⟩
    rw [hF0]
    obtain ⟨F, hF⟩ : ∃ F, F = F64 := ⟨_, rfl⟩
    rw [← hF] at hFb ⊢
    cbv
    refine BR.nn r0 ?_
    refine SENT.mk ⟨rfl, by decide, by decide, by decide, by decide, hFb⟩ ?_
    intro e1 now1 s1 N1 n1 q1 h1
    obtain ⟨rfl, rfl, rfl, rfl, rfl, rfl⟩ := h1.bad 1 (by rfl) (by decide)
    clear h1
    cbv
    refine BR.nn r0 ?_
    refine SENT.mk ⟨rfl, by decide, by decide, by decide, by decide, hFb⟩ ?_
    intro e1 now1 s1 N1 n1 q1 h1
    obtain ⟨rfl, rfl, rfl, rfl, rfl, rfl⟩ := h1.bad 1 (by rfl) (by decide)
    clear h1
    cbv
    refine BR.nn r0 ?_
    refine SENT.mk ⟨rfl, by decide, by decide, by decide, by decide, hFb⟩ ?_
    intro e1 now1 s1 N1 n1 q1 h1
    obtain ⟨rfl, rfl, rfl, rfl, rfl, rfl⟩ := h1.bad 1 (by rfl) (by decide)
    clear h1
    cbv
    refine BR.nn r0 ?_
    refine SENT.mk ⟨rfl, by decide, by decide, by decide, by decide, hFb⟩ ?_
    intro e1 now1 s1 N1 n1 q1 h1
    obtain ⟨rfl, rfl, rfl, rfl, rfl, rfl⟩ := h1.bad 6 (by rfl) (by decide)
    clear h1
    cbv
    refine BR.nn r0 ?_
    refine BR.nn r0 ?_
    refine LOOP.ind (σ := (Int × Int) × (Nat × Nat × List tPar.den)) (fun ((i, _), _) => [(13, .ptr 0 0), (16, .ptr 1 0), (18, .p (iv i))])
      (fun ((i, now), (N, n, q)) => ⟨[{ cells := [.p (iv 1), .p (iv 2), .p (.v (.int .u8 0)), .p (iv 1)], e := 33, fz := false }, { cells := [.arr 256 tI F, .p (iv now), .p (iv i), .ptr 2 0], e := 73, fz := false }, { cells := [.ms 3 0 6 none n], e := 70, fz := false }, { cells := [.arr N tPar q], e := 49, fz := false, ap := true }], []⟩)
      (fun ((i, _), _) => (64 - i).toNat) (fun ((i, now), (N, n, q)) => (0 ≤ i ∧ i ≤ 64) ∧ (0 ≤ now ∧ now ≤ 3) ∧ q.length = N ∧ n ≤ i.toNat ∧ SQ q n (sEx F i.toNat)) ((0, 0), (0, 0, [])) ⟨by omega, by omega, rfl, by omega, .zero _⟩ (.inr ⟨[some 0, some 2, some 3, some 8], [], ?_⟩) ?_
    · rw [SIM_iff]; cbv; try simp [lstEq]
    intro ⟨⟨j, now⟩, ⟨N, n, q⟩⟩ hJ X2 hY
    dsimp only at hJ
    obtain ⟨hJ1, hJ2, hJ3, hJ4, hJ5⟩ := hJ
    have ha1 : ar .add .i64 j 1 = j + 1 := by rw [r1]; exact wrap64 (n := j + 1) (by omega) (by omega)
    have hn64 : n ≤ 64 := by omega
    have hlq : lcheckM (1, 2, 0, 1) = 0 := by rfl
    have hat := at_ok (now := now) (t := 3) (by omega) (by omega) (by omega)
    have hjk : ((j.toNat : Nat) : Int) = j := by omega
    have hsn : ∀ y ∈ sEx F j.toNat, y.2.1 < j := fun y hy => by have := sEx_n F _ y hy; omega
    have hstep : sIns F j 3 (1, 2, 0, 1) (sEx F j.toNat) = sEx F (j + 1).toNat := by
      rw [show (j + 1).toNat = j.toNat + 1 by omega, sEx, hjk]
    cbv
    refine BR.lss r0 (fun hi => ?_) fun hi => ?_
    · refine SENT.mk ⟨hJ3, hJ3 ▸ hJ5.le, hn64, by omega, by omega, hFb⟩ ?_
      intro e1 now1 s1 N1 n1 q1 h1
      obtain ⟨rfl, hnow1, hs1, k4, k5, k6⟩ := h1.good hJ5 hJ3 hsn hat hlq (by omega)
      clear h1
      rw [hstep] at k4
      replace hs1 := hs1
      subst hs1
      subst hnow1
      cbv
      refine BR.nn r0 ?_
      rw [ha1]
      have hnI : (0 ≤ j + 1 ∧ j + 1 ≤ 64) ∧ (0 ≤ (3 : Int) ∧ (3 : Int) ≤ 3) ∧ q1.length = N1 ∧ n1 ≤ (j + 1).toNat ∧ SQ q1 n1 (sEx F (j + 1).toNat) := ⟨by omega, by omega, k5, by omega, k4⟩
      refine NEXT.mk (hY ((j + 1, 3), (N1, n1, q1)) _ _ hnI (by show (64 - (j + 1) : Int).toNat < (64 - j : Int).toNat; omega) (.inr ⟨[some 0, some 1, some 2, some 4], [], ?_⟩))
      rw [SIM_iff]; cbv; try simp [lstEq]
    · have hj : j = 64 := by omega
      subst hj
      have hs0 : sEx F (64 : Int).toNat = s64 := by rw [hF]; rfl
      rw [hs0] at hJ5 hsn
      clear hY hstep ha1
      have hn : n = 64 := by rw [← hJ5.len]; exact s64_len
      subst hn
      obtain ⟨S, hS⟩ : ∃ S, S = s64 := ⟨_, rfl⟩
      have hSd : (S.takeWhile (dueT 4)).length = 8 := by rw [hS]; exact s64_due
      rw [← hS] at hJ5 hsn
      have hfull : sendE F 3 65 64 3 (1, 2, 0, 1) = 17 := by rw [hF]; decide +kernel
      refine SENT.mk ⟨hJ3, hJ3 ▸ hJ5.le, hn64, by decide, by decide, hFb⟩ ?_
      intro e1 now1 s1 N1 n1 q1 h1
      obtain ⟨rfl, rfl, rfl, rfl, rfl, rfl⟩ := h1.gone (by rw [hF]; exact F64_64) hat hlq
      clear h1
      cbv
      refine BR.nn r0 ?_
      refine SENT.mk ⟨hJ3, hJ3 ▸ hJ5.le, hn64, by decide, by decide, hFb⟩ ?_
      intro e1 now1 s1 N1 n1 q1 h1
      obtain ⟨rfl, rfl, rfl, rfl, rfl, rfl⟩ := h1.bad 17 hfull (by decide)
      clear h1
      cbv
      refine BR.nn r0 (BR.nn r0 ?_)
      refine PND.mk ⟨⟨_, hJ5⟩, hJ3, by decide⟩ ?_
      intro sP hsP
      cbv
      have hi64 : ic 64 = 64 := by rw [r4]; rfl
      have hi8 : ic 8 = 8 := by rw [r4]; rfl
      have hi57 : ic 57 = 57 := by rw [r4]; rfl
      have hi0 : ic 0 = 0 := by rw [r4]; rfl
      rw [hi64]
      refine BR.nn r0 ?_
      refine SENT.mk ⟨hJ3, hJ3 ▸ hJ5.le, hn64, by decide, by decide, hFb⟩ ?_
      intro e1 now1 s1 N1 n1 q1 h1
      obtain ⟨rfl, rfl, rfl, rfl, rfl, rfl⟩ := h1.bad 12 (by rfl) (by decide)
      clear h1
      cbv
      refine BR.nn r0 ?_
      refine HE2.ok (HEAR.mk ⟨by rfl, hJ3, hJ3 ▸ hJ5.le, by decide⟩ ?_)
      intro n2 q2 o2 hn2 hq2 ho2
      obtain ⟨x1, x2, x3, x4⟩ := hJ5.hears (t := 4)
      rw [← ho2] at x1
      rw [← hn2] at x2 x3
      rw [← hq2] at x3 x4
      clear hn2 hq2 ho2
      have hlo : ln tChoice o2 = 8 := by rw [r12]; show o2.length = 8; rw [x1, List.length_map]; exact hSd
      have hN2 : q2.length = N1 := by rw [x4, hJ3]
      have hn2l : n2 ≤ 60 := by
        have e := List.takeWhile_append_dropWhile (p := dueT 4) (l := S)
        have e2 := congrArg List.length e
        rw [List.length_append, hSd, ← x2, hJ5.len] at e2; omega
      obtain ⟨R, hR⟩ : ∃ R, R = S.dropWhile (dueT 4) := ⟨_, rfl⟩
      rw [← hR] at x3
      have hsn2 : ∀ y ∈ R, y.2.1 < 65 := fun y hy => by
        have := hsn y ((List.dropWhile_sublist (dueT 4)).subset (hR ▸ hy)); omega
      cbv
      rw [hlo, hi8]
      refine BR.nn r0 (BR.nn r0 ?_)
      refine SENT.mk ⟨hN2, hN2 ▸ x3.le, by omega, by decide, by decide, hFb⟩ ?_
      intro e1 now1 s1 N2 n3 q3 h1
      obtain ⟨rfl, rfl, rfl, k4, k5, k6⟩ := h1.good (s := R) x3 hN2 hsn2 (by rfl) hlq (by omega)
      clear h1
      obtain ⟨V, hV⟩ : ∃ V, V = sIns F 65 4 (1, 2, 0, 1) R := ⟨_, rfl⟩
      rw [← hV] at k4
      have hV2 : V = s65 := by rw [hV, hR, hS, hF]; rfl
      have hVd : (V.takeWhile (dueT 1099511627776)).length = 57 := by rw [hV2]; exact s65_due
      have hVr : V.dropWhile (dueT 1099511627776) = [] := by rw [hV2]; exact s65_rest
      cbv
      refine BR.nn r0 (BR.nn r0 ?_)
      refine HE2.ok (HEAR.mk ⟨by rfl, k5, k5 ▸ k4.le, by omega⟩ ?_)
      intro n4 q4 o4 hn4 hq4 ho4
      obtain ⟨y1, y2, y3, y4⟩ := k4.hears (t := 1099511627776)
      rw [← ho4] at y1
      rw [← hn4] at y2 y3
      rw [← hq4] at y3 y4
      clear hn4 hq4 ho4
      rw [hVr] at y2 y3
      have hn40 : n4 = 0 := y2
      subst hn40
      have hlo4 : ln tChoice o4 = 57 := by rw [r12]; show o4.length = 57; rw [y1, List.length_map]; exact hVd
      have hN4 : q4.length = N2 := by rw [y4, k5]
      cbv
      refine HE2.err 12 (by rfl) (by decide) ?_
      cbv
      rw [hlo4, hi57]
      refine BR.eql r0 (fun _ => ?_) (fun h => absurd rfl h)
      refine BR.eql r0 (fun _ => ?_) (fun h => absurd rfl h)
      refine BR.eql r0 (fun _ => ?_) (fun h => absurd rfl h)
      refine PND.mk ⟨⟨_, y3⟩, hN4, by decide⟩ ?_
      intro sZ hsZ
      cbv
      rw [hi0]
      exact BR.eql r0 (fun _ => trivial) fun h => absurd rfl h
theorem ex_typed : ∀ xs, TyVs Try.prog [] xs → PurFn Try.prog 5 (xs.map .p) (.v (.bool true)) := fun xs hx => by
  match xs, hx with
  | [], _ =>
    obtain ⟨x, hx, h⟩ := lawEx
    cases hx
    exact h
end Go.Ab

