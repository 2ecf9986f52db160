/- LinkMatches. -/
import Derived.Test.YtchmkekndbfflaaLC
import Derived.Test.YtchmkekndbfflaaAw
set_option linter.unusedSimpArgs false
set_option linter.unusedVariables false
set_option maxRecDepth 20000
set_option maxHeartbeats 8000000
namespace Go.Ab
open Go.Proofs
theorem MI.rr {l : List Int} {sent : Int} {N n : Nat} {q : List PT} {m : Nat} {A : List PT} {W : List Bool} (h : MI l sent N n q m A W) {s : List PT} (hs : SQ q n s) : RR s A W := by
  obtain ⟨⟨s', hs', hr⟩, _⟩ := h
  obtain rfl : s = s' := (sortQ_eq hs).symm.trans (sortQ_eq hs')
  exact hr
abbrev tStep : Ty := .pair (.int .u8) (.pair tI tChoice)
theorem lawMatches (nf : Option Bool) (f : List Int) (ns : Option Bool) (l : List tStep.den) (hf : f.length ≤ maxLen) (hl : l.length ≤ maxLen) : PurS Try.prog 3 [injT (.sl tI) (nf, f), injT (.sl tStep) (ns, l)] (.sb true) := by
  refine PurS.of (S := [(10, _), (17, _), (19, _)]) (T := [(11, _), (12, _), (15, _), (16, _), (14, _), (18, _), (20, _)]) (U := [(13, _), (20, _), (21, _)]) (tbl := []) (n := 166) hm33 cfg (.cons (spT0.ok caw33b) (.cons (spT2.ok (a := (.sl (.pair (.int .i64) (.pair (.int .i64) (.pair (.int .u8) (.int .i64)))))) (b := (.sl (.pair (.int .i64) (.pair (.int .i64) (.pair (.int .u8) (.int .i64)))))) fun x0 x1 h => cChoices' x0.1 x0.2 x1.1 x1.2 h) (.cons (spT2.ok (a := (.sl (.pair (.int .i64) (.pair (.int .i64) (.pair (.int .i64) (.pair (.int .i64) (.pair (.int .u8) (.int .i64)))))))) (b := (.sl (.pair (.int .i64) (.pair (.int .i64) (.pair (.int .i64) (.pair (.int .i64) (.pair (.int .u8) (.int .i64)))))))) fun x0 x1 h => cParcels' x0.1 x0.2 x1.1 x1.2 h) .nil))) (.cons cNewX (.cons rNewT (.cons cHearBT (.cons rHearT (.cons rSendT (.cons cPendR (.cons rPendT .nil))))))) (.cons cSendU (.cons rPendU (.cons cSentU .nil))) .nil 0 Try.call3 Try.func3 (ac3_ok (some (0, 0))) (by rw [Try.ntmps3]; exact Nat.le_refl _) rfl ⟨_, rfl⟩ ?_
  intro cmp ar cv tn ic ai mx an ad ml sb mn ln em gt up ap sc vw cp rp p1 p2 s1 s2 X Y hX hY r0 r1 r2 r3 r4 r5 r6 r7 r8 r9 r10 r11 r12 r13 r14 r15 r16 r17 r18 r19 r20 r21 r22 r23 r24
  generalize hg0 : fatesM = g0
  generalize hg1 : eqCh = g1
  generalize hg2 : eqPa = g2
  cbv
  have hlf : ic (ln tI f) = f.length := by rw [r4, r12]
  have hlf2 : ln tI f = f.length := by rw [r12]
  have hap0 : ap tI [] f = f := by rw [r16]; rfl
  have hvw0 : vw tI 0 [] 0 0 = [] := by rw [r18]; simp [vwR]
  obtain ⟨L, hL⟩ : ∃ L : Nat, L = f.length := ⟨_, rfl⟩
  have had : ad 0 (ln tI f) = L := by rw [r8, hlf2, hL]; exact Nat.zero_add _
  refine BR.gtr r0 (fun _ => trivial) fun h300 => ?_
  have h300 : L ≤ 300 := by rw [hlf, ← hL] at h300; omega
  rw [hvw0, hap0, had]
  refine ⟨⟨Nat.le_refl _⟩, ⟨by omega, by simp only [maxLen]; omega⟩, ⟨rfl, hL.symm⟩, ?_⟩
  by_cases hw : ¬ wrongM f = 0
  · obtain ⟨r, hr⟩ : ∃ r, r = wrongM f := ⟨_, rfl⟩
    rw [← hr] at hw
    refine NB.err r hr hw (by omega) ?_
    cbv
    refine ⟨.inr ⟨r, hr, hw, ?_⟩⟩
    cbv
    exact ⟨⟨⟨nlLe_none.2 trivial, trivial⟩, trivial⟩, BR.nn r0 trivial⟩
  · have hw := Classical.not_not.1 hw
    refine NB.ok hw ⟨.inl ⟨hw, fun k hk => ?_⟩⟩
    obtain rfl : L = k := hL.trans hk
    cbv
    refine ⟨⟨⟨nlLe_none.2 trivial, trivial⟩, trivial⟩, BR.nn r0 ?_⟩
    have hFF : ∀ i, -1 ≤ gtR tI (fatesM f) i ∧ gtR tI (fatesM f) i ≤ 8 := fates_bb hw
    obtain ⟨FM, hFM⟩ : ∃ FM, FM = g0 f := ⟨_, rfl⟩
    have hFM2 : FM = fatesM f := by rw [hFM, hg0]
    rw [← hFM]
    rw [← hFM2] at hFF
    refine LOOP.ind (σ := Int × List Int) (fun (i, _) => [(0, .tl nf tI f), (1, .tl ns tStep l), (5, .ms 1 0 1 none L), (6, .ptr 2 0), (8, .ptr 5 0), (10, .p (iv i))])
      (fun (_, l') => ⟨[{ cells := [], e := 3, fz := true, ap := true }, { cells := [.arr L tI l'], e := 3, fz := false, ap := true },
        { cells := [.arr 256 tI FM, .p (iv 0), .p (iv 0), .ptr 3 0], e := 73, fz := false }, { cells := [.ms 4 0 6 none 0], e := 70, fz := false }, { cells := [.arr 0 tPar []], e := 49, fz := false, ap := true },
        { cells := [.ms 6 0 1 none L, .p (iv 0), .tl (some true) tPar [], .tl (some true) tB []], e := 47, fz := false }, { cells := [.arr L tI f], e := 3, fz := false, ap := true }], []⟩) (fun (i, _) => (L - i).toNat)
      (fun (i, l') => 0 ≤ i ∧ i ≤ L ∧ l'.length = L ∧ ∀ j : Nat, i ≤ j → l'.getD j 0 = f.getD j 0) (0, f) ⟨by omega, by show (0 : Int) ≤ _; omega, hk, fun _ _ => rfl⟩ (.inl ⟨rfl, rfl⟩) ?_
    intro ⟨i, l'⟩ hI X1 hX
    dsimp only at hI
    obtain ⟨hI1, hI2, hI3, hI4⟩ := hI
    have hLi : ic L = L := by rw [r4]
    have hLf : ic (ln tI f) = L := by rw [hlf, hk]
    have hia : i < L → ar .add .i64 i 1 = i + 1 := fun h => by rw [r1]; exact wrap64 (n := i + 1) (by omega) (by omega)
    have hgt : gt tI l' i = gt tI f i := by rw [r14]; exact hI4 i.toNat (by omega)
    have hup : up tI L l' i (-1) = l'.set i.toNat (-1) := by rw [r15]; exact upR_len (t := tI) hI3 i (-1)
    cbv
    try simp only [nc_eq] at *
    rw [hLi, hLf, hgt, hup]
    refine BR.lss r0 (fun hi => ?_) fun hi => ?_
    · try simp only [nc_eq] at hi
      have hinb : INB i (L : Int) := ⟨hI1, hi⟩
      have hnI : 0 ≤ i + 1 ∧ i + 1 ≤ (L : Int) ∧ (l'.set i.toNat (-1)).length = L ∧ ∀ j : Nat, i + 1 ≤ j → (l'.set i.toNat (-1)).getD j 0 = f.getD j 0 := ⟨by omega, by omega, by rw [List.length_set]; exact hI3, fun j hj => by
        rw [← hI4 j (by omega)]
        simp only [List.getD_eq_getElem?_getD, List.getElem?_set]
        rw [if_neg (by omega)]⟩
      have hmu : (L - (i + 1) : Int).toNat < (L - i : Int).toNat := by omega
      rw [hia hi]
      exact ⟨hinb, hinb, hinb, hinb, BR.nn r0 ⟨hinb, hinb, NEXT.mk (hX (i + 1, l'.set i.toNat (-1)) _ _ hnI hmu (.inl ⟨rfl, rfl⟩))⟩⟩
    · clear hX hup hgt hia hI1 hI2 hI3 hI4 hi
      refine LOOP.ind (σ := Int × (Int × Int × Nat × Nat × List tPar.den) × Option (Nat × List tPar.den × List Bool)) (fun (i, _, _) => [(1, .tl ns tStep l), (6, .ptr 0 0), (8, .ptr 3 0), (11, .p (iv i))])
        (fun (_, (now, sent, N, n, q), x) => match x with
          | none => ⟨(linkS FM now sent N n q).box ++ [{ cells := [.ms 4 0 1 none L, .p (iv now), .tl (some true) tPar [], .tl (some true) tB []], e := 47, fz := false }, { cells := [.arr L tI f], e := 3, fz := false, ap := true }], []⟩
          | some (m, A, W) => ⟨(linkS FM now sent N n q).box ++ [{ cells := [.ms 4 0 1 none L, .p (iv now), .ms 5 0 6 none m, .ms 6 0 1 none m], e := 47, fz := false }, { cells := [.arr L tI f], e := 3, fz := false, ap := true },
              { cells := [.arr m tPar A], e := 49, fz := false, ap := true }, { cells := [.arr m tB W], e := 4, fz := false, ap := true }], []⟩) (fun (i, _, _) => (l.length - i).toNat)
        (fun (i, (now, sent, N, n, q), x) => 0 ≤ i ∧ i ≤ l.length ∧ i ≤ 90 ∧ sent ≤ i ∧ (match x with
          | none => MI f sent N n q 0 [] []
          | some (m, A, W) => MI f sent N n q m A W)) (0, (0, 0, 0, 0, []), none) ⟨by omega, by show (0 : Int) ≤ _; omega, by omega, by show (0 : Int) ≤ 0; omega, MI.start f⟩ (.inr ⟨[some 2, some 3, some 4, some 5, some 6], [], ?_⟩) ?_
      · rw [SIM_iff]; cbv; try simp [nlLe_self, lstEq]
      intro ⟨i, ⟨now, sent, N, n, q⟩, x⟩ hI X1 hX
      dsimp only at hI
      obtain ⟨hI1, hI2, hI3, hI4, hI5⟩ := hI
      have hll : ic (ln tStep l) = l.length := by rw [r4, r12]
      have hia : ar .add .i64 i 1 = i + 1 := by rw [r1]; exact wrap64 (n := i + 1) (by omega) (by omega)
      obtain ⟨⟨d, t, c1, c2, c3, c4⟩, hx0⟩ : ∃ z, z = gt tStep l i := ⟨_, rfl⟩
      have hfb : ∀ m, -1 ≤ rfateM f m ∧ rfateM f m ≤ 8 := rfate_b hw
      have hg10 : g1 [] [] = true := by rw [← hg1]; simp [eqCh]
      have hi0 : ic 0 = 0 := by rw [r4]; rfl
      cases x with
      | none =>
        dsimp only at hI5
        cbv
        rw [hll, ← hx0]
        simp only [r21, r22]
        try simp only [nc_eq] at *
        refine BR.lss r0 (fun hi => ?_) fun hi => trivial
        have hinb : INB i (l.length : Int) := ⟨hI1, hi⟩
        refine BR.lss r0 (fun h90 => ?_) fun h90 => trivial
        refine ⟨hinb, hinb, ⟨by decide⟩, BR.eql r0 (fun hd => ?_) fun hd => ?_⟩
        · refine SENT.mk ⟨hI5.hq, by have := hI5.ex; obtain ⟨s, hs, _⟩ := this; rw [← hI5.hq]; exact hs.le, hI5.hn, by rw [hI5.hm]; omega, by omega, hFF⟩ ?_
          intro e1 now1 s1 N1 n1 q1 h1
          rw [hFM2] at h1
          obtain ⟨z1, z2, z3⟩ := hI5.send hw h1
          have hre : rsE f now 0 0 t (c1, c2, c3, c4) = e1 := z1 [] .nil (by obtain ⟨s, hs, hr⟩ := hI5.ex; obtain rfl := hr.uniq .nil; exact hs.len)
          cbv
          by_cases he : e1 = 0
          · obtain ⟨y1, y2, y3⟩ := z3 he
            refine ⟨hk, .inl ⟨hre.trans he, hfb 0, fun x b hx hb => ?_⟩⟩
            have hmb : 1 ≤ 1000 := by decide
            have hM : MI f s1 N1 n1 q1 1 [x] [b] := by rw [y2, hx, hb]; exact y3
            have hsb : s1 ≤ i + 1 := by omega
            clear h1 z1 z2 z3 hre y3 hx hb
            obtain rfl := y1
            cbv
            refine ⟨⟨⟨⟨⟨nlLe_self.2 trivial, trivial⟩, ⟨nlLe_self.2 trivial, trivial⟩, trivial⟩, trivial⟩, trivial⟩, BR.neq r0 (fun h => absurd he h) fun _ => ?_⟩
            have hn1 := hM.hn
            have hm1 := hM.hm
            refine PND.mk ⟨by obtain ⟨s, hs, _⟩ := hM.ex; exact ⟨s, hs⟩, hM.hq, by have := hM.hn; omega⟩ ?_
            intro sA hsA
            have hrA := hM.rr hsA
            have hlA := hsA.len
            have hvA : vw tPar n1 sA 0 n1 = sA := by rw [r18]; exact vw_allT (t := tPar) hlA
            have hgA : g2 sA sA = true := by rw [← hg2]; simp [eqPa]
            cbv
            refine RPN.mk ⟨sA, hrA, hM.hA, hmb, by omega, ?_⟩
            cbv
            try simp only [nc_eq] at *
            rw [hvA]
            refine ⟨⟨⟨by rw [r8]; exact Nat.le_of_eq (Nat.zero_add _)⟩, trivial⟩, Short_iff.2 (by omega), BR.mk (fun _ => ?_) fun h => by
              try dsimp only at h
              rw [hgA] at h
              exact absurd h (by simp)⟩
            have hicm : s1 = ic 1 := by rw [r4]; exact hm1
            have hin1 : ic n1 = n1 := by rw [r4]
            refine BR.neq r0 (fun h => absurd hicm h) fun _ => ?_
            refine LOOP.ind (σ := Int × List tPar.den) (fun (k, _) => [(1, .tl ns tStep l), (6, .ptr 0 0), (8, .ptr 3 0), (11, .p (iv i)), (18, .ms 7 0 6 none n1), (19, .p (iv k))])
              (fun (_, P) => ⟨(linkS FM now1 s1 N1 n1 q1).box ++ [{ cells := [.ms 4 0 1 none L, .p (iv now1), .ms 5 0 6 none 1, .ms 6 0 1 none 1], e := 47, fz := false }, { cells := [.arr L tI f], e := 3, fz := false, ap := true }, { cells := [.arr 1 tPar [x]], e := 49, fz := false, ap := true }, { cells := [.arr 1 tB [b]], e := 4, fz := false, ap := true }, { cells := [.arr n1 tPar P], e := 49, fz := false, ap := true }], []⟩)
              (fun (k, _) => (n1 - k).toNat) (fun (k, P) => 0 ≤ k ∧ k ≤ n1 ∧ P.length = n1) (0, sA) ⟨by omega, by show (0 : Int) ≤ _; omega, hlA⟩ (.inr ⟨[some 0, some 1, some 6, some 3, some 4, some 7, some 8, some 9], [], ?_⟩) ?_
            · rw [SIM_iff]; cbv; try simp [nlLe_self, lstEq]
            intro ⟨k, P⟩ hK X2 hY
            dsimp only at hK
            obtain ⟨hK1, hK2, hK3⟩ := hK
            clear hvA hgA
            have hup : ∀ z : tPar.den, up tPar n1 P k z = P.set k.toNat z := fun z => by rw [r15]; exact upR_len (t := tPar) hK3 k z
            cbv
            try simp only [nc_eq] at *
            rw [hin1]
            refine BR.lss r0 (fun hk1 => ?_) fun hk1 => ?_
            · have hinb : INB k (n1 : Int) := ⟨hK1, hk1⟩
              have hka : ar .add .i64 k 1 = k + 1 := by rw [r1]; exact wrap64 (n := k + 1) (by omega) (by omega)
              obtain ⟨z0, hz0⟩ : ∃ z : tPar.den, z = (0, 0, 0, 0, 0, 0) := ⟨_, rfl⟩
              have hnI : 0 ≤ k + 1 ∧ k + 1 ≤ (n1 : Int) ∧ (P.set k.toNat z0).length = n1 := ⟨by omega, by omega, by rw [List.length_set]; exact hK3⟩
              have hmu : (n1 - (k + 1) : Int).toNat < (n1 - k : Int).toNat := by omega
              rw [hka, ← hz0, hup]
              exact ⟨hinb, hinb, NEXT.mk (hY (k + 1, P.set k.toNat z0) _ _ hnI hmu (.inl ⟨rfl, rfl⟩))⟩
            · clear hY hup
              refine PND.mk ⟨by obtain ⟨s, hs, _⟩ := hM.ex; exact ⟨s, hs⟩, hM.hq, by have := hM.hn; omega⟩ ?_
              intro sA hsA
              have hrA := hM.rr hsA
              have hlA := hsA.len
              have hvA : vw tPar n1 sA 0 n1 = sA := by rw [r18]; exact vw_allT (t := tPar) hlA
              have hgA : g2 sA sA = true := by rw [← hg2]; simp [eqPa]
              cbv
              refine RPN.mk ⟨sA, hrA, hM.hA, hmb, by omega, ?_⟩
              cbv
              try simp only [nc_eq] at *
              rw [hvA]
              refine ⟨⟨⟨by rw [r8]; exact Nat.le_of_eq (Nat.zero_add _)⟩, trivial⟩, Short_iff.2 (by omega), BR.mk (fun _ => ?_) fun h => by
                try dsimp only at h
                rw [hgA] at h
                exact absurd h (by simp)⟩
              have hnI : 0 ≤ i + 1 ∧ i + 1 ≤ (l.length : Int) ∧ i + 1 ≤ 90 ∧ s1 ≤ i + 1 ∧ MI f s1 N1 n1 q1 1 [x] [b] := ⟨by omega, by omega, by omega, hsb, hM⟩
              have hmu : (l.length - (i + 1) : Int).toNat < (l.length - i : Int).toNat := by omega
              rw [hia]
              refine NEXT.mk (hX (i + 1, (now1, s1, N1, n1, q1), some (1, [x], [b])) _ _ hnI hmu (.inr ⟨[some 0, some 1, some 2, some 3, some 4, some 5, some 6], [], ?_⟩))
              rw [SIM_iff]; cbv; try simp [nlLe_self, lstEq]
          · obtain ⟨y1, y2, y3, y4, y5⟩ := z2 he
            refine ⟨hk, .inr ⟨e1, hre.symm, he, ?_⟩⟩
            clear h1 z1 z2 z3 hre
            have hM : MI f sent N n q 0 [] [] := hI5
            have hsb : sent ≤ i + 1 := by omega
            obtain rfl := y1
            obtain rfl := y2
            obtain rfl := y3
            obtain rfl := y4
            obtain rfl := y5
            cbv
            refine ⟨⟨⟨⟨⟨nlLe_self.2 trivial, trivial⟩, ⟨nlLe_self.2 trivial, trivial⟩, trivial⟩, trivial⟩, trivial⟩, BR.nn r0 ?_⟩
            have hn1 := hM.hn
            have hm1 := hM.hm
            refine PND.mk ⟨by obtain ⟨s, hs, _⟩ := hM.ex; exact ⟨s, hs⟩, hM.hq, by have := hM.hn; omega⟩ ?_
            intro sA hsA
            have hrA := hM.rr hsA
            have hlA := hsA.len
            have hvA : vw tPar n1 sA 0 n1 = sA := by rw [r18]; exact vw_allT (t := tPar) hlA
            have hs0 : sA = [] := hrA.uniq .nil
            have hgA : g2 sA [] = true := by rw [← hg2]; simp [eqPa, hs0]
            cbv
            try simp only [nc_eq] at *
            rw [hvA]
            refine ⟨⟨⟨⟨⟨nlLe_self.2 trivial, trivial⟩, ⟨nlLe_self.2 trivial, trivial⟩, trivial⟩, trivial⟩, trivial⟩, ⟨⟨by rw [r8]; exact Nat.le_of_eq (Nat.zero_add _)⟩, trivial⟩, Short_iff.2 (by omega), BR.mk (fun _ => ?_) fun h => by
              try dsimp only at h
              rw [hgA] at h
              exact absurd h (by simp)⟩
            have hicm : s1 = ic (ln tPar []) := by rw [r4, r12]; exact hm1
            have hin1 : ic n1 = n1 := by rw [r4]
            refine BR.neq r0 (fun h => absurd hicm h) fun _ => ?_
            refine LOOP.ind (σ := Int × List tPar.den) (fun (k, _) => [(1, .tl ns tStep l), (6, .ptr 0 0), (8, .ptr 3 0), (11, .p (iv i)), (18, .ms 5 0 6 none n1), (19, .p (iv k))])
              (fun (_, P) => ⟨(linkS FM now1 s1 N1 n1 q1).box ++ [{ cells := [.ms 4 0 1 none L, .p (iv now1), .tl (some true) tPar [], .tl (some true) tB []], e := 47, fz := false }, { cells := [.arr L tI f], e := 3, fz := false, ap := true }, { cells := [.arr n1 tPar P], e := 49, fz := false, ap := true }], []⟩)
              (fun (k, _) => (n1 - k).toNat) (fun (k, P) => 0 ≤ k ∧ k ≤ n1 ∧ P.length = n1) (0, sA) ⟨by omega, by show (0 : Int) ≤ _; omega, hlA⟩ (.inr ⟨[some 0, some 1, some 6, some 3, some 4, some 7], [], ?_⟩) ?_
            · rw [SIM_iff]; cbv; try simp [nlLe_self, lstEq]
            intro ⟨k, P⟩ hK X2 hY
            dsimp only at hK
            obtain ⟨hK1, hK2, hK3⟩ := hK
            clear hvA hgA
            have hup : ∀ z : tPar.den, up tPar n1 P k z = P.set k.toNat z := fun z => by rw [r15]; exact upR_len (t := tPar) hK3 k z
            cbv
            try simp only [nc_eq] at *
            rw [hin1]
            refine BR.lss r0 (fun hk1 => ?_) fun hk1 => ?_
            · have hinb : INB k (n1 : Int) := ⟨hK1, hk1⟩
              have hka : ar .add .i64 k 1 = k + 1 := by rw [r1]; exact wrap64 (n := k + 1) (by omega) (by omega)
              obtain ⟨z0, hz0⟩ : ∃ z : tPar.den, z = (0, 0, 0, 0, 0, 0) := ⟨_, rfl⟩
              have hnI : 0 ≤ k + 1 ∧ k + 1 ≤ (n1 : Int) ∧ (P.set k.toNat z0).length = n1 := ⟨by omega, by omega, by rw [List.length_set]; exact hK3⟩
              have hmu : (n1 - (k + 1) : Int).toNat < (n1 - k : Int).toNat := by omega
              rw [hka, ← hz0, hup]
              exact ⟨hinb, hinb, NEXT.mk (hY (k + 1, P.set k.toNat z0) _ _ hnI hmu (.inl ⟨rfl, rfl⟩))⟩
            · clear hY hup
              refine PND.mk ⟨by obtain ⟨s, hs, _⟩ := hM.ex; exact ⟨s, hs⟩, hM.hq, by have := hM.hn; omega⟩ ?_
              intro sA hsA
              have hrA := hM.rr hsA
              have hlA := hsA.len
              have hvA : vw tPar n1 sA 0 n1 = sA := by rw [r18]; exact vw_allT (t := tPar) hlA
              have hs0 : sA = [] := hrA.uniq .nil
              have hgA : g2 sA [] = true := by rw [← hg2]; simp [eqPa, hs0]
              cbv
              try simp only [nc_eq] at *
              rw [hvA]
              refine ⟨⟨⟨⟨⟨nlLe_self.2 trivial, trivial⟩, ⟨nlLe_self.2 trivial, trivial⟩, trivial⟩, trivial⟩, trivial⟩, ⟨⟨by rw [r8]; exact Nat.le_of_eq (Nat.zero_add _)⟩, trivial⟩, Short_iff.2 (by omega), BR.mk (fun _ => ?_) fun h => by
                try dsimp only at h
                rw [hgA] at h
                exact absurd h (by simp)⟩
              have hnI : 0 ≤ i + 1 ∧ i + 1 ≤ (l.length : Int) ∧ i + 1 ≤ 90 ∧ s1 ≤ i + 1 ∧ MI f s1 N1 n1 q1 0 [] [] := ⟨by omega, by omega, by omega, hsb, hM⟩
              have hmu : (l.length - (i + 1) : Int).toNat < (l.length - i : Int).toNat := by omega
              rw [hia]
              refine NEXT.mk (hX (i + 1, (now1, s1, N1, n1, q1), none) _ _ hnI hmu (.inr ⟨[some 0, some 1, some 2, some 3, some 4], [], ?_⟩))
              rw [SIM_iff]; cbv; try simp [nlLe_self, lstEq]
        · by_cases hat : atM now t = 0
          · obtain ⟨sv, hsq, hrr⟩ := hI5.ex
            have hs0 := hrr.uniq .nil
            subst hs0
            obtain ⟨w1, w2, hM⟩ := hI5.hear (t := t) .nil (W2 := []) .nil
            have ho : hearO t n q = [] := w1
            refine ⟨.inr ⟨⟨hat, hI5.hq, (by rw [← hI5.hq]; exact hsq.le), hI5.hn⟩, fun n1 q1 o hn' hq' ho' => ⟨fun _ => ?_, fun m h0 _ => absurd (ho'.trans ho) h0⟩⟩⟩
            rw [← hn', ← hq'] at hM
            clear hn' hq' ho ho' w1 w2 hsq hrr
            have hsb : sent ≤ i + 1 := by omega
            cbv
            refine RHN.ok hat ?_
            cbv
            refine ⟨⟨⟨⟨⟨nlLe_self.2 trivial, trivial⟩, ⟨nlLe_self.2 trivial, trivial⟩, trivial⟩, trivial⟩, trivial⟩, BR.nn r0 ⟨Short_iff.2 (by simp), BR.mk (fun _ => ?_) fun h => by
              try dsimp only at h
              rw [hg10] at h
              exact absurd h (by simp)⟩⟩
            refine LOOP.ind (σ := Unit) (fun _ => _) (fun _ => _) (fun _ => 0) (fun _ => True) () trivial (.inl ⟨rfl, rfl⟩) ?_
            intro _ _ X3 hX3
            cbv
            rw [hi0]
            refine BR.lss r0 (fun h => absurd h (by decide)) fun _ => ?_
            have hn1 := hM.hn
            have hm1 := hM.hm
            refine PND.mk ⟨by obtain ⟨s, hs, _⟩ := hM.ex; exact ⟨s, hs⟩, hM.hq, by have := hM.hn; omega⟩ ?_
            intro sA hsA
            have hrA := hM.rr hsA
            have hlA := hsA.len
            have hvA : vw tPar n1 sA 0 n1 = sA := by rw [r18]; exact vw_allT (t := tPar) hlA
            have hs0 : sA = [] := hrA.uniq .nil
            have hgA : g2 sA [] = true := by rw [← hg2]; simp [eqPa, hs0]
            cbv
            try simp only [nc_eq] at *
            rw [hvA]
            refine ⟨⟨⟨⟨⟨nlLe_self.2 trivial, trivial⟩, ⟨nlLe_self.2 trivial, trivial⟩, trivial⟩, trivial⟩, trivial⟩, ⟨⟨by rw [r8]; exact Nat.le_of_eq (Nat.zero_add _)⟩, trivial⟩, Short_iff.2 (by omega), BR.mk (fun _ => ?_) fun h => by
              try dsimp only at h
              rw [hgA] at h
              exact absurd h (by simp)⟩
            have hicm : sent = ic (ln tPar []) := by rw [r4, r12]; exact hm1
            have hin1 : ic n1 = n1 := by rw [r4]
            refine BR.neq r0 (fun h => absurd hicm h) fun _ => ?_
            refine LOOP.ind (σ := Int × List tPar.den) (fun (k, _) => [(1, .tl ns tStep l), (6, .ptr 0 0), (8, .ptr 3 0), (11, .p (iv i)), (18, .ms 5 0 6 none n1), (19, .p (iv k))])
              (fun (_, P) => ⟨(linkS FM t sent N n1 q1).box ++ [{ cells := [.ms 4 0 1 none L, .p (iv t), .tl (some true) tPar [], .tl (some true) tB []], e := 47, fz := false }, { cells := [.arr L tI f], e := 3, fz := false, ap := true }, { cells := [.arr n1 tPar P], e := 49, fz := false, ap := true }], []⟩)
              (fun (k, _) => (n1 - k).toNat) (fun (k, P) => 0 ≤ k ∧ k ≤ n1 ∧ P.length = n1) (0, sA) ⟨by omega, by show (0 : Int) ≤ _; omega, hlA⟩ (.inr ⟨[some 0, some 1, some 2, some 3, some 4, some 7], [], ?_⟩) ?_
            · rw [SIM_iff]; cbv; try simp [nlLe_self, lstEq]
            intro ⟨k, P⟩ hK X2 hY
            dsimp only at hK
            obtain ⟨hK1, hK2, hK3⟩ := hK
            clear hvA hgA
            have hup : ∀ z : tPar.den, up tPar n1 P k z = P.set k.toNat z := fun z => by rw [r15]; exact upR_len (t := tPar) hK3 k z
            cbv
            try simp only [nc_eq] at *
            rw [hin1]
            refine BR.lss r0 (fun hk1 => ?_) fun hk1 => ?_
            · have hinb : INB k (n1 : Int) := ⟨hK1, hk1⟩
              have hka : ar .add .i64 k 1 = k + 1 := by rw [r1]; exact wrap64 (n := k + 1) (by omega) (by omega)
              obtain ⟨z0, hz0⟩ : ∃ z : tPar.den, z = (0, 0, 0, 0, 0, 0) := ⟨_, rfl⟩
              have hnI : 0 ≤ k + 1 ∧ k + 1 ≤ (n1 : Int) ∧ (P.set k.toNat z0).length = n1 := ⟨by omega, by omega, by rw [List.length_set]; exact hK3⟩
              have hmu : (n1 - (k + 1) : Int).toNat < (n1 - k : Int).toNat := by omega
              rw [hka, ← hz0, hup]
              exact ⟨hinb, hinb, NEXT.mk (hY (k + 1, P.set k.toNat z0) _ _ hnI hmu (.inl ⟨rfl, rfl⟩))⟩
            · clear hY hup
              refine PND.mk ⟨by obtain ⟨s, hs, _⟩ := hM.ex; exact ⟨s, hs⟩, hM.hq, by have := hM.hn; omega⟩ ?_
              intro sA hsA
              have hrA := hM.rr hsA
              have hlA := hsA.len
              have hvA : vw tPar n1 sA 0 n1 = sA := by rw [r18]; exact vw_allT (t := tPar) hlA
              have hs0 : sA = [] := hrA.uniq .nil
              have hgA : g2 sA [] = true := by rw [← hg2]; simp [eqPa, hs0]
              cbv
              try simp only [nc_eq] at *
              rw [hvA]
              refine ⟨⟨⟨⟨⟨nlLe_self.2 trivial, trivial⟩, ⟨nlLe_self.2 trivial, trivial⟩, trivial⟩, trivial⟩, trivial⟩, ⟨⟨by rw [r8]; exact Nat.le_of_eq (Nat.zero_add _)⟩, trivial⟩, Short_iff.2 (by omega), BR.mk (fun _ => ?_) fun h => by
                try dsimp only at h
                rw [hgA] at h
                exact absurd h (by simp)⟩
              have hnI : 0 ≤ i + 1 ∧ i + 1 ≤ (l.length : Int) ∧ i + 1 ≤ 90 ∧ sent ≤ i + 1 ∧ MI f sent N n1 q1 0 [] [] := ⟨by omega, by omega, by omega, hsb, hM⟩
              have hmu : (l.length - (i + 1) : Int).toNat < (l.length - i : Int).toNat := by omega
              rw [hia]
              refine NEXT.mk (hX (i + 1, (t, sent, N, n1, q1), none) _ _ hnI hmu (.inr ⟨[some 0, some 1, some 2, some 3, some 4], [], ?_⟩))
              rw [SIM_iff]; cbv; try simp [nlLe_self, lstEq]
          · obtain ⟨e, he⟩ : ∃ e, e = atM now t := ⟨_, rfl⟩
            rw [← he] at hat
            have hM : MI f sent N n q 0 [] [] := hI5
            have hsb : sent ≤ i + 1 := by omega
            refine ⟨.inl ⟨e, he, hat, ?_⟩⟩
            cbv
            refine RHN.err e he hat ?_
            cbv
            refine ⟨⟨⟨⟨⟨nlLe_self.2 trivial, trivial⟩, ⟨nlLe_self.2 trivial, trivial⟩, trivial⟩, trivial⟩, trivial⟩, BR.nn r0 ⟨Short_iff.2 (by simp), BR.mk (fun _ => ?_) fun h => by
              try dsimp only at h
              rw [hg10] at h
              exact absurd h (by simp)⟩⟩
            refine LOOP.ind (σ := Unit) (fun _ => _) (fun _ => _) (fun _ => 0) (fun _ => True) () trivial (.inl ⟨rfl, rfl⟩) ?_
            intro _ _ X3 hX3
            cbv
            rw [hi0]
            refine BR.lss r0 (fun h => absurd h (by decide)) fun _ => ?_
            have hn1 := hM.hn
            have hm1 := hM.hm
            refine PND.mk ⟨by obtain ⟨s, hs, _⟩ := hM.ex; exact ⟨s, hs⟩, hM.hq, by have := hM.hn; omega⟩ ?_
            intro sA hsA
            have hrA := hM.rr hsA
            have hlA := hsA.len
            have hvA : vw tPar n sA 0 n = sA := by rw [r18]; exact vw_allT (t := tPar) hlA
            have hs0 : sA = [] := hrA.uniq .nil
            have hgA : g2 sA [] = true := by rw [← hg2]; simp [eqPa, hs0]
            cbv
            try simp only [nc_eq] at *
            rw [hvA]
            refine ⟨⟨⟨⟨⟨nlLe_self.2 trivial, trivial⟩, ⟨nlLe_self.2 trivial, trivial⟩, trivial⟩, trivial⟩, trivial⟩, ⟨⟨by rw [r8]; exact Nat.le_of_eq (Nat.zero_add _)⟩, trivial⟩, Short_iff.2 (by omega), BR.mk (fun _ => ?_) fun h => by
              try dsimp only at h
              rw [hgA] at h
              exact absurd h (by simp)⟩
            have hicm : sent = ic (ln tPar []) := by rw [r4, r12]; exact hm1
            have hin1 : ic n = n := by rw [r4]
            refine BR.neq r0 (fun h => absurd hicm h) fun _ => ?_
            refine LOOP.ind (σ := Int × List tPar.den) (fun (k, _) => [(1, .tl ns tStep l), (6, .ptr 0 0), (8, .ptr 3 0), (11, .p (iv i)), (18, .ms 5 0 6 none n), (19, .p (iv k))])
              (fun (_, P) => ⟨(linkS FM now sent N n q).box ++ [{ cells := [.ms 4 0 1 none L, .p (iv now), .tl (some true) tPar [], .tl (some true) tB []], e := 47, fz := false }, { cells := [.arr L tI f], e := 3, fz := false, ap := true }, { cells := [.arr n tPar P], e := 49, fz := false, ap := true }], []⟩)
              (fun (k, _) => (n - k).toNat) (fun (k, P) => 0 ≤ k ∧ k ≤ n ∧ P.length = n) (0, sA) ⟨by omega, by show (0 : Int) ≤ _; omega, hlA⟩ (.inr ⟨[some 0, some 1, some 2, some 3, some 4, some 6], [], ?_⟩) ?_
            · rw [SIM_iff]; cbv; try simp [nlLe_self, lstEq]
            intro ⟨k, P⟩ hK X2 hY
            dsimp only at hK
            obtain ⟨hK1, hK2, hK3⟩ := hK
            clear hvA hgA
            have hup : ∀ z : tPar.den, up tPar n P k z = P.set k.toNat z := fun z => by rw [r15]; exact upR_len (t := tPar) hK3 k z
            cbv
            try simp only [nc_eq] at *
            rw [hin1]
            refine BR.lss r0 (fun hk1 => ?_) fun hk1 => ?_
            · have hinb : INB k (n : Int) := ⟨hK1, hk1⟩
              have hka : ar .add .i64 k 1 = k + 1 := by rw [r1]; exact wrap64 (n := k + 1) (by omega) (by omega)
              obtain ⟨z0, hz0⟩ : ∃ z : tPar.den, z = (0, 0, 0, 0, 0, 0) := ⟨_, rfl⟩
              have hnI : 0 ≤ k + 1 ∧ k + 1 ≤ (n : Int) ∧ (P.set k.toNat z0).length = n := ⟨by omega, by omega, by rw [List.length_set]; exact hK3⟩
              have hmu : (n - (k + 1) : Int).toNat < (n - k : Int).toNat := by omega
              rw [hka, ← hz0, hup]
              exact ⟨hinb, hinb, NEXT.mk (hY (k + 1, P.set k.toNat z0) _ _ hnI hmu (.inl ⟨rfl, rfl⟩))⟩
            · clear hY hup
              refine PND.mk ⟨by obtain ⟨s, hs, _⟩ := hM.ex; exact ⟨s, hs⟩, hM.hq, by have := hM.hn; omega⟩ ?_
              intro sA hsA
              have hrA := hM.rr hsA
              have hlA := hsA.len
              have hvA : vw tPar n sA 0 n = sA := by rw [r18]; exact vw_allT (t := tPar) hlA
              have hs0 : sA = [] := hrA.uniq .nil
              have hgA : g2 sA [] = true := by rw [← hg2]; simp [eqPa, hs0]
              cbv
              try simp only [nc_eq] at *
              rw [hvA]
              refine ⟨⟨⟨⟨⟨nlLe_self.2 trivial, trivial⟩, ⟨nlLe_self.2 trivial, trivial⟩, trivial⟩, trivial⟩, trivial⟩, ⟨⟨by rw [r8]; exact Nat.le_of_eq (Nat.zero_add _)⟩, trivial⟩, Short_iff.2 (by omega), BR.mk (fun _ => ?_) fun h => by
                try dsimp only at h
                rw [hgA] at h
                exact absurd h (by simp)⟩
              have hnI : 0 ≤ i + 1 ∧ i + 1 ≤ (l.length : Int) ∧ i + 1 ≤ 90 ∧ sent ≤ i + 1 ∧ MI f sent N n q 0 [] [] := ⟨by omega, by omega, by omega, hsb, hM⟩
              have hmu : (l.length - (i + 1) : Int).toNat < (l.length - i : Int).toNat := by omega
              rw [hia]
              refine NEXT.mk (hX (i + 1, (now, sent, N, n, q), none) _ _ hnI hmu (.inr ⟨[some 0, some 1, some 2, some 3, some 4], [], ?_⟩))
              rw [SIM_iff]; cbv; try simp [nlLe_self, lstEq]
      | some y =>
        obtain ⟨m, A, W⟩ := y
        dsimp only at hI5
        have hmN : m ≤ 90 := by have := hI5.hm; omega
        cbv
        rw [hll, ← hx0]
        simp only [r21, r22]
        try simp only [nc_eq] at *
        refine BR.lss r0 (fun hi => ?_) fun hi => trivial
        have hinb : INB i (l.length : Int) := ⟨hI1, hi⟩
        refine BR.lss r0 (fun h90 => ?_) fun h90 => trivial
        have hm2 := hI5.hm
        refine ⟨hinb, hinb, ⟨by decide⟩, BR.eql r0 (fun hd => ?_) fun hd => ?_⟩
        · obtain ⟨sv, hsq, hrr⟩ := hI5.ex
          have hsl := hsq.len
          have hn0 := hI5.hn
          refine SENT.mk ⟨hI5.hq, by rw [← hI5.hq]; exact hsq.le, hI5.hn, by rw [hI5.hm]; omega, by omega, hFF⟩ ?_
          intro e1 now1 s1 N1 n1 q1 h1
          rw [hFM2] at h1
          obtain ⟨z1, z2, z3⟩ := hI5.send hw h1
          have hre : rsE f now m sv.length t (c1, c2, c3, c4) = e1 := z1 sv hrr hsl
          cbv
          by_cases he : e1 = 0
          · obtain ⟨y1, y2, y3⟩ := z3 he
            refine ⟨hk, sv, hrr, hI5.hA, by omega, by omega, .inl ⟨hre.trans he, hfb m, fun m2 A2 W2 hm2' hA2 hW2 => ?_⟩⟩
            have hmb : m2 ≤ 1000 := by omega
            have hM : MI f s1 N1 n1 q1 m2 A2 W2 := by rw [y2, hm2', hA2, hW2]; exact y3
            have hsb : s1 ≤ i + 1 := by omega
            clear h1 z1 z2 z3 hre y3 hm2' hA2 hW2 hsq hrr hsl
            obtain rfl := y1
            cbv
            refine BR.neq r0 (fun h => absurd he h) fun _ => ?_
            have hn1 := hM.hn
            have hm1 := hM.hm
            refine PND.mk ⟨by obtain ⟨s, hs, _⟩ := hM.ex; exact ⟨s, hs⟩, hM.hq, by have := hM.hn; omega⟩ ?_
            intro sA hsA
            have hrA := hM.rr hsA
            have hlA := hsA.len
            have hvA : vw tPar n1 sA 0 n1 = sA := by rw [r18]; exact vw_allT (t := tPar) hlA
            have hgA : g2 sA sA = true := by rw [← hg2]; simp [eqPa]
            cbv
            refine RPN.mk ⟨sA, hrA, hM.hA, hmb, by omega, ?_⟩
            cbv
            try simp only [nc_eq] at *
            rw [hvA]
            refine ⟨⟨⟨by rw [r8]; exact Nat.le_of_eq (Nat.zero_add _)⟩, trivial⟩, Short_iff.2 (by omega), BR.mk (fun _ => ?_) fun h => by
              try dsimp only at h
              rw [hgA] at h
              exact absurd h (by simp)⟩
            have hicm : s1 = ic m2 := by rw [r4]; exact hm1
            have hin1 : ic n1 = n1 := by rw [r4]
            refine BR.neq r0 (fun h => absurd hicm h) fun _ => ?_
            refine LOOP.ind (σ := Int × List tPar.den) (fun (k, _) => [(1, .tl ns tStep l), (6, .ptr 0 0), (8, .ptr 3 0), (11, .p (iv i)), (18, .ms 7 0 6 none n1), (19, .p (iv k))])
              (fun (_, P) => ⟨(linkS FM now1 s1 N1 n1 q1).box ++ [{ cells := [.ms 4 0 1 none L, .p (iv now1), .ms 5 0 6 none m2, .ms 6 0 1 none m2], e := 47, fz := false }, { cells := [.arr L tI f], e := 3, fz := false, ap := true }, { cells := [.arr m2 tPar A2], e := 49, fz := false, ap := true }, { cells := [.arr m2 tB W2], e := 4, fz := false, ap := true }, { cells := [.arr n1 tPar P], e := 49, fz := false, ap := true }], []⟩)
              (fun (k, _) => (n1 - k).toNat) (fun (k, P) => 0 ≤ k ∧ k ≤ n1 ∧ P.length = n1) (0, sA) ⟨by omega, by show (0 : Int) ≤ _; omega, hlA⟩ (.inr ⟨[some 0, some 1, some 8, some 3, some 4, some 9, some 10, some 11], [], ?_⟩) ?_
            · rw [SIM_iff]; cbv; try simp [nlLe_self, lstEq]
            intro ⟨k, P⟩ hK X2 hY
            dsimp only at hK
            obtain ⟨hK1, hK2, hK3⟩ := hK
            clear hvA hgA
            have hup : ∀ z : tPar.den, up tPar n1 P k z = P.set k.toNat z := fun z => by rw [r15]; exact upR_len (t := tPar) hK3 k z
            cbv
            try simp only [nc_eq] at *
            rw [hin1]
            refine BR.lss r0 (fun hk1 => ?_) fun hk1 => ?_
            · have hinb : INB k (n1 : Int) := ⟨hK1, hk1⟩
              have hka : ar .add .i64 k 1 = k + 1 := by rw [r1]; exact wrap64 (n := k + 1) (by omega) (by omega)
              obtain ⟨z0, hz0⟩ : ∃ z : tPar.den, z = (0, 0, 0, 0, 0, 0) := ⟨_, rfl⟩
              have hnI : 0 ≤ k + 1 ∧ k + 1 ≤ (n1 : Int) ∧ (P.set k.toNat z0).length = n1 := ⟨by omega, by omega, by rw [List.length_set]; exact hK3⟩
              have hmu : (n1 - (k + 1) : Int).toNat < (n1 - k : Int).toNat := by omega
              rw [hka, ← hz0, hup]
              exact ⟨hinb, hinb, NEXT.mk (hY (k + 1, P.set k.toNat z0) _ _ hnI hmu (.inl ⟨rfl, rfl⟩))⟩
            · clear hY hup
              refine PND.mk ⟨by obtain ⟨s, hs, _⟩ := hM.ex; exact ⟨s, hs⟩, hM.hq, by have := hM.hn; omega⟩ ?_
              intro sA hsA
              have hrA := hM.rr hsA
              have hlA := hsA.len
              have hvA : vw tPar n1 sA 0 n1 = sA := by rw [r18]; exact vw_allT (t := tPar) hlA
              have hgA : g2 sA sA = true := by rw [← hg2]; simp [eqPa]
              cbv
              refine RPN.mk ⟨sA, hrA, hM.hA, hmb, by omega, ?_⟩
              cbv
              try simp only [nc_eq] at *
              rw [hvA]
              refine ⟨⟨⟨by rw [r8]; exact Nat.le_of_eq (Nat.zero_add _)⟩, trivial⟩, Short_iff.2 (by omega), BR.mk (fun _ => ?_) fun h => by
                try dsimp only at h
                rw [hgA] at h
                exact absurd h (by simp)⟩
              have hnI : 0 ≤ i + 1 ∧ i + 1 ≤ (l.length : Int) ∧ i + 1 ≤ 90 ∧ s1 ≤ i + 1 ∧ MI f s1 N1 n1 q1 m2 A2 W2 := ⟨by omega, by omega, by omega, hsb, hM⟩
              have hmu : (l.length - (i + 1) : Int).toNat < (l.length - i : Int).toNat := by omega
              rw [hia]
              refine NEXT.mk (hX (i + 1, (now1, s1, N1, n1, q1), some (m2, A2, W2)) _ _ hnI hmu (.inr ⟨[some 0, some 1, some 2, some 3, some 4, some 5, some 6], [], ?_⟩))
              rw [SIM_iff]; cbv; try simp [nlLe_self, lstEq]
          · obtain ⟨y1, y2, y3, y4, y5⟩ := z2 he
            refine ⟨hk, sv, hrr, hI5.hA, by omega, by omega, .inr ⟨e1, hre.symm, he, ?_⟩⟩
            clear h1 z1 z2 z3 hre hsq hrr hsl
            have hM : MI f sent N n q m A W := hI5
            have hmb : m ≤ 1000 := by omega
            have hsb : sent ≤ i + 1 := by omega
            obtain rfl := y1
            obtain rfl := y2
            obtain rfl := y3
            obtain rfl := y4
            obtain rfl := y5
            cbv
            refine BR.nn r0 ?_
            have hn1 := hM.hn
            have hm1 := hM.hm
            refine PND.mk ⟨by obtain ⟨s, hs, _⟩ := hM.ex; exact ⟨s, hs⟩, hM.hq, by have := hM.hn; omega⟩ ?_
            intro sA hsA
            have hrA := hM.rr hsA
            have hlA := hsA.len
            have hvA : vw tPar n1 sA 0 n1 = sA := by rw [r18]; exact vw_allT (t := tPar) hlA
            have hgA : g2 sA sA = true := by rw [← hg2]; simp [eqPa]
            cbv
            refine RPN.mk ⟨sA, hrA, hM.hA, hmb, by omega, ?_⟩
            cbv
            try simp only [nc_eq] at *
            rw [hvA]
            refine ⟨⟨⟨by rw [r8]; exact Nat.le_of_eq (Nat.zero_add _)⟩, trivial⟩, Short_iff.2 (by omega), BR.mk (fun _ => ?_) fun h => by
              try dsimp only at h
              rw [hgA] at h
              exact absurd h (by simp)⟩
            have hicm : s1 = ic m := by rw [r4]; exact hm1
            have hin1 : ic n1 = n1 := by rw [r4]
            refine BR.neq r0 (fun h => absurd hicm h) fun _ => ?_
            refine LOOP.ind (σ := Int × List tPar.den) (fun (k, _) => [(1, .tl ns tStep l), (6, .ptr 0 0), (8, .ptr 3 0), (11, .p (iv i)), (18, .ms 7 0 6 none n1), (19, .p (iv k))])
              (fun (_, P) => ⟨(linkS FM now1 s1 N1 n1 q1).box ++ [{ cells := [.ms 4 0 1 none L, .p (iv now1), .ms 5 0 6 none m, .ms 6 0 1 none m], e := 47, fz := false }, { cells := [.arr L tI f], e := 3, fz := false, ap := true }, { cells := [.arr m tPar A], e := 49, fz := false, ap := true }, { cells := [.arr m tB W], e := 4, fz := false, ap := true }, { cells := [.arr n1 tPar P], e := 49, fz := false, ap := true }], []⟩)
              (fun (k, _) => (n1 - k).toNat) (fun (k, P) => 0 ≤ k ∧ k ≤ n1 ∧ P.length = n1) (0, sA) ⟨by omega, by show (0 : Int) ≤ _; omega, hlA⟩ (.inr ⟨[some 0, some 1, some 8, some 3, some 4, some 5, some 6, some 9], [], ?_⟩) ?_
            · rw [SIM_iff]; cbv; try simp [nlLe_self, lstEq]
            intro ⟨k, P⟩ hK X2 hY
            dsimp only at hK
            obtain ⟨hK1, hK2, hK3⟩ := hK
            clear hvA hgA
            have hup : ∀ z : tPar.den, up tPar n1 P k z = P.set k.toNat z := fun z => by rw [r15]; exact upR_len (t := tPar) hK3 k z
            cbv
            try simp only [nc_eq] at *
            rw [hin1]
            refine BR.lss r0 (fun hk1 => ?_) fun hk1 => ?_
            · have hinb : INB k (n1 : Int) := ⟨hK1, hk1⟩
              have hka : ar .add .i64 k 1 = k + 1 := by rw [r1]; exact wrap64 (n := k + 1) (by omega) (by omega)
              obtain ⟨z0, hz0⟩ : ∃ z : tPar.den, z = (0, 0, 0, 0, 0, 0) := ⟨_, rfl⟩
              have hnI : 0 ≤ k + 1 ∧ k + 1 ≤ (n1 : Int) ∧ (P.set k.toNat z0).length = n1 := ⟨by omega, by omega, by rw [List.length_set]; exact hK3⟩
              have hmu : (n1 - (k + 1) : Int).toNat < (n1 - k : Int).toNat := by omega
              rw [hka, ← hz0, hup]
              exact ⟨hinb, hinb, NEXT.mk (hY (k + 1, P.set k.toNat z0) _ _ hnI hmu (.inl ⟨rfl, rfl⟩))⟩
            · clear hY hup
              refine PND.mk ⟨by obtain ⟨s, hs, _⟩ := hM.ex; exact ⟨s, hs⟩, hM.hq, by have := hM.hn; omega⟩ ?_
              intro sA hsA
              have hrA := hM.rr hsA
              have hlA := hsA.len
              have hvA : vw tPar n1 sA 0 n1 = sA := by rw [r18]; exact vw_allT (t := tPar) hlA
              have hgA : g2 sA sA = true := by rw [← hg2]; simp [eqPa]
              cbv
              refine RPN.mk ⟨sA, hrA, hM.hA, hmb, by omega, ?_⟩
              cbv
              try simp only [nc_eq] at *
              rw [hvA]
              refine ⟨⟨⟨by rw [r8]; exact Nat.le_of_eq (Nat.zero_add _)⟩, trivial⟩, Short_iff.2 (by omega), BR.mk (fun _ => ?_) fun h => by
                try dsimp only at h
                rw [hgA] at h
                exact absurd h (by simp)⟩
              have hnI : 0 ≤ i + 1 ∧ i + 1 ≤ (l.length : Int) ∧ i + 1 ≤ 90 ∧ s1 ≤ i + 1 ∧ MI f s1 N1 n1 q1 m A W := ⟨by omega, by omega, by omega, hsb, hM⟩
              have hmu : (l.length - (i + 1) : Int).toNat < (l.length - i : Int).toNat := by omega
              rw [hia]
              refine NEXT.mk (hX (i + 1, (now1, s1, N1, n1, q1), some (m, A, W)) _ _ hnI hmu (.inr ⟨[some 0, some 1, some 2, some 3, some 4, some 5, some 6], [], ?_⟩))
              rw [SIM_iff]; cbv; try simp [nlLe_self, lstEq]
        · by_cases hat : atM now t = 0
          · obtain ⟨sv, hsq, hrr⟩ := hI5.ex
            have hsl := hsq.len
            have hn0 := hI5.hn
            refine ⟨.inr ⟨⟨hat, hI5.hq, (by rw [← hI5.hq]; exact hsq.le), hn0⟩, fun n1 q1 o hn' hq' ho' => ⟨fun h0 => ?_, fun k1 h0 hk1 => ?_⟩⟩⟩
            · cbv
              refine RHE.ok hat hrr hI5.hA (by omega) (by omega) fun o2 W2 ho2 hW2 => ?_
              obtain ⟨w1, w2, hM⟩ := hI5.hear (t := t) hrr hW2
              have hoo : o2 = [] := by rw [ho2, ← w1, ← ho', h0]
              rw [← hn', ← hq'] at hM
              clear hn' hq' ho' w1 w2 ho2
              have hsb : sent ≤ i + 1 := by omega
              have hmb : m ≤ 1000 := by omega
              subst hoo
              cbv
              refine BR.nn r0 ⟨Short_iff.2 (by simp), BR.mk (fun _ => ?_) fun h => by
                try dsimp only at h
                rw [hg10] at h
                exact absurd h (by simp)⟩
              refine LOOP.ind (σ := Unit) (fun _ => _) (fun _ => _) (fun _ => 0) (fun _ => True) () trivial (.inl ⟨rfl, rfl⟩) ?_
              intro _ _ X3 hX3
              cbv
              rw [hi0]
              refine BR.lss r0 (fun h => absurd h (by decide)) fun _ => ?_
              have hn1 := hM.hn
              have hm1 := hM.hm
              refine PND.mk ⟨by obtain ⟨s, hs, _⟩ := hM.ex; exact ⟨s, hs⟩, hM.hq, by have := hM.hn; omega⟩ ?_
              intro sA hsA
              have hrA := hM.rr hsA
              have hlA := hsA.len
              have hvA : vw tPar n1 sA 0 n1 = sA := by rw [r18]; exact vw_allT (t := tPar) hlA
              have hgA : g2 sA sA = true := by rw [← hg2]; simp [eqPa]
              cbv
              refine RPN.mk ⟨sA, hrA, hM.hA, hmb, by omega, ?_⟩
              cbv
              try simp only [nc_eq] at *
              rw [hvA]
              refine ⟨⟨⟨by rw [r8]; exact Nat.le_of_eq (Nat.zero_add _)⟩, trivial⟩, Short_iff.2 (by omega), BR.mk (fun _ => ?_) fun h => by
                try dsimp only at h
                rw [hgA] at h
                exact absurd h (by simp)⟩
              have hicm : sent = ic m := by rw [r4]; exact hm1
              have hin1 : ic n1 = n1 := by rw [r4]
              refine BR.neq r0 (fun h => absurd hicm h) fun _ => ?_
              refine LOOP.ind (σ := Int × List tPar.den) (fun (k, _) => [(1, .tl ns tStep l), (6, .ptr 0 0), (8, .ptr 3 0), (11, .p (iv i)), (18, .ms 7 0 6 none n1), (19, .p (iv k))])
                (fun (_, P) => ⟨(linkS FM t sent N n1 q1).box ++ [{ cells := [.ms 4 0 1 none L, .p (iv t), .ms 5 0 6 none m, .ms 6 0 1 none m], e := 47, fz := false }, { cells := [.arr L tI f], e := 3, fz := false, ap := true }, { cells := [.arr m tPar A], e := 49, fz := false, ap := true }, { cells := [.arr m tB W2], e := 4, fz := false, ap := true }, { cells := [.arr n1 tPar P], e := 49, fz := false, ap := true }], []⟩)
                (fun (k, _) => (n1 - k).toNat) (fun (k, P) => 0 ≤ k ∧ k ≤ n1 ∧ P.length = n1) (0, sA) ⟨by omega, by show (0 : Int) ≤ _; omega, hlA⟩ (.inr ⟨[some 0, some 1, some 2, some 3, some 4, some 5, some 6, some 9], [], ?_⟩) ?_
              · rw [SIM_iff]; cbv; try simp [nlLe_self, lstEq]
              intro ⟨k, P⟩ hK X2 hY
              dsimp only at hK
              obtain ⟨hK1, hK2, hK3⟩ := hK
              clear hvA hgA
              have hup : ∀ z : tPar.den, up tPar n1 P k z = P.set k.toNat z := fun z => by rw [r15]; exact upR_len (t := tPar) hK3 k z
              cbv
              try simp only [nc_eq] at *
              rw [hin1]
              refine BR.lss r0 (fun hk1 => ?_) fun hk1 => ?_
              · have hinb : INB k (n1 : Int) := ⟨hK1, hk1⟩
                have hka : ar .add .i64 k 1 = k + 1 := by rw [r1]; exact wrap64 (n := k + 1) (by omega) (by omega)
                obtain ⟨z0, hz0⟩ : ∃ z : tPar.den, z = (0, 0, 0, 0, 0, 0) := ⟨_, rfl⟩
                have hnI : 0 ≤ k + 1 ∧ k + 1 ≤ (n1 : Int) ∧ (P.set k.toNat z0).length = n1 := ⟨by omega, by omega, by rw [List.length_set]; exact hK3⟩
                have hmu : (n1 - (k + 1) : Int).toNat < (n1 - k : Int).toNat := by omega
                rw [hka, ← hz0, hup]
                exact ⟨hinb, hinb, NEXT.mk (hY (k + 1, P.set k.toNat z0) _ _ hnI hmu (.inl ⟨rfl, rfl⟩))⟩
              · clear hY hup
                refine PND.mk ⟨by obtain ⟨s, hs, _⟩ := hM.ex; exact ⟨s, hs⟩, hM.hq, by have := hM.hn; omega⟩ ?_
                intro sA hsA
                have hrA := hM.rr hsA
                have hlA := hsA.len
                have hvA : vw tPar n1 sA 0 n1 = sA := by rw [r18]; exact vw_allT (t := tPar) hlA
                have hgA : g2 sA sA = true := by rw [← hg2]; simp [eqPa]
                cbv
                refine RPN.mk ⟨sA, hrA, hM.hA, hmb, by omega, ?_⟩
                cbv
                try simp only [nc_eq] at *
                rw [hvA]
                refine ⟨⟨⟨by rw [r8]; exact Nat.le_of_eq (Nat.zero_add _)⟩, trivial⟩, Short_iff.2 (by omega), BR.mk (fun _ => ?_) fun h => by
                  try dsimp only at h
                  rw [hgA] at h
                  exact absurd h (by simp)⟩
                have hnI : 0 ≤ i + 1 ∧ i + 1 ≤ (l.length : Int) ∧ i + 1 ≤ 90 ∧ sent ≤ i + 1 ∧ MI f sent N n1 q1 m A W2 := ⟨by omega, by omega, by omega, hsb, hM⟩
                have hmu : (l.length - (i + 1) : Int).toNat < (l.length - i : Int).toNat := by omega
                rw [hia]
                refine NEXT.mk (hX (i + 1, (t, sent, N, n1, q1), some (m, A, W2)) _ _ hnI hmu (.inr ⟨[some 0, some 1, some 2, some 3, some 4, some 5, some 6], [], ?_⟩))
                rw [SIM_iff]; cbv; try simp [nlLe_self, lstEq]
            · cbv
              refine RHE.ok hat hrr hI5.hA (by omega) (by omega) fun o2 W2 ho2 hW2 => ?_
              obtain ⟨w1, w2, hM⟩ := hI5.hear (t := t) hrr hW2
              have hoo : o2 = o := by rw [ho2, ← w1, ← ho']
              rw [← hn', ← hq'] at hM
              rw [← ho'] at w2
              clear hn' hq' ho' w1 ho2
              have hsb : sent ≤ i + 1 := by omega
              have hmb : m ≤ 1000 := by omega
              subst hoo
              have hvo : vw tChoice k1 o2 0 k1 = o2 := by rw [r18]; exact vw_allT (t := tChoice) hk1.symm
              have hgo : g1 o2 o2 = true := by rw [← hg1]; simp [eqCh]
              have hik1 : ic k1 = k1 := by rw [r4]
              cbv
              try simp only [nc_eq] at *
              rw [hvo]
              refine BR.nn r0 ⟨⟨⟨by rw [r8]; exact Nat.le_of_eq (Nat.zero_add _)⟩, trivial⟩, Short_iff.2 (by omega), BR.mk (fun _ => ?_) fun h => by
                try dsimp only at h
                rw [hgo] at h
                exact absurd h (by simp)⟩
              refine LOOP.ind (σ := Int × List tChoice.den) (fun (k, _) => [(1, .tl ns tStep l), (6, .ptr 0 0), (8, .ptr 3 0), (11, .p (iv i)), (13, .ms 7 0 4 none k1), (17, .p (iv k))])
                (fun (_, P) => ⟨(linkS FM t sent N n1 q1).box ++ [{ cells := [.ms 4 0 1 none L, .p (iv t), .ms 5 0 6 none m, .ms 6 0 1 none m], e := 47, fz := false }, { cells := [.arr L tI f], e := 3, fz := false, ap := true }, { cells := [.arr m tPar A], e := 49, fz := false, ap := true }, { cells := [.arr m tB W2], e := 4, fz := false, ap := true }, { cells := [.arr k1 tChoice P], e := 33, fz := false, ap := true }], []⟩)
                (fun (k, _) => (k1 - k).toNat) (fun (k, P) => 0 ≤ k ∧ k ≤ k1 ∧ P.length = k1) (0, o2) ⟨by omega, by show (0 : Int) ≤ _; omega, hk1.symm⟩ (.inr ⟨[some 0, some 1, some 2, some 3, some 4, some 5, some 6, some 8], [], ?_⟩) ?_
              · rw [SIM_iff]; cbv; try simp [nlLe_self, lstEq]
              intro ⟨k, P⟩ hK X4 hZ
              dsimp only at hK
              obtain ⟨hK1, hK2, hK3⟩ := hK
              have hup : ∀ z : tChoice.den, up tChoice k1 P k z = P.set k.toNat z := fun z => by rw [r15]; exact upR_len (t := tChoice) hK3 k z
              cbv
              try simp only [nc_eq] at *
              rw [hik1]
              refine BR.lss r0 (fun hkk => ?_) fun hkk => ?_
              rotate_left
              clear hZ hup
              rotate_right
              · have hinb2 : INB k (k1 : Int) := ⟨hK1, hkk⟩
                have hka : ar .add .i64 k 1 = k + 1 := by rw [r1]; exact wrap64 (n := k + 1) (by omega) (by omega)
                obtain ⟨z0, hz0⟩ : ∃ z : tChoice.den, z = (0, 0, 0, 0) := ⟨_, rfl⟩
                have hnI : 0 ≤ k + 1 ∧ k + 1 ≤ (k1 : Int) ∧ (P.set k.toNat z0).length = k1 := ⟨by omega, by omega, by rw [List.length_set]; exact hK3⟩
                have hmu : (k1 - (k + 1) : Int).toNat < (k1 - k : Int).toNat := by omega
                rw [hka, ← hz0, hup]
                exact ⟨hinb2, hinb2, NEXT.mk (hZ (k + 1, P.set k.toNat z0) _ _ hnI hmu (.inl ⟨rfl, rfl⟩))⟩
              clear hK1 hK2 hK3 hkk
              have hn1 := hM.hn
              have hm1 := hM.hm
              refine PND.mk ⟨by obtain ⟨s, hs, _⟩ := hM.ex; exact ⟨s, hs⟩, hM.hq, by have := hM.hn; omega⟩ ?_
              intro sA hsA
              have hrA := hM.rr hsA
              have hlA := hsA.len
              have hvA : vw tPar n1 sA 0 n1 = sA := by rw [r18]; exact vw_allT (t := tPar) hlA
              have hgA : g2 sA sA = true := by rw [← hg2]; simp [eqPa]
              cbv
              refine RPN.mk ⟨sA, hrA, hM.hA, hmb, by omega, ?_⟩
              cbv
              try simp only [nc_eq] at *
              rw [hvA]
              refine ⟨⟨⟨by rw [r8]; exact Nat.le_of_eq (Nat.zero_add _)⟩, trivial⟩, Short_iff.2 (by omega), BR.mk (fun _ => ?_) fun h => by
                try dsimp only at h
                rw [hgA] at h
                exact absurd h (by simp)⟩
              have hicm : sent = ic m := by rw [r4]; exact hm1
              have hin1 : ic n1 = n1 := by rw [r4]
              refine BR.neq r0 (fun h => absurd hicm h) fun _ => ?_
              refine LOOP.ind (σ := Int × List tPar.den) (fun (k, _) => [(1, .tl ns tStep l), (6, .ptr 0 0), (8, .ptr 3 0), (11, .p (iv i)), (18, .ms 7 0 6 none n1), (19, .p (iv k))])
                (fun (_, P) => ⟨(linkS FM t sent N n1 q1).box ++ [{ cells := [.ms 4 0 1 none L, .p (iv t), .ms 5 0 6 none m, .ms 6 0 1 none m], e := 47, fz := false }, { cells := [.arr L tI f], e := 3, fz := false, ap := true }, { cells := [.arr m tPar A], e := 49, fz := false, ap := true }, { cells := [.arr m tB W2], e := 4, fz := false, ap := true }, { cells := [.arr n1 tPar P], e := 49, fz := false, ap := true }], []⟩)
                (fun (k, _) => (n1 - k).toNat) (fun (k, P) => 0 ≤ k ∧ k ≤ n1 ∧ P.length = n1) (0, sA) ⟨by omega, by show (0 : Int) ≤ _; omega, hlA⟩ (.inr ⟨[some 0, some 1, some 2, some 3, some 4, some 5, some 6, some 8], [], ?_⟩) ?_
              · rw [SIM_iff]; cbv; try simp [nlLe_self, lstEq]
              intro ⟨k, P⟩ hK X2 hY
              dsimp only at hK
              obtain ⟨hK1, hK2, hK3⟩ := hK
              clear hvA hgA
              have hup : ∀ z : tPar.den, up tPar n1 P k z = P.set k.toNat z := fun z => by rw [r15]; exact upR_len (t := tPar) hK3 k z
              cbv
              try simp only [nc_eq] at *
              rw [hin1]
              refine BR.lss r0 (fun hk1 => ?_) fun hk1 => ?_
              · have hinb : INB k (n1 : Int) := ⟨hK1, hk1⟩
                have hka : ar .add .i64 k 1 = k + 1 := by rw [r1]; exact wrap64 (n := k + 1) (by omega) (by omega)
                obtain ⟨z0, hz0⟩ : ∃ z : tPar.den, z = (0, 0, 0, 0, 0, 0) := ⟨_, rfl⟩
                have hnI : 0 ≤ k + 1 ∧ k + 1 ≤ (n1 : Int) ∧ (P.set k.toNat z0).length = n1 := ⟨by omega, by omega, by rw [List.length_set]; exact hK3⟩
                have hmu : (n1 - (k + 1) : Int).toNat < (n1 - k : Int).toNat := by omega
                rw [hka, ← hz0, hup]
                exact ⟨hinb, hinb, NEXT.mk (hY (k + 1, P.set k.toNat z0) _ _ hnI hmu (.inl ⟨rfl, rfl⟩))⟩
              · clear hY hup
                refine PND.mk ⟨by obtain ⟨s, hs, _⟩ := hM.ex; exact ⟨s, hs⟩, hM.hq, by have := hM.hn; omega⟩ ?_
                intro sA hsA
                have hrA := hM.rr hsA
                have hlA := hsA.len
                have hvA : vw tPar n1 sA 0 n1 = sA := by rw [r18]; exact vw_allT (t := tPar) hlA
                have hgA : g2 sA sA = true := by rw [← hg2]; simp [eqPa]
                cbv
                refine RPN.mk ⟨sA, hrA, hM.hA, hmb, by omega, ?_⟩
                cbv
                try simp only [nc_eq] at *
                rw [hvA]
                refine ⟨⟨⟨by rw [r8]; exact Nat.le_of_eq (Nat.zero_add _)⟩, trivial⟩, Short_iff.2 (by omega), BR.mk (fun _ => ?_) fun h => by
                  try dsimp only at h
                  rw [hgA] at h
                  exact absurd h (by simp)⟩
                have hnI : 0 ≤ i + 1 ∧ i + 1 ≤ (l.length : Int) ∧ i + 1 ≤ 90 ∧ sent ≤ i + 1 ∧ MI f sent N n1 q1 m A W2 := ⟨by omega, by omega, by omega, hsb, hM⟩
                have hmu : (l.length - (i + 1) : Int).toNat < (l.length - i : Int).toNat := by omega
                rw [hia]
                refine NEXT.mk (hX (i + 1, (t, sent, N, n1, q1), some (m, A, W2)) _ _ hnI hmu (.inr ⟨[some 0, some 1, some 2, some 3, some 4, some 5, some 6], [], ?_⟩))
                rw [SIM_iff]; cbv; try simp [nlLe_self, lstEq]
          · obtain ⟨e, he⟩ : ∃ e, e = atM now t := ⟨_, rfl⟩
            rw [← he] at hat
            have hM : MI f sent N n q m A W := hI5
            have hsb : sent ≤ i + 1 := by omega
            have hmb : m ≤ 1000 := by omega
            refine ⟨.inl ⟨e, he, hat, ?_⟩⟩
            cbv
            refine RHE.err e he hat ?_
            cbv
            refine BR.nn r0 ⟨Short_iff.2 (by simp), BR.mk (fun _ => ?_) fun h => by
              try dsimp only at h
              rw [hg10] at h
              exact absurd h (by simp)⟩
            refine LOOP.ind (σ := Unit) (fun _ => _) (fun _ => _) (fun _ => 0) (fun _ => True) () trivial (.inl ⟨rfl, rfl⟩) ?_
            intro _ _ X3 hX3
            cbv
            rw [hi0]
            refine BR.lss r0 (fun h => absurd h (by decide)) fun _ => ?_
            have hn1 := hM.hn
            have hm1 := hM.hm
            refine PND.mk ⟨by obtain ⟨s, hs, _⟩ := hM.ex; exact ⟨s, hs⟩, hM.hq, by have := hM.hn; omega⟩ ?_
            intro sA hsA
            have hrA := hM.rr hsA
            have hlA := hsA.len
            have hvA : vw tPar n sA 0 n = sA := by rw [r18]; exact vw_allT (t := tPar) hlA
            have hgA : g2 sA sA = true := by rw [← hg2]; simp [eqPa]
            cbv
            refine RPN.mk ⟨sA, hrA, hM.hA, hmb, by omega, ?_⟩
            cbv
            try simp only [nc_eq] at *
            rw [hvA]
            refine ⟨⟨⟨by rw [r8]; exact Nat.le_of_eq (Nat.zero_add _)⟩, trivial⟩, Short_iff.2 (by omega), BR.mk (fun _ => ?_) fun h => by
              try dsimp only at h
              rw [hgA] at h
              exact absurd h (by simp)⟩
            have hicm : sent = ic m := by rw [r4]; exact hm1
            have hin1 : ic n = n := by rw [r4]
            refine BR.neq r0 (fun h => absurd hicm h) fun _ => ?_
            refine LOOP.ind (σ := Int × List tPar.den) (fun (k, _) => [(1, .tl ns tStep l), (6, .ptr 0 0), (8, .ptr 3 0), (11, .p (iv i)), (18, .ms 7 0 6 none n), (19, .p (iv k))])
              (fun (_, P) => ⟨(linkS FM now sent N n q).box ++ [{ cells := [.ms 4 0 1 none L, .p (iv now), .ms 5 0 6 none m, .ms 6 0 1 none m], e := 47, fz := false }, { cells := [.arr L tI f], e := 3, fz := false, ap := true }, { cells := [.arr m tPar A], e := 49, fz := false, ap := true }, { cells := [.arr m tB W], e := 4, fz := false, ap := true }, { cells := [.arr n tPar P], e := 49, fz := false, ap := true }], []⟩)
              (fun (k, _) => (n - k).toNat) (fun (k, P) => 0 ≤ k ∧ k ≤ n ∧ P.length = n) (0, sA) ⟨by omega, by show (0 : Int) ≤ _; omega, hlA⟩ (.inr ⟨[some 0, some 1, some 2, some 3, some 4, some 5, some 6, some 8], [], ?_⟩) ?_
            · rw [SIM_iff]; cbv; try simp [nlLe_self, lstEq]
            intro ⟨k, P⟩ hK X2 hY
            dsimp only at hK
            obtain ⟨hK1, hK2, hK3⟩ := hK
            clear hvA hgA
            have hup : ∀ z : tPar.den, up tPar n P k z = P.set k.toNat z := fun z => by rw [r15]; exact upR_len (t := tPar) hK3 k z
            cbv
            try simp only [nc_eq] at *
            rw [hin1]
            refine BR.lss r0 (fun hk1 => ?_) fun hk1 => ?_
            · have hinb : INB k (n : Int) := ⟨hK1, hk1⟩
              have hka : ar .add .i64 k 1 = k + 1 := by rw [r1]; exact wrap64 (n := k + 1) (by omega) (by omega)
              obtain ⟨z0, hz0⟩ : ∃ z : tPar.den, z = (0, 0, 0, 0, 0, 0) := ⟨_, rfl⟩
              have hnI : 0 ≤ k + 1 ∧ k + 1 ≤ (n : Int) ∧ (P.set k.toNat z0).length = n := ⟨by omega, by omega, by rw [List.length_set]; exact hK3⟩
              have hmu : (n - (k + 1) : Int).toNat < (n - k : Int).toNat := by omega
              rw [hka, ← hz0, hup]
              exact ⟨hinb, hinb, NEXT.mk (hY (k + 1, P.set k.toNat z0) _ _ hnI hmu (.inl ⟨rfl, rfl⟩))⟩
            · clear hY hup
              refine PND.mk ⟨by obtain ⟨s, hs, _⟩ := hM.ex; exact ⟨s, hs⟩, hM.hq, by have := hM.hn; omega⟩ ?_
              intro sA hsA
              have hrA := hM.rr hsA
              have hlA := hsA.len
              have hvA : vw tPar n sA 0 n = sA := by rw [r18]; exact vw_allT (t := tPar) hlA
              have hgA : g2 sA sA = true := by rw [← hg2]; simp [eqPa]
              cbv
              refine RPN.mk ⟨sA, hrA, hM.hA, hmb, by omega, ?_⟩
              cbv
              try simp only [nc_eq] at *
              rw [hvA]
              refine ⟨⟨⟨by rw [r8]; exact Nat.le_of_eq (Nat.zero_add _)⟩, trivial⟩, Short_iff.2 (by omega), BR.mk (fun _ => ?_) fun h => by
                try dsimp only at h
                rw [hgA] at h
                exact absurd h (by simp)⟩
              have hnI : 0 ≤ i + 1 ∧ i + 1 ≤ (l.length : Int) ∧ i + 1 ≤ 90 ∧ sent ≤ i + 1 ∧ MI f sent N n q m A W := ⟨by omega, by omega, by omega, hsb, hM⟩
              have hmu : (l.length - (i + 1) : Int).toNat < (l.length - i : Int).toNat := by omega
              rw [hia]
              refine NEXT.mk (hX (i + 1, (now, sent, N, n, q), some (m, A, W)) _ _ hnI hmu (.inr ⟨[some 0, some 1, some 2, some 3, some 4, some 5, some 6], [], ?_⟩))
              rw [SIM_iff]; cbv; try simp [nlLe_self, lstEq]
theorem matches_typed : ∀ xs, TyVs Try.prog [22, 23] xs → PurFn Try.prog 3 (xs.map .p) (.v (.bool true)) := law2 (P := Try.prog) (f := 3) (t1 := 22) (t2 := 23) (T1 := .sl tI) (T2 := .sl tStep) (by kernel_rfl) fun f l hf hl => lawMatches f.1 f.2 l.1 l.2 hf.1 hl.1
end Go.Ab

