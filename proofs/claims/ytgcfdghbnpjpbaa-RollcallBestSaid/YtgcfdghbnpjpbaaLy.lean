/- RollcallBest. -/
import Derived.Test.YtgcfdghbnpjpbaaLx
set_option linter.unusedSimpArgs false
set_option linter.unusedVariables false
set_option maxRecDepth 20000
set_option maxHeartbeats 8000000
namespace Go.Ab
open Go.Proofs
structure IFB (x y : Int) (b : Bool) : Prop where
 h : x = y ↔ b = true
theorem BR.eqT {cmp : BinOp → Int → Int → Bool} (h : cmp = cmpR) {x y : Int} {A B : Prop} (e : IFB x y true) (t : A) : BR (cmp .eql x y) A B := BR.eql h (fun _ => t) fun h => absurd (e.h.2 rfl) h
theorem BR.eqF {cmp : BinOp → Int → Int → Bool} (h : cmp = cmpR) {x y : Int} {A B : Prop} (e : IFB x y false) (t : B) : BR (cmp .eql x y) A B := BR.eql h (fun h => Bool.noConfusion (e.h.1 h)) fun _ => t
theorem shl9 {L : Int} (h : 0 ≤ L ∧ L ≤ 9) : 0 ≤ arR .shl .i64 1 L ∧ arR .shl .i64 1 L ≤ 512 := by
 have : L = 0 ∨ L = 1 ∨ L = 2 ∨ L = 3 ∨ L = 4 ∨ L = 5 ∨ L = 6 ∨ L = 7 ∨ L = 8 ∨ L = 9 := by omega
 rcases this with rfl | rfl | rfl | rfl | rfl | rfl | rfl | rfl | rfl | rfl <;> decide
structure FITP (l : List DUE) (s cy per : Int) : Prop where
 h : Short 2000 l
 b : 0 ≤ s ∧ (0 ≤ cy ∧ cy ≤ 64) ∧ 0 ≤ per ∧ per ≤ 64
theorem cFitsT (nl : Option Bool) (l : List DUE) (s cy per : Int) (h : FITP l s cy per) : PurS Try.prog 23 [injT (.sl tDue) (nl, l), injT tI s, injT tI cy, injT tI per] (.sb (fitM l s cy per)) := cFits nl l s cy per h.h h.b
theorem lawBest (nl : Option Bool) (l : List DUE) (cy per : Int) : PurS Try.prog 5 [injT (.sl tDue) (nl, l), injT tI cy, injT tI per] (.sb true) := by
 refine PurS.of (S := [(9, _), (11, _), (21, _), (13, _), (23, _)]) (T := []) (U := []) (tbl := []) (n := 122) hm15 cfg (.cons (spT0.ok cAwake) (.cons (spT3.ok (a := (.sl (.pair (.int .i64) (.pair (.int .i64) (.int .i64))))) (b := (.int .i64)) (c := (.int .i64)) fun x0 x1 x2 h => cPlan x0.1 x0.2 x1 x2 h) (.cons (spT3.ok (a := (.sl (.pair (.int .i64) (.pair (.int .i64) (.int .i64))))) (b := (.sl (.sl (.int .i64)))) (c := (.int .i64)) fun x0 x1 x2 h => cWorthT x0.1 x0.2 x1.1 x1.2 x2 h) (.cons (spT3.ok (a := (.sl (.pair (.int .i64) (.pair (.int .i64) (.int .i64))))) (b := (.int .i64)) (c := (.int .i64)) fun x0 x1 x2 h => cWhole x0.1 x0.2 x1 x2 h) (.cons (spT4.ok (a := (.sl (.pair (.int .i64) (.pair (.int .i64) (.int .i64))))) (b := (.int .i64)) (c := (.int .i64)) (d := (.int .i64)) fun x0 x1 x2 x3 h => cFitsT x0.1 x0.2 x1 x2 x3 h) .nil))))) .nil .nil .nil 0 Try.call5 Try.func5 (ac5_ok (some (0, 0))) (by rw [Try.ntmps5]; exact Nat.le_refl _) rfl ⟨_, rfl⟩ ?_
 intro cmp ar cv tn ic ai mx an ad ml sb mn ln em gt up ap sc vw cp rp p1 p2 s1 s2 X Y hX hY r0 r1 r2 r3 r4 r5 r6 r7 r8 r9 r10 r11 r12 r13 r14 r15 r16 r17 r18 r19 r20 r21 r22 r23 r24
 generalize hg0 : planR = g0
 generalize hg1 : wrnM = g1
 generalize hg2 : worM = g2
 generalize hg3 : whoM = g3
 generalize hg4 : fitM = g4
 cbv
 have hla : ic (ln tDue l) = (l.length : Int) := by rw [r4, r12]
 refine BR.gtr r0 (fun _ => trivial) fun h9 => ?_
 rw [hla] at h9
 have hs : Short 2000 l := ⟨by omega⟩
 obtain ⟨R, hR⟩ : ∃ R, R = g0 l cy per := ⟨_, rfl⟩
 have hRl : ic (ln tRow R) = (R.length : Int) := by rw [r4, r12]
 have hno : g1 l cy per ≠ 0 → R = [] := fun h => by rw [hR, ← hg0]; exact if_pos (by rw [hg1]; exact h)
 have hok : ¬ g1 l cy per ≠ 0 → wrnM l cy per = 0 := fun h => by rw [hg1]; exact Classical.not_not.1 h
 show Short 2000 l ∧ BR (cmp .neq (g1 l cy per) 0) (BR (cmp .eql (ic (ln tRow (g0 l cy per))) 0) True (false = true)) (Short 2000 l ∧ Short 2000 l ∧ BR (g3 l cy per) (LOOP _ _ _ _ [(0, .tl nl tDue l), (1, .p (iv cy)), (2, .p (iv per)), (7, .tl none tRow (g0 l cy per)), (9, .p (iv (g2 l (g0 l cy per) per).1)), (10, .p (iv (g2 l (g0 l cy per) per).2)), (11, .p (.v (.bool true))), (12, .p (iv (g1 l cy per))), (13, .p (iv 0)), (14, .p (iv 0))] ⟨[], []⟩)
   (LOOP _ _ _ _ [(0, .tl nl tDue l), (1, .p (iv cy)), (2, .p (iv per)), (7, .tl none tRow (g0 l cy per)), (9, .p (iv (g2 l (g0 l cy per) per).1)), (10, .p (iv (g2 l (g0 l cy per) per).2)), (11, .p (.v (.bool false))), (12, .p (iv (g1 l cy per))), (13, .p (iv 0)), (14, .p (iv 0))] ⟨[], []⟩))
 rw [← hR]
 refine ⟨hs, BR.neq r0 (fun he => BR.eql r0 (fun _ => trivial) fun h => absurd (by rw [hRl, hno he]; rfl) h) fun he => ?_⟩
 have hw := hok he
 obtain ⟨_, hD, hcy, hper⟩ := wrnM_ok hw
 have he0 : g1 l cy per = 0 := Classical.not_not.1 he
 rw [he0]
 obtain ⟨n, hn⟩ : ∃ n, n = (worM l (planR l cy per) per).1 := ⟨_, rfl⟩
 have hwor : g2 l R per = (n, 0) := by rw [hR, ← hg0, ← hg2, hn]; exact Prod.ext rfl (by rw [worM_plan hw])
 rw [hwor]
 have hPS : PSH R := by rw [hR, ← hg0]; exact planR_shape l cy per
 have hlen : (R.length : Int) = cy := by rw [hR, ← hg0]; exact planR_len hw
 obtain ⟨L, hL⟩ : ∃ L : Int, L = l.length := ⟨_, rfl⟩
 rw [← hL] at hla h9
 have hwho : g3 l cy per = decide (totR R = L) := by
   rw [← hg3, hR, ← hg0, hL]
   unfold whoM
   rw [hw]
   simp
 have hbest : ∀ s, 0 ≤ s → g4 l s cy per = true → sumZ s 0 l ≤ n := fun s h0 h1 => by rw [hn]; exact best_set hw h0 (by rw [hg4]; exact h1)
 have hwt : ∀ x ∈ l, 0 ≤ x.2.2 ∧ x.2.2 ≤ 1048576 := fun x hx => (badD_not (hD.b x hx)).2.2
 have hL0 : 0 ≤ L ∧ L ≤ 9 := by omega
 refine ⟨hs, hs, BR.mk (fun hb => ?_) fun hb => ?_⟩
 · rw [hwho] at hb
   refine LOOP.ind (σ := Int × Int) (fun (i, d) => [(0, .tl nl tDue l), (1, .p (iv cy)), (2, .p (iv per)), (7, .tl none tRow R), (9, .p (iv n)), (10, .p (iv 0)), (11, .p (.v (.bool true))), (12, .p (iv 0)), (13, .p (iv d)), (14, .p (iv i))]) (fun _ => ⟨[], []⟩) (fun (i, d) => (cy - i).toNat)
     (fun (i, d) => (0 ≤ i ∧ i ≤ cy) ∧ (0 ≤ d ∧ d ≤ i * 64) ∧ d + totR (R.drop i.toNat) = totR R) (0, 0) ⟨⟨by omega, by omega⟩, ⟨by omega, by omega⟩, by show 0 + totR (R.drop (0 : Int).toNat) = totR R; simp⟩ (.inl ⟨rfl, rfl⟩) ?_
   intro ⟨i, d⟩ hI X' hX
   dsimp only at hI
   obtain ⟨⟨hI1, hI2⟩, ⟨hn1, hn2⟩, hI3⟩ := hI
   obtain ⟨⟨xn, x⟩, hx⟩ : ∃ x : ROW, x = gt tRow R i := ⟨_, rfl⟩
   have hgx : gtR tRow R i = (xn, x) := by rw [hx, r14]
   have hst : i < cy → d + (x.length + totR (R.drop (i + 1).toNat)) = totR R ∧ x.length ≤ 64 := fun h => by
     rw [← hI3, gtR_drop (t := tRow) hI1 (by omega), hgx]
     exact ⟨rfl, hPS.b (xn, x) (gtR_mem' (t := tRow) hI1 (by omega) hgx)⟩
   have hend : ¬ i < cy → d = totR R := fun h => by
     rw [← hI3, gtR_end (by omega)]; exact (Int.add_zero d).symm
   have e2 : s2 tI (xn, x) = x := by rw [r24]
   obtain ⟨u, hu⟩ : ∃ u : Int, u = x.length := ⟨_, rfl⟩
   have hlx : ic (ln tI x) = u := by rw [r4, r12, hu]
   have hadd : i < cy → ar .add .i64 i 1 = i + 1 := fun h => by rw [r1]; exact wrap64 (n := i + 1) (by omega) (by omega)
   have hadd2 : i < cy → ar .add .i64 d u = d + u := fun h => by have := hst h; rw [r1]; exact wrap64 (n := d + u) (by omega) (by omega)
   have hX2 : i < cy → NEXT X' [(0, .tl nl tDue l), (1, .p (iv cy)), (2, .p (iv per)), (7, .tl none tRow R), (9, .p (iv n)), (10, .p (iv 0)), (11, .p (.v (.bool true))), (12, .p (iv 0)), (13, .p (iv (d + u))), (14, .p (iv (i + 1)))] ⟨[], []⟩ := fun h => by
     have h2 := hst h
     exact NEXT.mk (hX (i + 1, d + u) _ _ ⟨⟨by show 0 ≤ i + 1; omega, by show i + 1 ≤ cy; omega⟩, ⟨by show 0 ≤ d + u; omega, by show d + u ≤ (i + 1) * 64; omega⟩, by show (d + u) + totR (R.drop (i + 1).toNat) = totR R; omega⟩ (by show (cy - (i + 1)).toNat < (cy - i).toNat; omega) (.inl ⟨rfl, rfl⟩))
   have hfin : ¬ i < cy → IFB d L true := fun h => by
     rw [hend h]; exact ⟨⟨fun e => hb.symm.trans (decide_eq_true e), fun e => of_decide_eq_true (hb.trans e)⟩⟩
   have hcv : cv .u64 L = L := by rw [r2]; exact wrapU (by omega) (by omega)
   obtain ⟨M, hM⟩ : ∃ M, M = ar .shl .i64 1 (cv .u64 L) := ⟨_, rfl⟩
   have hM0 : 0 ≤ M ∧ M ≤ 512 := by rw [hM, hcv, r1]; exact shl9 hL0
   clear hI3 hX hst hend hb
   cbv
   try simp only [nc_eq] at *
   rw [hRl, hlen, hla, ← hx, e2, hlx]
   refine BR.lss r0 (fun hc => ?_) (fun hc => ?_)
   · rw [hadd hc, hadd2 hc]
     exact ⟨⟨hI1, hc⟩, ⟨hI1, hc⟩, hX2 hc⟩
   refine BR.nn r0 (BR.nn r0 (BR.nn r0 ?_))
   have hfin := hfin hc
   refine BR.eqT r0 hfin ?_
   clear hX2 hadd hadd2 hfin hgx hx hlx hu hn1 hn2 hc hI1 hI2 e2
   refine LOOP.ind (σ := Int) (fun s => [(0, .tl nl tDue l), (1, .p (iv cy)), (2, .p (iv per)), (9, .p (iv n)), (15, .p (iv s))]) (fun _ => ⟨[], []⟩) (fun s => (M - s).toNat) (fun s => 0 ≤ s ∧ s ≤ M) 0 ⟨by omega, by omega⟩ (.inl ⟨rfl, rfl⟩) ?_
   intro s hJ X3 hX3
   obtain ⟨hs1, hs2⟩ := hJ
   cbv
   try simp only [nc_eq] at *
   rw [hla, ← hM]
   refine ⟨⟨by rw [hcv]; exact hL0.1⟩, BR.lss r0 (fun hc => ?_) fun _ => trivial⟩
   obtain ⟨z0, hz0⟩ : ∃ z0, z0 = sumZ s 0 l := ⟨_, rfl⟩
   have hbest := hbest s hs1
   rw [← hz0] at hbest
   obtain ⟨ft, hft⟩ : ∃ ft, ft = g4 l s cy per := ⟨_, rfl⟩
   rw [← hft] at hbest
   have hads : ar .add .i64 s 1 = s + 1 := by rw [r1]; exact wrap64 (n := s + 1) (by omega) (by omega)
   have hFP : FITP l s cy per := ⟨hs, hs1, hcy, hper⟩
   have hX4 : NEXT X3 [(0, .tl nl tDue l), (1, .p (iv cy)), (2, .p (iv per)), (9, .p (iv n)), (15, .p (iv (s + 1)))] ⟨[], []⟩ := NEXT.mk (hX3 (s + 1) _ _ ⟨by omega, by omega⟩ (by omega) (.inl ⟨rfl, rfl⟩))
   clear hX3
   refine LOOP.ind (σ := Int × Int) (fun (i, d) => [(0, .tl nl tDue l), (1, .p (iv cy)), (2, .p (iv per)), (9, .p (iv n)), (15, .p (iv s)), (16, .p (iv d)), (17, .p (iv i))]) (fun _ => ⟨[], []⟩) (fun (i, d) => (L - i).toNat)
     (fun (i, d) => (0 ≤ i ∧ i ≤ L) ∧ (0 ≤ d ∧ d ≤ i * 1048576) ∧ d + sumZ s i.toNat (l.drop i.toNat) = z0) (0, 0) ⟨⟨by omega, by omega⟩, ⟨by omega, by omega⟩, by rw [hz0]; show 0 + sumZ s (0 : Int).toNat (l.drop (0 : Int).toNat) = _; simp⟩ (.inl ⟨rfl, rfl⟩) ?_
   intro ⟨i, d⟩ hJ X2 hX2
   dsimp only at hJ
   obtain ⟨⟨hi1, hi2⟩, ⟨hd1, hd2⟩, hJ⟩ := hJ
   obtain ⟨⟨a, la, w⟩, hx⟩ : ∃ x : DUE, x = gt tDue l i := ⟨_, rfl⟩
   have hgx : gtR tDue l i = (a, la, w) := by rw [hx, r14]
   have hst : i < L → l.drop i.toNat = (a, la, w) :: l.drop (i + 1).toNat := fun h => by rw [hx, r14]; exact gtR_drop (t := tDue) hi1 (by omega)
   have hend : ¬ i < L → d = z0 := fun h => by
     rw [← hJ, gtR_end (by omega)]; exact (Int.add_zero d).symm
   have q3 : p2 tI tI (p2 tI (.pair tI tI) (a, la, w)) = w := by rw [r22]
   have hww : i < L → 0 ≤ w ∧ w ≤ 1048576 := fun h => hwt (a, la, w) (gtR_mem' (t := tDue) hi1 (by omega) hgx)
   have hcvi : i < L → cv .u64 i = i := fun h => by rw [r2]; exact wrapU (by omega) (by omega)
   obtain ⟨bt, hbt⟩ : ∃ bt, bt = bitZ s i.toNat := ⟨_, rfl⟩
   have hb01 : bt = 0 ∨ bt = 1 := by rw [hbt]; exact bitZ_01 hs1 _
   have hbit : ar .rem .i64 (ar .shr .i64 s i) 2 = bt := by rw [r1, hbt]; rfl
   obtain ⟨bw, hbw⟩ : ∃ bw, bw = bt * w := ⟨_, rfl⟩
   have hbwb : i < L → 0 ≤ bw ∧ bw ≤ 1048576 := fun h => by
     have := hww h
     rcases hb01 with e | e
     · rw [hbw, e, Int.zero_mul]; omega
     · rw [hbw, e, Int.one_mul]; omega
   have hmul : i < L → ar .mul .i64 bt w = bw := fun h => by
     have := hbwb h
     rw [r1]; exact (wrap64 (n := bt * w) (by omega) (by omega)).trans hbw.symm
   have hadi : i < L → ar .add .i64 i 1 = i + 1 := fun h => by rw [r1]; exact wrap64 (n := i + 1) (by omega) (by omega)
   have hadd : i < L → ar .add .i64 d bw = d + bw := fun h => by have := hbwb h; rw [r1]; exact wrap64 (n := d + bw) (by omega) (by omega)
   have hnx : i < L → NEXT X2 [(0, .tl nl tDue l), (1, .p (iv cy)), (2, .p (iv per)), (9, .p (iv n)), (15, .p (iv s)), (16, .p (iv (d + bw))), (17, .p (iv (i + 1)))] ⟨[], []⟩ := fun h => by
     have h2 := hbwb h
     refine NEXT.mk (hX2 (i + 1, d + bw) _ _ ⟨⟨by show 0 ≤ i + 1; omega, by show i + 1 ≤ L; omega⟩, ⟨by show 0 ≤ d + bw; omega, by show d + bw ≤ (i + 1) * 1048576; omega⟩, ?_⟩ (by show (L - (i + 1)).toNat < (L - i).toNat; omega) (.inl ⟨rfl, rfl⟩))
     show (d + bw) + sumZ s (i + 1).toNat (l.drop (i + 1).toNat) = z0
     rw [← hJ, hst h, sumZ, ← hbt, hbw, show (i + 1).toNat = i.toNat + 1 by omega, Int.add_assoc]
   clear hX2 hJ hst hbt hbw
   cbv
   try simp only [nc_eq] at *
   rw [hla, ← hx, q3]
   refine BR.lss r0 (fun hil => ?_) fun hil => ?_
   · have hin : INB i L := ⟨hi1, hil⟩
     rw [hcvi hil, hbit, hmul hil, hadd hil, hadi hil]
     exact ⟨⟨hi1⟩, ⟨by decide⟩, hin, hin, hnx hil⟩
   · rw [hend hil, hads, ← hft]
     refine BR.gtr r0 (fun h => ?_) fun _ => hX4
     exact ⟨hFP, BR.mk (fun hf => absurd (hbest hf) (by omega)) fun _ => hX4⟩
 · rw [hwho] at hb
   refine LOOP.ind (σ := Int × Int) (fun (i, d) => [(0, .tl nl tDue l), (1, .p (iv cy)), (2, .p (iv per)), (7, .tl none tRow R), (9, .p (iv n)), (10, .p (iv 0)), (11, .p (.v (.bool false))), (12, .p (iv 0)), (13, .p (iv d)), (14, .p (iv i))]) (fun _ => ⟨[], []⟩) (fun (i, d) => (cy - i).toNat)
     (fun (i, d) => (0 ≤ i ∧ i ≤ cy) ∧ (0 ≤ d ∧ d ≤ i * 64) ∧ d + totR (R.drop i.toNat) = totR R) (0, 0) ⟨⟨by omega, by omega⟩, ⟨by omega, by omega⟩, by show 0 + totR (R.drop (0 : Int).toNat) = totR R; simp⟩ (.inl ⟨rfl, rfl⟩) ?_
   intro ⟨i, d⟩ hI X' hX
   dsimp only at hI
   obtain ⟨⟨hI1, hI2⟩, ⟨hn1, hn2⟩, hI3⟩ := hI
   obtain ⟨⟨xn, x⟩, hx⟩ : ∃ x : ROW, x = gt tRow R i := ⟨_, rfl⟩
   have hgx : gtR tRow R i = (xn, x) := by rw [hx, r14]
   have hst : i < cy → d + (x.length + totR (R.drop (i + 1).toNat)) = totR R ∧ x.length ≤ 64 := fun h => by
     rw [← hI3, gtR_drop (t := tRow) hI1 (by omega), hgx]
     exact ⟨rfl, hPS.b (xn, x) (gtR_mem' (t := tRow) hI1 (by omega) hgx)⟩
   have hend : ¬ i < cy → d = totR R := fun h => by
     rw [← hI3, gtR_end (by omega)]; exact (Int.add_zero d).symm
   have e2 : s2 tI (xn, x) = x := by rw [r24]
   obtain ⟨u, hu⟩ : ∃ u : Int, u = x.length := ⟨_, rfl⟩
   have hlx : ic (ln tI x) = u := by rw [r4, r12, hu]
   have hadd : i < cy → ar .add .i64 i 1 = i + 1 := fun h => by rw [r1]; exact wrap64 (n := i + 1) (by omega) (by omega)
   have hadd2 : i < cy → ar .add .i64 d u = d + u := fun h => by have := hst h; rw [r1]; exact wrap64 (n := d + u) (by omega) (by omega)
   have hX2 : i < cy → NEXT X' [(0, .tl nl tDue l), (1, .p (iv cy)), (2, .p (iv per)), (7, .tl none tRow R), (9, .p (iv n)), (10, .p (iv 0)), (11, .p (.v (.bool false))), (12, .p (iv 0)), (13, .p (iv (d + u))), (14, .p (iv (i + 1)))] ⟨[], []⟩ := fun h => by
     have h2 := hst h
     exact NEXT.mk (hX (i + 1, d + u) _ _ ⟨⟨by show 0 ≤ i + 1; omega, by show i + 1 ≤ cy; omega⟩, ⟨by show 0 ≤ d + u; omega, by show d + u ≤ (i + 1) * 64; omega⟩, by show (d + u) + totR (R.drop (i + 1).toNat) = totR R; omega⟩ (by show (cy - (i + 1)).toNat < (cy - i).toNat; omega) (.inl ⟨rfl, rfl⟩))
   have hfin : ¬ i < cy → IFB d L false := fun h => by
     rw [hend h]; exact ⟨⟨fun e => hb.symm.trans (decide_eq_true e), fun e => of_decide_eq_true (hb.trans e)⟩⟩
   have hcv : cv .u64 L = L := by rw [r2]; exact wrapU (by omega) (by omega)
   obtain ⟨M, hM⟩ : ∃ M, M = ar .shl .i64 1 (cv .u64 L) := ⟨_, rfl⟩
   have hM0 : 0 ≤ M ∧ M ≤ 512 := by rw [hM, hcv, r1]; exact shl9 hL0
   clear hI3 hX hst hend hb
   cbv
   try simp only [nc_eq] at *
   rw [hRl, hlen, hla, ← hx, e2, hlx]
   refine BR.lss r0 (fun hc => ?_) (fun hc => ?_)
   · rw [hadd hc, hadd2 hc]
     exact ⟨⟨hI1, hc⟩, ⟨hI1, hc⟩, hX2 hc⟩
   refine BR.nn r0 (BR.nn r0 (BR.nn r0 ?_))
   have hfin := hfin hc
   refine BR.eqF r0 hfin ?_
   clear hX2 hadd hadd2 hfin hgx hx hlx hu hn1 hn2 hc hI1 hI2 e2
   refine LOOP.ind (σ := Int) (fun s => [(0, .tl nl tDue l), (1, .p (iv cy)), (2, .p (iv per)), (9, .p (iv n)), (15, .p (iv s))]) (fun _ => ⟨[], []⟩) (fun s => (M - s).toNat) (fun s => 0 ≤ s ∧ s ≤ M) 0 ⟨by omega, by omega⟩ (.inl ⟨rfl, rfl⟩) ?_
   intro s hJ X3 hX3
   obtain ⟨hs1, hs2⟩ := hJ
   cbv
   try simp only [nc_eq] at *
   rw [hla, ← hM]
   refine ⟨⟨by rw [hcv]; exact hL0.1⟩, BR.lss r0 (fun hc => ?_) fun _ => trivial⟩
   obtain ⟨z0, hz0⟩ : ∃ z0, z0 = sumZ s 0 l := ⟨_, rfl⟩
   have hbest := hbest s hs1
   rw [← hz0] at hbest
   obtain ⟨ft, hft⟩ : ∃ ft, ft = g4 l s cy per := ⟨_, rfl⟩
   rw [← hft] at hbest
   have hads : ar .add .i64 s 1 = s + 1 := by rw [r1]; exact wrap64 (n := s + 1) (by omega) (by omega)
   have hFP : FITP l s cy per := ⟨hs, hs1, hcy, hper⟩
   have hX4 : NEXT X3 [(0, .tl nl tDue l), (1, .p (iv cy)), (2, .p (iv per)), (9, .p (iv n)), (15, .p (iv (s + 1)))] ⟨[], []⟩ := NEXT.mk (hX3 (s + 1) _ _ ⟨by omega, by omega⟩ (by omega) (.inl ⟨rfl, rfl⟩))
   clear hX3
   refine LOOP.ind (σ := Int × Int) (fun (i, d) => [(0, .tl nl tDue l), (1, .p (iv cy)), (2, .p (iv per)), (9, .p (iv n)), (15, .p (iv s)), (16, .p (iv d)), (17, .p (iv i))]) (fun _ => ⟨[], []⟩) (fun (i, d) => (L - i).toNat)
     (fun (i, d) => (0 ≤ i ∧ i ≤ L) ∧ (0 ≤ d ∧ d ≤ i * 1048576) ∧ d + sumZ s i.toNat (l.drop i.toNat) = z0) (0, 0) ⟨⟨by omega, by omega⟩, ⟨by omega, by omega⟩, by rw [hz0]; show 0 + sumZ s (0 : Int).toNat (l.drop (0 : Int).toNat) = _; simp⟩ (.inl ⟨rfl, rfl⟩) ?_
   intro ⟨i, d⟩ hJ X2 hX2
   dsimp only at hJ
   obtain ⟨⟨hi1, hi2⟩, ⟨hd1, hd2⟩, hJ⟩ := hJ
   obtain ⟨⟨a, la, w⟩, hx⟩ : ∃ x : DUE, x = gt tDue l i := ⟨_, rfl⟩
   have hgx : gtR tDue l i = (a, la, w) := by rw [hx, r14]
   have hst : i < L → l.drop i.toNat = (a, la, w) :: l.drop (i + 1).toNat := fun h => by rw [hx, r14]; exact gtR_drop (t := tDue) hi1 (by omega)
   have hend : ¬ i < L → d = z0 := fun h => by
     rw [← hJ, gtR_end (by omega)]; exact (Int.add_zero d).symm
   have q3 : p2 tI tI (p2 tI (.pair tI tI) (a, la, w)) = w := by rw [r22]
   have hww : i < L → 0 ≤ w ∧ w ≤ 1048576 := fun h => hwt (a, la, w) (gtR_mem' (t := tDue) hi1 (by omega) hgx)
   have hcvi : i < L → cv .u64 i = i := fun h => by rw [r2]; exact wrapU (by omega) (by omega)
   obtain ⟨bt, hbt⟩ : ∃ bt, bt = bitZ s i.toNat := ⟨_, rfl⟩
   have hb01 : bt = 0 ∨ bt = 1 := by rw [hbt]; exact bitZ_01 hs1 _
   have hbit : ar .rem .i64 (ar .shr .i64 s i) 2 = bt := by rw [r1, hbt]; rfl
   obtain ⟨bw, hbw⟩ : ∃ bw, bw = bt * w := ⟨_, rfl⟩
   have hbwb : i < L → 0 ≤ bw ∧ bw ≤ 1048576 := fun h => by
     have := hww h
     rcases hb01 with e | e
     · rw [hbw, e, Int.zero_mul]; omega
     · rw [hbw, e, Int.one_mul]; omega
   have hmul : i < L → ar .mul .i64 bt w = bw := fun h => by
     have := hbwb h
     rw [r1]; exact (wrap64 (n := bt * w) (by omega) (by omega)).trans hbw.symm
   have hadi : i < L → ar .add .i64 i 1 = i + 1 := fun h => by rw [r1]; exact wrap64 (n := i + 1) (by omega) (by omega)
   have hadd : i < L → ar .add .i64 d bw = d + bw := fun h => by have := hbwb h; rw [r1]; exact wrap64 (n := d + bw) (by omega) (by omega)
   have hnx : i < L → NEXT X2 [(0, .tl nl tDue l), (1, .p (iv cy)), (2, .p (iv per)), (9, .p (iv n)), (15, .p (iv s)), (16, .p (iv (d + bw))), (17, .p (iv (i + 1)))] ⟨[], []⟩ := fun h => by
     have h2 := hbwb h
     refine NEXT.mk (hX2 (i + 1, d + bw) _ _ ⟨⟨by show 0 ≤ i + 1; omega, by show i + 1 ≤ L; omega⟩, ⟨by show 0 ≤ d + bw; omega, by show d + bw ≤ (i + 1) * 1048576; omega⟩, ?_⟩ (by show (L - (i + 1)).toNat < (L - i).toNat; omega) (.inl ⟨rfl, rfl⟩))
     show (d + bw) + sumZ s (i + 1).toNat (l.drop (i + 1).toNat) = z0
     rw [← hJ, hst h, sumZ, ← hbt, hbw, show (i + 1).toNat = i.toNat + 1 by omega, Int.add_assoc]
   clear hX2 hJ hst hbt hbw
   cbv
   try simp only [nc_eq] at *
   rw [hla, ← hx, q3]
   refine BR.lss r0 (fun hil => ?_) fun hil => ?_
   · have hin : INB i L := ⟨hi1, hil⟩
     rw [hcvi hil, hbit, hmul hil, hadd hil, hadi hil]
     exact ⟨⟨hi1⟩, ⟨by decide⟩, hin, hin, hnx hil⟩
   · rw [hend hil, hads, ← hft]
     refine BR.gtr r0 (fun h => ?_) fun _ => hX4
     exact ⟨hFP, BR.mk (fun hf => absurd (hbest hf) (by omega)) fun _ => hX4⟩
theorem best_typed : ∀ xs, TyVs Try.prog [22, 3, 3] xs → PurFn Try.prog 5 (xs.map .p) (.v (.bool true)) := law3 (P := Try.prog) (f := 5) (t1 := 22) (t2 := 3) (t3 := 3) (T1 := .sl tDue) (T2 := tI) (T3 := tI) (by kernel_rfl) fun l cy per _ _ _ => lawBest l.1 l.2 cy per
end Go.Ab
