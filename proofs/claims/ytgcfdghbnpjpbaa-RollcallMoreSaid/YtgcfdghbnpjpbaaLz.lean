/- RollcallMore. -/
import Derived.Test.YtgcfdghbnpjpbaaLy
set_option linter.unusedSimpArgs false
set_option linter.unusedVariables false
set_option maxRecDepth 20000
set_option maxHeartbeats 8000000
namespace Go.Ab
open Go.Proofs Go.RowKit
theorem rowsD_flat : ∀ l : List DUE, (tDue.rows l).all flatP = true
 | [] => rfl
 | x :: l => by
   show (tDue.cells x ++ tDue.rows l).all flatP = true
   rw [List.all_append, rowsD_flat l]; rfl
theorem appCopyD (nl : Option Bool) (l : List DUE) (hl : l.length ≤ 2000) (h0 : l ≠ []) : AppFn Try.prog 10 (concL [injT (.sl tDue) (nl, l)]) l.length (tDue.rows l) 44 := by
 refine AppFn.of hm15 Try.call10 Try.func10 (ac10_ok none) (by rw [Try.ntmps10]; show 1 ≤ _; decide) (rowsD_flat l) ?_
 show wpA _ _ (ac10 none) noH _ [(0, .p (.sl nl l.length (tDue.rows l)))] ⟨[], []⟩
 unfold ac10
 have hlen : (tDue.rows l).length = l.length * 3 := Ty.rows_length tDue l
 have hbig : l.length * 24 ≤ 140737488355328 := by omega
 have hml : l.length ≤ maxLen := Nat.le_trans hl (by decide)
 have hne : l.length ≠ 0 := fun h => h0 (List.eq_nil_of_length_eq_zero h)
 refine wseq (fun ρ' st' => st' = ⟨[], []⟩ ∧ ρ' = [(2, .p (.sl (some true) 0 [])), (0, .p (.sl nl l.length (tDue.rows l)))]) ?_ ?_
 · simp only [wpA, wpR, wpOp, ev, setD]
   exact ⟨rfl, rfl⟩
 rintro ρ1 st1 ⟨e1, e2⟩
 rw [e1, e2]
 refine wseq (fun ρ' st' => st' = ⟨[], [(l.length * 3, 44)]⟩ ∧ ρ'.get 2 = .grp 0 l.length (tDue.rows l)) ?_ ?_
 · simp only [wpA, wpR, wpOp, ev, setD, Env.get, Nat.reduceEqDiff, if_true, if_false, srcP, toP, cstP]
   refine ⟨hlen, hbig, hml, .inl ?_⟩
   rw [if_neg hne]
   simp only [Env.get, if_true, hlen, List.nil_append]
   exact ⟨rfl, rfl⟩
 rintro ρ2 st2 ⟨e1, e2⟩
 rw [e1]
 show wpRes _ _ _ _
 simp only [wpRes, wpRes1, e2]
 exact ⟨0, rfl, by rw [hlen]; rfl⟩
theorem appCopy0 (nl : Option Bool) : PurFn Try.prog 10 (concL [injT (.sl tDue) (nl, [])]) (.sl (some true) 0 []) := by
 refine PurFn.of hm15 Try.call10 Try.func10 (ac10_ok none) (by rw [Try.ntmps10]; show 1 ≤ _; decide) ?_
 show wpA _ _ (ac10 none) noH _ [(0, .p (.sl nl 0 []))] ⟨[], []⟩
 unfold ac10
 refine wseq (fun ρ' st' => st' = ⟨[], []⟩ ∧ ρ' = [(2, .p (.sl (some true) 0 [])), (0, .p (.sl nl 0 []))]) ?_ ?_
 · simp only [wpA, wpR, wpOp, ev, setD]
   exact ⟨rfl, rfl⟩
 rintro ρ1 st1 ⟨e1, e2⟩
 rw [e1, e2]
 refine wseq (fun ρ' st' => st' = ⟨[], []⟩ ∧ ρ'.get 2 = .p (.sl (some true) 0 [])) ?_ ?_
 · simp only [wpA, wpR, wpOp, ev, setD, Env.get, Nat.reduceEqDiff, if_true, if_false, srcP, toP, cstP]
   refine ⟨rfl, by decide, by decide, .inl ?_⟩
   exact ⟨rfl, rfl⟩
 rintro ρ2 st2 ⟨e1, e2⟩
 rw [e1]
 show wpRes _ _ _ _
 simp only [wpRes, wpRes1, e2]
 exact PLe.p _
theorem tCopyB : ∀ ds st K, spApp (argT1 (.sl tDue)) (fun x => Short 2000 x.2) tDue 44 (fun x => x.2) OpsS.real 10 ds st K → CB Try.prog 10 (concL ds) st.conc (KP K) :=
 spApp.okB (argT1.ok (a := .sl tDue) (Q := fun xs x => Short 2000 x.2 → x.2 = [] → PurFn Try.prog 10 (concL xs) (.sl (some true) 0 [])) (fun _ _ _ he h => by rw [he]; exact h) fun x _ h0 => by
     obtain ⟨nl, l⟩ := x
     dsimp only at h0
     subst h0
     exact appCopy0 nl)
   (argT1.ok (a := .sl tDue) (Q := fun xs x => Short 2000 x.2 → x.2 ≠ [] → AppFn Try.prog 10 (concL xs) x.2.length (tDue.rows x.2) 44) (fun _ _ _ he h => by rw [he]; exact h) fun x h h0 => appCopyD x.1 x.2 h.h h0)
theorem lawMore (nl : Option Bool) (l : List DUE) (cy per : Int) (more : DUE) : PurS Try.prog 6 [injT (.sl tDue) (nl, l), injT tI cy, injT tI per, injT tDue more] (.sb true) := by
 refine PurS.of (S := [(8, _), (9, _), (11, _), (21, _), (17, _), (24, _)]) (T := []) (U := [(10, _)]) (tbl := []) (n := 101) hm15 cfg (.cons (spT2.ok (a := (.sl (.pair (.int .i64) (.pair (.int .i64) (.int .i64))))) (b := (.sl (.sl (.int .i64)))) (pre := fun _ _ => True) fun x0 x1 _ => cLong x0.1 x0.2 x1.1 x1.2) (.cons (spT0.ok cAwake) (.cons (spT3.ok (a := (.sl (.pair (.int .i64) (.pair (.int .i64) (.int .i64))))) (b := (.int .i64)) (c := (.int .i64)) fun x0 x1 x2 h => cPlan x0.1 x0.2 x1 x2 h) (.cons (spT3.ok (a := (.sl (.pair (.int .i64) (.pair (.int .i64) (.int .i64))))) (b := (.sl (.sl (.int .i64)))) (c := (.int .i64)) fun x0 x1 x2 h => cWorthT x0.1 x0.2 x1.1 x1.2 x2 h) (.cons (spT2.ok (a := (.sl (.sl (.int .i64)))) (b := (.sl (.sl (.int .i64)))) fun x0 x1 h => cEqR x0.1 x0.2 x1.1 x1.2 h) (.cons (spT4.ok (a := (.sl (.pair (.int .i64) (.pair (.int .i64) (.int .i64))))) (b := (.int .i64)) (c := (.int .i64)) (d := (.int .i64)) fun x0 x1 x2 x3 h => cGrows x0.1 x0.2 x1 x2 x3 h) .nil)))))) .nil (.consB tCopyB .nil) .nil 0 Try.call6 Try.func6 (ac6_ok (some (0, 0))) (by rw [Try.ntmps6]; exact Nat.le_refl _) rfl ⟨_, rfl⟩ ?_
 intro cmp ar cv tn ic ai mx an ad ml sb mn ln em gt up ap sc vw cp rp p1 p2 s1 s2 X Y hX hY r0 r1 r2 r3 r4 r5 r6 r7 r8 r9 r10 r11 r12 r13 r14 r15 r16 r17 r18 r19 r20 r21 r22 r23 r24
 generalize hg0 : lonB = g0
 generalize hg1 : planR = g1
 generalize hg2 : wrnM = g2
 generalize hg3 : worM = g3
 generalize hg4 : eqR = g4
 generalize hg5 : groM = g5
 cbv
 have hla : ic (ln tDue l) = (l.length : Int) := by rw [r4, r12]
 refine BR.mk (fun _ => trivial) fun hlo => ?_
 have hlo : lonB l [] = false := by rw [hg0]; exact hlo
 obtain ⟨h80, _, _⟩ := long_ok hlo
 have hs : Short 2000 l := ⟨by omega⟩
 obtain ⟨R, hR⟩ : ∃ R, R = g1 l cy per := ⟨_, rfl⟩
 have hRl : ic (ln tRow R) = (R.length : Int) := by rw [r4, r12]
 have hno : g2 l cy per ≠ 0 → R = [] := fun h => by rw [hR, ← hg1]; exact if_pos (by rw [hg2]; exact h)
 have hok : ¬ g2 l cy per ≠ 0 → wrnM l cy per = 0 := fun h => by rw [hg2]; exact Classical.not_not.1 h
 show Short 2000 l ∧ Short 2000 l ∧ BR (cmp .neq (g2 l cy per) 0) (BR (cmp .eql (ic (ln tRow (g1 l cy per))) 0) True (false = true)) (LOOP _ _ _ _ [(0, .tl nl tDue l), (1, .p (iv cy)), (2, .p (iv per)), (7, .ptr 0 0), (9, .tl none tRow (g1 l cy per)), (11, .p (iv (g3 l (g1 l cy per) per).1)), (12, .p (iv (g3 l (g1 l cy per) per).2)), (13, .p (.sl (some true) 0 [])), (14, .p (iv (ar .sub .i64 (ic (ln tDue l)) 1)))]
   ⟨[{ cells := [.p (iv more.1), .p (iv more.2.1), .p (iv more.2.2)], e := 44, fz := false }], []⟩)
 rw [← hR]
 refine ⟨hs, hs, BR.neq r0 (fun he => BR.eql r0 (fun _ => trivial) fun h => absurd (by rw [hRl, hno he]; rfl) h) fun he => ?_⟩
 have hw := hok he
 obtain ⟨_, hD, hcy, hper⟩ := wrnM_ok hw
 obtain ⟨n, hn⟩ : ∃ n, n = (worM l (planR l cy per) per).1 := ⟨_, rfl⟩
 have hwor : g3 l R per = (n, 0) := by rw [hR, ← hg1, ← hg3, hn]; exact Prod.ext rfl (by rw [worM_plan hw])
 rw [hwor]
 obtain ⟨L, hL⟩ : ∃ L : Int, L = l.length := ⟨_, rfl⟩
 rw [← hL] at hla
 have hsb : ar .sub .i64 L 1 = L - 1 := by rw [r1]; exact wrap64 (n := L - 1) (by omega) (by omega)
 rw [hla, hsb]
 have hPS : SHR R := by rw [hR, ← hg1]; exact ⟨by have := (planR_shape l cy per).a; omega, fun r hr => by have := (planR_shape l cy per).b r hr; omega⟩
 have htu : g2 l.reverse cy per = 0 ∧ g1 l.reverse cy per = R := by rw [hR, ← hg1, ← hg2]; exact wrnM_turn hw
 have heq : g4 R R = true := by rw [← hg4]; exact decide_eq_true rfl
 have hgr : ∀ (e : List DUE) (cy' per' : Int), cy ≤ cy' → per ≤ per' → g5 (l ++ e) cy' per' n = true := fun e cy' per' h1 h2 => by
   rw [← hg5]
   unfold groM
   by_cases hz : wrnM (l ++ e) cy' per' = 0
   · have := more_worth (e := e) hw hz h1 h2
     rw [decide_eq_true (p := _ ∧ _) ⟨this.1, by rw [hn]; exact this.2⟩, Bool.or_true]
   · rw [decide_eq_true hz, Bool.true_or]
 have hg1' : g5 l (cy + 1) per n = true := by have := hgr [] (cy + 1) per (by omega) (by omega); rwa [List.append_nil] at this
 have hg2' : g5 l cy (per + 1) n = true := by have := hgr [] cy (per + 1) (by omega) (by omega); rwa [List.append_nil] at this
 have hg3' : g5 (l ++ [more]) cy per n = true := hgr [more] cy per (by omega) (by omega)
 clear hgr
 obtain ⟨m1, m2, m3⟩ := more
 refine LOOP.ind (σ := List DUE × Int) (fun (a, i) => [(0, .tl nl tDue l), (1, .p (iv cy)), (2, .p (iv per)), (7, .ptr 0 0), (9, .tl none tRow R), (11, .p (iv n)), (12, .p (iv 0)), (13, .og 0 tDue a), (14, .p (iv i))])
   (fun (a, i) => ⟨[{ cells := [.p (iv m1), .p (iv m2), .p (iv m3)], e := 44, fz := false }], [(ml (ln tDue a) 3, 44)]⟩) (fun (a, i) => (i + 1).toNat) (fun (a, i) => (-1 ≤ i ∧ i < L) ∧ a ++ (l.take (i + 1).toNat).reverse = l.reverse) ([], L - 1) ⟨⟨by omega, by omega⟩, by rw [show (L - 1 + 1).toNat = l.length by omega, List.take_length]; rfl⟩ (.inr ⟨[some 0], [none], ?_⟩) ?_
 · rw [SIM_iff]; cbv; simp [nlLe_self, lstEq]
 intro ⟨a, i⟩ hI X' hX
 dsimp only at hI
 obtain ⟨⟨hi1, hi2⟩, hI⟩ := hI
 obtain ⟨⟨x1, x2, x3⟩, hx⟩ : ∃ x : DUE, x = gt tDue l i := ⟨_, rfl⟩
 have hgx : gtR tDue l i = (x1, x2, x3) := by rw [hx, r14]
 have hlen : (a.length : Int) + (i + 1) = L := by
   have := congrArg List.length hI
   simp only [List.length_append, List.length_reverse, List.length_take] at this
   omega
 have hst : i ≥ 0 → (a ++ [(x1, x2, x3)]) ++ (l.take (i - 1 + 1).toNat).reverse = l.reverse := fun h => by
   have h3 : i.toNat < l.length := by omega
   have h4 : l[i.toNat] = (x1, x2, x3) := by rw [← hgx]; simp [gtR, h3]
   rw [← hI, show (i + 1).toNat = i.toNat + 1 by omega, show (i - 1 + 1).toNat = i.toNat by omega, List.take_add_one, List.getElem?_eq_getElem h3, h4]
   simp
 have hend : ¬ i ≥ 0 → a = l.reverse := fun h => by
   rw [← hI, show (i + 1).toNat = 0 by omega]; simp
 have q1 : p1 tI (.pair tI tI) (x1, x2, x3) = x1 := by rw [r21]
 have q2 : p1 tI tI (p2 tI (.pair tI tI) (x1, x2, x3)) = x2 := by rw [r21, r22]
 have q3 : p2 tI tI (p2 tI (.pair tI tI) (x1, x2, x3)) = x3 := by rw [r22]
 have hap : ap tDue a [(x1, x2, x3)] = a ++ [(x1, x2, x3)] := by rw [r16]
 have hlim : i ≥ 0 → LIM (ad (ln tDue a) (ln tDue [(x1, x2, x3)])) 24 := fun h => by
   rw [LIM_iff, r8, r12]
   show (a.length + 1) * 24 ≤ _ ∧ a.length + 1 ≤ _
   omega
 have hsi : i ≥ 0 → ar .sub .i64 i 1 = i - 1 := fun h => by rw [r1]; exact wrap64 (n := i - 1) (by omega) (by omega)
 have hnx : i ≥ 0 → NEXT X' [(0, .tl nl tDue l), (1, .p (iv cy)), (2, .p (iv per)), (7, .ptr 0 0), (9, .tl none tRow R), (11, .p (iv n)), (12, .p (iv 0)), (13, .og 0 tDue (a ++ [(x1, x2, x3)])), (14, .p (iv (i - 1)))] ⟨[{ cells := [.p (iv m1), .p (iv m2), .p (iv m3)], e := 44, fz := false }], [(ml (ln tDue (a ++ [(x1, x2, x3)])) 3, 44)]⟩ := fun h =>
   NEXT.mk (hX (a ++ [(x1, x2, x3)], i - 1) _ _ ⟨⟨by show -1 ≤ i - 1; omega, by show i - 1 < L; omega⟩, hst h⟩ (by show (i - 1 + 1).toNat < (i + 1).toNat; omega) (.inl ⟨rfl, rfl⟩))
 have hadc : ar .add .i64 cy 1 = cy + 1 := by rw [r1]; exact wrap64 (n := cy + 1) (by omega) (by omega)
 have hadp : ar .add .i64 per 1 = per + 1 := by rw [r1]; exact wrap64 (n := per + 1) (by omega) (by omega)
 have hsa : Short 2000 a := ⟨by omega⟩
 clear hX hst hI
 cbv
 try simp only [nc_eq] at *
 rw [← hx, q1, q2, q3, hap, hla]
 refine BR.geq r0 (fun hc => ?_) fun hc => ?_
 · rw [hsi hc]
   exact ⟨⟨hc, hi2⟩, ⟨hc, hi2⟩, ⟨rfl⟩, hlim hc, hnx hc⟩
 rw [hadc, hadp]
 rw [hend hc] at hsa ⊢
 refine ⟨hsa, BR.nn r0 ?_⟩
 rw [htu.1, htu.2]
 refine BR.nn r0 ⟨hPS, BR.mk (fun _ => ⟨hs, BR.mk (fun _ => ⟨hs, BR.mk (fun _ => ⟨hs, ?_⟩) fun h => ?_⟩) fun h => ?_⟩) fun h => ?_⟩
 · refine APPK.mk (fun h0 => ?_) fun N h0 hN => ?_
   · rw [h0] at hg3'
     cbv
     exact ⟨by rw [LIM_iff, r12]; show 1 * 24 ≤ _ ∧ 1 ≤ _; decide, ⟨by simp⟩, BR.mk (fun _ => trivial) fun h => Bool.noConfusion (h.symm.trans hg3')⟩
   · cbv
     have hv : vw tDue N l 0 N = l := by rw [r18]; exact vw_all hN.symm
     have hap2 : ap tDue l [(m1, m2, m3)] = l ++ [(m1, m2, m3)] := by rw [r16]
     have hl1 : ad N (ln tDue [(m1, m2, m3)]) = N + 1 := by rw [r8, r12]; rfl
     have hv2 : vw tDue (N + 1) (l ++ [(m1, m2, m3)]) 0 (N + 1) = l ++ [(m1, m2, m3)] := by rw [r18]; exact vw_all (by simp [hN])
     rw [hv, hap2, hl1, hv2]
     refine ⟨⟨Nat.le_refl _⟩, by rw [LIM_iff]; exact ⟨by omega, Nat.le_trans (by omega : N + 1 ≤ 2000) (by decide)⟩, ⟨⟨by rw [r8]; exact Nat.le_of_eq (Nat.zero_add _)⟩, trivial⟩, ⟨by rw [List.length_append, List.length_singleton]; omega⟩, BR.mk (fun _ => trivial) fun h => Bool.noConfusion (h.symm.trans hg3')⟩
 · exact Bool.noConfusion (h.symm.trans hg2')
 · exact Bool.noConfusion (h.symm.trans hg1')
 · exact Bool.noConfusion (h.symm.trans heq)
theorem more_typed : ∀ xs, TyVs Try.prog [22, 3, 3, 44] xs → PurFn Try.prog 6 (xs.map .p) (.v (.bool true)) := law4 (P := Try.prog) (f := 6) (t1 := 22) (t2 := 3) (t3 := 3) (t4 := 44) (T1 := .sl tDue) (T2 := tI) (T3 := tI) (T4 := tDue) (by kernel_rfl) fun l cy per more _ _ _ _ => lawMore l.1 l.2 cy per more
end Go.Ab
