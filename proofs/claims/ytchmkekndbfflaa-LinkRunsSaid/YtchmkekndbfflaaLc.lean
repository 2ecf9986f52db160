/- The laws on runs of losses: lists that are built by loops. -/
import Derived.Test.YtchmkekndbfflaaLb
set_option linter.unusedSimpArgs false
set_option linter.unusedVariables false
set_option maxRecDepth 20000
set_option maxHeartbeats 2000000
namespace Go.Ab
open Go.Proofs
def clipM (x : Int) : Int := x % 256 % 10 - 1
def fateL (l : List Int) : Prop := ∀ x ∈ l, -1 ≤ x ∧ x ≤ 8
theorem fateL.app {a b : List Int} (h : fateL a) (k : fateL b) : fateL (a ++ b) := fun x hx => (List.mem_append.1 hx).elim (h x) (k x)
theorem fateL.one {x : Int} (h : -1 ≤ x) (k : x ≤ 8) : fateL [x] := fun y hy => by simp at hy; omega
theorem fateL.nil : fateL [] := fun y hy => by simp at hy
theorem fateL.rev {a : List Int} (h : fateL a) : fateL a.reverse := fun y hy => h y (List.mem_reverse.1 hy)
theorem clip_ok (x : Int) : -1 ≤ clipM x ∧ clipM x ≤ 8 := by unfold clipM; omega
theorem fate_wrong {l : List Int} (h : fateL l) (k : l.length ≤ 256) : wrongM l = 0 := by
  unfold wrongM
  rw [if_neg (by omega), if_neg]
  simp only [Bool.not_eq_true, List.any_eq_false, badM, decide_eq_true_eq]
  intro x hx; have := h x hx; omega
def preM : List Int → Int
  | [] => 0
  | x :: l => if x < 0 then preM l + 1 else 0
def bestM : List Int → Int
  | [] => 0
  | x :: l => if x < 0 then max (bestM l) (preM l + 1) else bestM l
def runM : Int → List Int → Int
  | r, [] => r
  | r, x :: l => if x < 0 then runM (r + 1) l else runM 0 l
theorem pre_best : ∀ l, 0 ≤ preM l ∧ preM l ≤ bestM l
  | [] => by simp [preM, bestM]
  | x :: l => by have := pre_best l; simp only [preM, bestM]; split <;> omega
theorem lost_eq : ∀ (l : List Int) (m r : Int), 0 ≤ r → r ≤ m → lostM m r l = max m (max (bestM l) (r + preM l))
  | [], m, r, h, k => by simp [lostM, bestM, preM]; omega
  | x :: l, m, r, h, k => by
    have := pre_best l
    simp only [lostM, bestM, preM]
    split
    · rw [lost_eq l _ _ (by omega) (by omega)]; omega
    · rw [lost_eq l _ _ (by omega) (by omega)]; omega
theorem run_best : ∀ (l : List Int) (m r : Int), 0 ≤ r → r ≤ m → 0 ≤ runM r l ∧ runM r l ≤ lostM m r l
  | [], m, r, h, k => by simp [lostM, runM]; omega
  | x :: l, m, r, h, k => by
    simp only [lostM, runM]
    split
    · exact run_best l _ _ (by omega) (by omega)
    · exact run_best l _ _ (by omega) (by omega)
theorem lost_app : ∀ (a b : List Int) (m r : Int), lostM m r (a ++ b) = lostM (lostM m r a) (runM r a) b
  | [], b, m, r => rfl
  | x :: a, b, m, r => by
    simp only [List.cons_append, lostM, runM]
    split <;> exact lost_app a b _ _
theorem run_app : ∀ (a b : List Int) (r : Int), runM r (a ++ b) = runM (runM r a) b
  | [], b, r => rfl
  | x :: a, b, r => by
    simp only [List.cons_append, runM]
    split <;> exact run_app a b _
theorem lost_best (l : List Int) : lostM 0 0 l = bestM l := by
  have := pre_best l
  rw [lost_eq l 0 0 (by omega) (by omega)]; omega
theorem best_app (a b : List Int) : bestM (a ++ b) = max (bestM a) (max (bestM b) (runM 0 a + preM b)) := by
  have := run_best a 0 0 (by omega) (by omega)
  have h := lost_best a
  rw [← lost_best, lost_app, lost_eq _ _ _ (by omega) (by omega), h]
theorem run_rev : ∀ l, runM 0 l.reverse = preM l
  | [] => rfl
  | x :: l => by
    rw [List.reverse_cons, run_app, run_rev l]
    simp only [runM, preM]
theorem best_rev : ∀ l, bestM l.reverse = bestM l
  | [] => rfl
  | x :: l => by
    have := pre_best l
    rw [List.reverse_cons, best_app, best_rev l, run_rev]
    simp only [bestM, preM]
    split <;> omega
theorem lostR_eq {l : List Int} (h : fateL l) (k : l.length ≤ 256) : lostR l = bestM l := by rw [lostR, if_pos (fate_wrong h k), lost_best]
theorem lostR_rev {l : List Int} (h : fateL l) (k : l.length ≤ 256) : lostR l.reverse = lostR l := by rw [lostR_eq h k, lostR_eq h.rev (by simpa using k), best_rev]
theorem lostR_apart {a b : List Int} (h : fateL a) (h' : fateL b) (k : a.length + b.length + 1 ≤ 256) : lostR (a ++ [0] ++ b) = max (lostR a) (lostR b) := by
  have := pre_best b
  have := pre_best a
  rw [lostR_eq h (by omega), lostR_eq h' (by omega), lostR_eq ((h.app (.one (by omega) (by omega))).app h') (by simp; omega), best_app, best_app, run_app]
  have := run_best a 0 0 (by omega) (by omega)
  rw [lost_best] at this
  simp only [bestM, preM, runM]
  simp; omega
theorem lostR_both {a b : List Int} (h : fateL a) (h' : fateL b) (k : a.length + b.length ≤ 256) : max (lostR a) (lostR b) ≤ lostR (a ++ b) ∧ lostR (a ++ b) ≤ lostR a + lostR b := by
  have := pre_best b
  have := pre_best a
  rw [lostR_eq h (by omega), lostR_eq h' (by omega), lostR_eq (h.app h') (by simp; omega), best_app]
  have := run_best a 0 0 (by omega) (by omega)
  rw [lost_best] at this
  omega
theorem lostR_nat {l : List Int} (h : fateL l) (k : l.length ≤ 256) : 0 ≤ lostR l ∧ lostR l ≤ l.length := by
  rw [lostR_eq h k]
  clear h k
  have := pre_best l
  refine ⟨by omega, ?_⟩
  have key : ∀ l : List Int, bestM l ≤ l.length ∧ preM l ≤ l.length := by
    intro l
    induction l with
    | nil => simp [bestM, preM]
    | cons x l ih => simp only [bestM, preM, List.length_cons]; split <;> omega
  exact (key l).1

theorem lostR_apart' {a b : List Int} (h : fateL a) (h' : fateL b) (k : a.length + b.length + 1 ≤ 256) : lostR (a ++ [0] ++ b) = if lostR b > lostR a then lostR b else lostR a := by
  rw [lostR_apart h h' k]; split <;> omega
theorem lostR_both' {a b : List Int} (h : fateL a) (h' : fateL b) (k : a.length + b.length ≤ 256) : lostR a ≤ lostR (a ++ b) ∧ lostR b ≤ lostR (a ++ b) ∧ lostR (a ++ b) ≤ lostR a + lostR b := by
  have := lostR_both h h' k; omega
theorem wrap_u8 (n : Int) : IntKind.u8.wrap n = n % 256 := by simp [IntKind.wrap, IntKind.bits, IntKind.signed]
theorem tmod_nn {n m : Int} (h : 0 ≤ n) : n.tmod m = n % m := Int.tmod_eq_emod_of_nonneg h
theorem c25 (x : Int) : PurS Try.prog 25 [injT (.int .i8) x] (.p (iv (clipM x))) := by
  refine PurS.of (S := []) (T := []) (tbl := []) (n := 8) hm33 cfg .nil .nil .nil 0 Try.call25 Try.func25 (ac25_ok (some (0, 0))) (by rw [Try.ntmps25]; exact Nat.le_refl _) rfl ⟨_, rfl⟩ ?_
  intro cmp ar cv tn ic ai mx an ad ml sb mn ln em gt up ap sc vw cp rp p1 p2 s1 s2 X Y hX hY r0 r1 r2 r3 r4 r5 r6 r7 r8 r9 r10 r11 r12 r13 r14 r15 r16 r17 r18 r19 r20 r21 r22 r23 r24
  generalize hg0 : clipM = g0
  cbv
  repeat' (first | exact True.intro | refine And.intro ?_ ?_ | (refine BR.mk ?_ ?_ <;> intro _) | (refine CASE.mk ?_; intro _))
  all_goals subst_vars
  all_goals simp only [Short_iff, cmpR, arR, mxR, INB_iff, SLB_iff, SLM_iff, NZ_iff, NN_iff, EQN_iff, LEN_iff, LIM_iff, MK_iff, decide_eq_true_eq, decide_eq_false_iff_not, ne_eq, Bool.and_eq_true, wrap_u8] at *
  all_goals try dsimp only [Ty.den] at *
  all_goals try simp only [nc_eq] at *
  all_goals try (simp (disch := omega) only [wrap64] at *)
  · omega
  · rw [tmod_nn (by omega), wrap64 (by omega) (by omega)]; rfl

def revM (a : List Int) (i : Int) : List Int := (a.drop (i + 1).toNat).reverse
theorem rev_step {a : List Int} {i : Int} (h : 0 ≤ i) (k : i < a.length) : revM a (i - 1) = revM a i ++ [gtR tI a i] := by
  unfold revM
  rw [show i - 1 + 1 = i by omega, gtR_drop (t := tI) h k, List.reverse_cons]
theorem rev_end {a : List Int} {i : Int} (h : i < 0) : revM a i = a.reverse := by
  unfold revM
  rw [show (i + 1).toNat = 0 by omega, List.drop_zero]
theorem rev_len (a : List Int) (i : Int) : (revM a i).length ≤ a.length := by
  unfold revM; rw [List.length_reverse, List.length_drop]; omega
theorem rev_start (a : List Int) : revM a (a.length - 1) = [] := by
  unfold revM
  rw [List.drop_eq_nil_of_le (by omega)]; rfl
theorem lawRuns (nx : Option Bool) (x : List Int) (ny : Option Bool) (y : List Int) : PurS Try.prog 9 [injT (.sl (.int .i8)) (nx, x), injT (.sl (.int .i8)) (ny, y)] (.sb true) := by
  refine PurS.of (S := [(10, _), (22, _), (25, _)]) (T := []) (tbl := []) (n := 152) hm33 cfg (.cons (spT0.ok caw33b) (.cons (spT1.ok (a := (.sl (.int .i64))) fun x0 h => c22 x0.1 x0.2 h) (.cons (spT1.ok (a := (.int .i8)) (pre := fun _ => True) fun x0 _ => c25 x0) .nil))) .nil .nil 0 Try.call9 Try.func9 (ac9_ok (some (0, 0))) (by rw [Try.ntmps9]; exact Nat.le_refl _) rfl ⟨_, rfl⟩ ?_
  intro cmp ar cv tn ic ai mx an ad ml sb mn ln em gt up ap sc vw cp rp p1 p2 s1 s2 X Y hX hY r0 r1 r2 r3 r4 r5 r6 r7 r8 r9 r10 r11 r12 r13 r14 r15 r16 r17 r18 r19 r20 r21 r22 r23 r24
  generalize hg0 : lostR = g0
  generalize hg1 : wrongM = g1
  generalize hg2 : clipM = g2
  cbv
  have hc := clip_ok
  refine LOOP.ind (σ := List Int × Int) (fun (a, i) => [(0, .tl nx (.int .i8) x), (1, .tl ny (.int .i8) y), (5, .og 0 tI a), (6, .p (.sl (some true) 0 [])), (7, .p (.sl (some true) 0 [])), (8, .p (iv i))]) (fun (a, i) => ⟨[], [(ml (ln tI a) 1, 3)]⟩) (fun (a, i) => (60 - i).toNat)
    (fun (a, i) => 0 ≤ i ∧ i ≤ 60 ∧ a.length = i ∧ fateL a) ([], 0) ⟨by simp, by simp, by simp, .nil⟩ (.inr ⟨[], [none], ?_⟩) ?_
  · rw [SIM_iff]; cbv; simp [nlLe_self]
  intro ⟨a, i⟩ hI X' hX
  cbv
  repeat' (first | exact True.intro | refine And.intro ?_ ?_ | (refine BR.mk ?_ ?_ <;> intro _) | (refine CASE.mk ?_; intro _) | refine NEXT.mk (hX (_, _) _ _ ?_ ?_ (.inl ⟨rfl, rfl⟩)))
  all_goals first | (show LOOP _ _ _ _ _ _; skip) | (clear hX; subst_vars; (all_goals try simp only [Short_iff, cmpR, arR, mxR, INB_iff, SLB_iff, SLM_iff, NZ_iff, NN_iff, EQN_iff, LEN_iff, LIM_iff, MK_iff, decide_eq_true_eq, decide_eq_false_iff_not, ne_eq, Bool.and_eq_true, cmpR] at *); (all_goals try dsimp only [Ty.den] at *); (all_goals try simp only [nc_eq] at *); (all_goals try (simp (disch := omega) only [wrap64] at *)); all_goals grind [fateL.app, fateL.one])
  all_goals dsimp only at hI
  all_goals clear hX
  all_goals refine LOOP.ind (σ := List Int × Int) (fun (b, i) => [(1, .tl ny (.int .i8) y), (5, .og 0 tI a), (6, .og 1 tI b), (7, .p (.sl (some true) 0 [])), (9, .p (iv i))]) (fun (b, i) => ⟨[], [(ml (ln tI a) 1, 3), (ml (ln tI b) 1, 3)]⟩) (fun (b, i) => (60 - i).toNat)
             (fun (b, i) => 0 ≤ i ∧ i ≤ 60 ∧ b.length = i ∧ fateL b) ([], 0) ⟨by simp, by simp, by simp, .nil⟩ (.inr ⟨[], [some 0, none], by rw [SIM_iff]; cbv; simp [nlLe_self, lstEq]⟩) ?_
  all_goals intro ⟨b, i⟩ hJ X' hX
  all_goals cbv
  repeat' (first | exact True.intro | refine And.intro ?_ ?_ | (refine BR.mk ?_ ?_ <;> intro _) | (refine CASE.mk ?_; intro _) | refine NEXT.mk (hX (_, _) _ _ ?_ ?_ (.inl ⟨rfl, rfl⟩)))
  all_goals first | (show LOOP _ _ _ _ _ _; skip) | (clear hX; subst_vars; (all_goals try simp only [Short_iff, cmpR, arR, mxR, INB_iff, SLB_iff, SLM_iff, NZ_iff, NN_iff, EQN_iff, LEN_iff, LIM_iff, MK_iff, decide_eq_true_eq, decide_eq_false_iff_not, ne_eq, Bool.and_eq_true, cmpR] at *); (all_goals try dsimp only [Ty.den] at *); (all_goals try simp only [nc_eq] at *); (all_goals try (simp (disch := omega) only [wrap64] at *)); all_goals grind [fateL.app, fateL.one])
  all_goals dsimp only at hJ
  all_goals clear hX
  all_goals refine LOOP.ind (σ := List Int × Int) (fun (c, i) => [(5, .og 0 tI a), (6, .og 1 tI b), (7, .og 2 tI c), (10, .p (iv i))]) (fun (c, i) => ⟨[], [(ml (ln tI a) 1, 3), (ml (ln tI b) 1, 3), (ml (ln tI c) 1, 3)]⟩) (fun (c, i) => (i + 1).toNat)
             (fun (c, i) => -1 ≤ i ∧ i < a.length ∧ c = revM a i) ([], ar .sub .i64 (ic (ln tI a)) 1) (by
               have e1 : ic (ln tI a) = (a.length : Int) := by subst_vars; rfl
               have e2 : ar = arR := by assumption
               rw [e1, e2]
               show _ ∧ _ ∧ _
               rw [show arR .sub .i64 (a.length : Int) 1 = a.length - 1 from wrap64 (by grind) (by grind)]
               exact ⟨by grind, by grind, (rev_start a).symm⟩) (.inr ⟨[], [some 0, some 1, none], by rw [SIM_iff]; cbv; simp [nlLe_self, lstEq]⟩) ?_
  all_goals intro ⟨c, i⟩ hK X' hX
  all_goals cbv
  all_goals dsimp only at hK
  all_goals have hb := lostR_both' (a := a) (b := b) hI.2.2.2 hJ.2.2.2 (by grind)
  all_goals have hn := lostR_nat (l := a) hI.2.2.2 (by grind)
  all_goals have hm := lostR_nat (l := b) hJ.2.2.2 (by grind)
  repeat' (first | exact True.intro | refine And.intro ?_ ?_ | (refine BR.mk ?_ ?_ <;> intro _) | (refine CASE.mk ?_; intro _) | refine NEXT.mk (hX (_, _) _ _ ?_ ?_ (.inl ⟨rfl, rfl⟩)))
  all_goals clear hX
  all_goals subst_vars
  all_goals simp only [Short_iff, cmpR, arR, mxR, INB_iff, SLB_iff, SLM_iff, NZ_iff, NN_iff, EQN_iff, LEN_iff, LIM_iff, MK_iff, decide_eq_true_eq, decide_eq_false_iff_not, ne_eq, Bool.and_eq_true, List.nil_append] at *
  all_goals try dsimp only [Ty.den] at *
  all_goals try simp only [nc_eq] at *
  all_goals try (simp (disch := omega) only [wrap64] at *)
  all_goals grind [fate_wrong, lostR_rev, lostR_apart', lostR_both', lostR_nat, wrap64, rev_len, rev_step, rev_end, fateL.app, fateL.one, fateL.rev, mxR]
theorem runs_typed : ∀ xs, TyVs Try.prog [54, 54] xs → PurFn Try.prog 9 (xs.map .p) (.v (.bool true)) := law2 (P := Try.prog) (f := 9) (t1 := 54) (t2 := 54) (T1 := .sl (.int .i8)) (T2 := .sl (.int .i8)) (by kernel_rfl) fun a b _ _ => lawRuns a.1 a.2 b.1 b.2
end Go.Ab

