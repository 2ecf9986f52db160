/- The laws' helpers. -/
import Derived.Test.YteiolnofaebknaaMe
import Derived.Test.YteiolnofaebknaaAw
set_option linter.unusedSimpArgs false
set_option linter.unusedVariables false
set_option maxRecDepth 20000
set_option maxHeartbeats 2000000
namespace Go.Ab
open Go.Proofs
theorem caw34 : PurS Try.prog 21 [] (.p (.v (.bool true))) := ⟨_, rfl, s34_awake⟩
theorem take_step {t : Ty} {l : List t.den} {i : Int} (h : 0 ≤ i) (k : i < l.length) : l.take (i + 1).toNat = l.take i.toNat ++ [gtR t l i] := by
  have : i.toNat < l.length := by omega
  rw [show (i + 1).toNat = i.toNat + 1 by omega, List.take_add_one, List.getElem?_eq_getElem this, gtR, List.getD_eq_getElem?_getD, List.getElem?_eq_getElem this]; rfl
def cutF (p : tW.den) : tW.den := (p.1 % 3, p.2 % 3)
def cutL (l : List tW.den) : List tW.den := (l.take 24).map cutF
theorem tmod_nn {n m : Int} (h : 0 ≤ n) : n.tmod m = n % m := Int.tmod_eq_emod_of_nonneg h
theorem cut_step {l : List tW.den} {i : Int} (h : 0 ≤ i) (k : i < l.length) (hl : ∀ x ∈ l, 0 ≤ x.1 ∧ 0 ≤ x.2) : (l.take (i + 1).toNat).map cutF = (l.take i.toNat).map cutF ++ [((gtR tW l i).1.tmod 3, (gtR tW l i).2.tmod 3)] := by
  have := hl _ (gtR_mem (t := tW) h k)
  rw [take_step (t := tW) h k, List.map_append, tmod_nn this.1, tmod_nn this.2]; rfl
theorem cut_end {l : List tW.den} {i : Int} (h : 0 ≤ i) (k : ¬ (i < l.length ∧ i < 24)) (h' : i ≤ 24) : (l.take i.toNat).map cutF = cutL l := by
  unfold cutL
  by_cases e : i = 24
  · subst e; rfl
  · rw [List.take_of_length_le (by omega), List.take_of_length_le (by omega)]
theorem cCut (nl : Option Bool) (l : List tW.den) (hl : PRE (∀ x ∈ l, 0 ≤ x.1 ∧ 0 ≤ x.2)) : PurS Try.prog 27 [injT (.sl tW) (nl, l)] (.tl none tW (cutL l)) := by
  refine PurS.of (S := []) (T := []) (tbl := []) (n := 32) hm33 cfg .nil .nil .nil 0 Try.call27 Try.func27 (ac27_ok (some (0, 0))) (by rw [Try.ntmps27]; exact Nat.le_refl _) rfl ⟨_, rfl⟩ ?_
  intro cmp ar cv tn ic ai mx an ad ml sb mn ln em gt up ap sc vw cp rp p1 p2 s1 s2 X Y hX hY r0 r1 r2 r3 r4 r5 r6 r7 r8 r9 r10 r11 r12 r13 r14 r15 r16 r17 r18 r19 r20 r21 r22 r23 r24
  generalize hg0 : cutL = g0
  cbv
  refine LOOP.ind (σ := List tW.den × Int) (fun (a, i) => [(0, .tl nl tW l), (3, .og 0 tW a), (4, .p (iv i))]) (fun (a, i) => ⟨[], [(ml (ln tW a) 2, 46)]⟩) (fun (a, i) => (24 - i).toNat)
    (fun (a, i) => 0 ≤ i ∧ i ≤ 24 ∧ i ≤ l.length ∧ a = (l.take i.toNat).map cutF) ([], 0) ⟨by simp, by simp, by simp, by simp⟩ (.inr ⟨[], [none], ?_⟩) ?_
  · rw [SIM_iff]; cbv; simp [nlLe_self]
  intro ⟨a, i⟩ hI X' hX
  dsimp only at hI
  have h1 := fun k => cut_step (l := l) (i := i) hI.1 k hl.h
  have h2 := cut_end (l := l) (i := i)
  have h3 : a.length ≤ 24 := by rw [hI.2.2.2, List.length_map, List.length_take]; omega
  cbv
  have hln : ic (ln tW l) = l.length := by rw [r4, r12]
  have ha : i < 24 → ar .add .i64 i 1 = i + 1 := fun _ => by rw [r1]; exact wrap64 (n := i + 1) (by omega) (by omega)
  rw [hln]
  repeat' (first | exact True.intro | refine And.intro ?_ ?_ | (refine BR.nn r0 ?_) | (refine BR.lss r0 ?_ ?_ <;> intro _) | (refine BR.neq r0 ?_ ?_ <;> intro _) | (refine BR.eql r0 ?_ ?_ <;> intro _) | (refine BR.leq r0 ?_ ?_ <;> intro _) | (refine BR.gtr r0 ?_ ?_ <;> intro _) | (refine BR.geq r0 ?_ ?_ <;> intro _) | (refine BR.mk ?_ ?_ <;> intro _) | (refine CASE.mk ?_; intro _))
  all_goals first
    | (show EQN _ _; exact EQN.mk rfl)
    | (show NZ _; first | exact NZ.mk (by decide) | (rw [r1]; exact NZ.mk h4))
    | (show INB _ _; first | exact INB.lit r4 (by decide) | exact ⟨hI.1, by assumption⟩)
    | (show LIM _ _; rw [LIM_iff, r8, r12]; simp only [List.length_cons, List.length_nil]; omega)
    | (show nlLe _ _; exact nlLe_self.2 trivial)
    | (show NEXT _ _ _; skip)
    | (have k2 : ¬ (i < (l.length : Int) ∧ i < 24) := (by first | (have : ¬ i < 24 := (by assumption); omega) | (have : ¬ i < (l.length : Int) := (by assumption); omega)); rw [← hg0, ← h2 hI.1 k2 hI.2.1, ← hI.2.2.2])
  have k1 : i < (l.length : Int) := (by assumption)
  have k2 : i < 24 := (by assumption)
  rw [ha k2]
  refine NEXT.mk (hX (_, i + 1) _ _ ?_ ?_ (.inl ⟨rfl, rfl⟩))
  · dsimp only
    simp only [nc_eq]
    refine ⟨by omega, by omega, by omega, ?_⟩
    rw [h1 k1, ← hI.2.2.2, r16, r1, r14, r21, r22]; rfl
  · show (24 - (i + 1)).toNat < (24 - i).toNat
    omega
def fatF (m x : Int) : Int := x % (m + 2) - 1
def fatL (l : List Int) (m : Int) : List Int := (l.take 40).map (fatF m)
theorem fat_step {l : List Int} {i m : Int} (h : 0 ≤ i) (k : i < l.length) (hl : ∀ x ∈ l, 0 ≤ x ∧ x < 256) (hm : m = 0 ∨ m = 8) : (l.take (i + 1).toNat).map (fatF m) = (l.take i.toNat).map (fatF m) ++ [IntKind.i64.wrap ((IntKind.i64.wrap (gtR tI l i)).tmod (IntKind.i64.wrap (m + 2)) - 1)] := by
  have hx := hl _ (gtR_mem (t := tI) h k)
  rw [take_step (t := tI) h k, List.map_append]
  congr 1
  generalize gtR tI l i = x at hx
  show [fatF m x] = _
  rw [wrap64 (n := x) (by omega) (by omega), wrap64 (n := m + 2) (by omega) (by omega), tmod_nn hx.1]
  have h2 : 0 ≤ x % (m + 2) := Int.emod_nonneg _ (by omega)
  have h3 : x % (m + 2) < m + 2 := Int.emod_lt_of_pos _ (by omega)
  have key : ∀ r : Int, 0 ≤ r → r < m + 2 → [r - 1] = [IntKind.i64.wrap (r - 1)] := fun r h2 h3 => by rw [wrap64 (n := r - 1) (by omega) (by omega)]
  exact key _ h2 h3
theorem fat_end {l : List Int} {i m : Int} (h : 0 ≤ i) (k : ¬ (i < l.length ∧ i < 40)) (h' : i ≤ 40) : (l.take i.toNat).map (fatF m) = fatL l m := by
  unfold fatL
  by_cases e : i = 40
  · subst e; rfl
  · rw [List.take_of_length_le (by omega), List.take_of_length_le (by omega)]
theorem wrap_m2 {m : Int} (hm : m = 0 ∨ m = 8) : IntKind.i64.wrap (m + 2) ≠ 0 := by rw [wrap64 (by omega) (by omega)]; omega
theorem cFat (nl : Option Bool) (l : List Int) (m : Int) (hl : PRE ((∀ x ∈ l, 0 ≤ x ∧ x < 256) ∧ (m = 0 ∨ m = 8))) : PurS Try.prog 28 [injT (.sl (.int .u8)) (nl, l), injT tI m] (.tl none tI (fatL l m)) := by
  refine PurS.of (S := []) (T := []) (tbl := []) (n := 30) hm33 cfg .nil .nil .nil 0 Try.call28 Try.func28 (ac28_ok (some (0, 0))) (by rw [Try.ntmps28]; exact Nat.le_refl _) rfl ⟨_, rfl⟩ ?_
  intro cmp ar cv tn ic ai mx an ad ml sb mn ln em gt up ap sc vw cp rp p1 p2 s1 s2 X Y hX hY r0 r1 r2 r3 r4 r5 r6 r7 r8 r9 r10 r11 r12 r13 r14 r15 r16 r17 r18 r19 r20 r21 r22 r23 r24
  generalize hg0 : fatL = g0
  cbv
  refine LOOP.ind (σ := List Int × Int) (fun (a, i) => [(0, .tl nl (.int .u8) l), (1, .p (iv m)), (5, .og 0 tI a), (6, .p (iv i))]) (fun (a, i) => ⟨[], [(ml (ln tI a) 1, 3)]⟩) (fun (a, i) => (40 - i).toNat)
    (fun (a, i) => 0 ≤ i ∧ i ≤ 40 ∧ i ≤ l.length ∧ a = (l.take i.toNat).map (fatF m)) ([], 0) ⟨by simp, by simp, by simp, by simp⟩ (.inr ⟨[], [none], ?_⟩) ?_
  · rw [SIM_iff]; cbv; simp [nlLe_self]
  intro ⟨a, i⟩ hI X' hX
  dsimp only at hI
  have h1 := fun k => fat_step (l := l) (i := i) (m := m) hI.1 k hl.h.1 hl.h.2
  have h2 := fat_end (l := l) (i := i) (m := m)
  have h3 : a.length ≤ 40 := by rw [hI.2.2.2, List.length_map, List.length_take]; omega
  have h4 := wrap_m2 hl.h.2
  cbv
  have hln : ic (ln (.int .u8) l) = l.length := by rw [r4, r12]
  have ha : i < 40 → ar .add .i64 i 1 = i + 1 := fun _ => by rw [r1]; exact wrap64 (n := i + 1) (by omega) (by omega)
  rw [hln]
  repeat' (first | exact True.intro | refine And.intro ?_ ?_ | (refine BR.nn r0 ?_) | (refine BR.lss r0 ?_ ?_ <;> intro _) | (refine BR.neq r0 ?_ ?_ <;> intro _) | (refine BR.eql r0 ?_ ?_ <;> intro _) | (refine BR.leq r0 ?_ ?_ <;> intro _) | (refine BR.gtr r0 ?_ ?_ <;> intro _) | (refine BR.geq r0 ?_ ?_ <;> intro _) | (refine BR.mk ?_ ?_ <;> intro _) | (refine CASE.mk ?_; intro _))
  all_goals first
    | (show EQN _ _; exact EQN.mk rfl)
    | (show NZ _; first | exact NZ.mk (by decide) | (rw [r1]; exact NZ.mk h4))
    | (show INB _ _; first | exact INB.lit r4 (by decide) | exact ⟨hI.1, by assumption⟩)
    | (show LIM _ _; rw [LIM_iff, r8, r12]; simp only [List.length_cons, List.length_nil]; omega)
    | (show nlLe _ _; exact nlLe_self.2 trivial)
    | (show NEXT _ _ _; skip)
    | (have k2 : ¬ (i < (l.length : Int) ∧ i < 40) := (by first | (have : ¬ i < 40 := (by assumption); omega) | (have : ¬ i < (l.length : Int) := (by assumption); omega)); rw [← hg0, ← h2 hI.1 k2 hI.2.1, ← hI.2.2.2])
  have k1 : i < (l.length : Int) := (by assumption)
  have k2 : i < 40 := (by assumption)
  rw [ha k2]
  refine NEXT.mk (hX (_, i + 1) _ _ ?_ ?_ (.inl ⟨rfl, rfl⟩))
  · dsimp only
    simp only [nc_eq]
    refine ⟨by omega, by omega, by omega, ?_⟩
    rw [h1 k1, ← hI.2.2.2, r16, r1, r14, r2]; rfl
  · show (40 - (i + 1)).toNat < (40 - i).toNat
    omega
theorem cSound (x1 x2 x3 x4 x5 x6 y1 y2 y3 y4 y5 y6 : Int) : PurS Try.prog 29 [injT tMeet ((x1, x2, x3, x4, x5, x6), (y1, y2, y3, y4, y5, y6))] (.sb (soundM (x1, x2, x3, x4, x5, x6) (y1, y2, y3, y4, y5, y6))) := by
  refine PurS.of (S := [(40, _), (25, _), (26, _)]) (T := []) (tbl := []) (n := 41) hm33 cfg (.cons (spT1.ok (a := (.pair (.int .i64) (.pair (.int .i64) (.pair (.int .u8) (.pair (.int .i64) (.pair (.int .u8) (.int .i64))))))) (pre := fun _ => True) fun x0 _ => c40 x0.1 x0.2.1 x0.2.2.1 x0.2.2.2.1 x0.2.2.2.2.1 x0.2.2.2.2.2) (.cons (spT2.ok (a := (.pair (.int .i64) (.pair (.int .i64) (.pair (.int .u8) (.pair (.int .i64) (.pair (.int .u8) (.int .i64))))))) (b := (.pair (.int .i64) (.pair (.int .i64) (.pair (.int .u8) (.pair (.int .i64) (.pair (.int .u8) (.int .i64))))))) (pre := fun _ _ => True) fun x0 x1 _ => c25 x0.1 x0.2.1 x0.2.2.1 x0.2.2.2.1 x0.2.2.2.2.1 x0.2.2.2.2.2 x1.1 x1.2.1 x1.2.2.1 x1.2.2.2.1 x1.2.2.2.2.1 x1.2.2.2.2.2) (.cons (spT2.ok (a := (.pair (.int .i64) (.pair (.int .i64) (.pair (.int .u8) (.pair (.int .i64) (.pair (.int .u8) (.int .i64))))))) (b := (.pair (.int .i64) (.pair (.int .i64) (.pair (.int .u8) (.pair (.int .i64) (.pair (.int .u8) (.int .i64))))))) (pre := fun _ _ => True) fun x0 x1 _ => c26 x0.1 x0.2.1 x0.2.2.1 x0.2.2.2.1 x0.2.2.2.2.1 x0.2.2.2.2.2 x1.1 x1.2.1 x1.2.2.1 x1.2.2.2.1 x1.2.2.2.2.1 x1.2.2.2.2.2) .nil))) .nil .nil 0 Try.call29 Try.func29 (ac29_ok (some (0, 0))) (by rw [Try.ntmps29]; exact Nat.le_refl _) rfl ⟨_, rfl⟩ ?_
  intro cmp ar cv tn ic ai mx an ad ml sb mn ln em gt up ap sc vw cp rp p1 p2 s1 s2 X Y hX hY r0 r1 r2 r3 r4 r5 r6 r7 r8 r9 r10 r11 r12 r13 r14 r15 r16 r17 r18 r19 r20 r21 r22 r23 r24
  generalize hg0 : leadsM = g0
  generalize hg1 : safeM = g1
  generalize hg2 : agreedM = g2
  generalize hg3 : soundM = g3
  cbv
  repeat' (first | exact True.intro | refine And.intro ?_ ?_ | (refine BR.mk ?_ ?_ <;> intro _) | (refine CASE.mk ?_; intro _))
  all_goals subst_vars
  all_goals try simp only [Short_iff, cmpR, arR, mxR, INB_iff, SLB_iff, SLM_iff, NZ_iff, NN_iff, EQN_iff, LEN_iff, LIM_iff, MK_iff, decide_eq_true_eq, decide_eq_false_iff_not, ne_eq, Bool.and_eq_true] at *
  all_goals try dsimp only [Ty.den] at *
  all_goals try simp only [nc_eq] at *
  all_goals try (simp (disch := omega) only [wrap64] at *)
  all_goals grind [soundM]
end Go.Ab

