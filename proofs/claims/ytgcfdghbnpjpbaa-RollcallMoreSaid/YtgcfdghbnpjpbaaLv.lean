/- The greedy plan is best; its worth; another cycle, a greater row, another target. -/
import Derived.Test.YtgcfdghbnpjpbaaLu
set_option linter.unusedSimpArgs false
set_option linter.unusedVariables false
set_option maxRecDepth 20000
set_option maxHeartbeats 4000000
namespace Go.Ab
open Go.Proofs Go.RowKit
def wsm : List DUE → Int
 | [] => 0
 | x :: l => x.2.2 + wsm l
theorem wsm_append : ∀ a b : List DUE, wsm (a ++ b) = wsm a + wsm b
 | [], b => by simp [wsm]
 | x :: a, b => by
   rw [List.cons_append, wsm, wsm, wsm_append a b]
   omega
theorem wsm_perm {a b : List DUE} (h : a.Perm b) : wsm a = wsm b := by
 induction h with
 | nil => rfl
 | cons x _ ih => rw [wsm, wsm, ih]
 | swap x y l => simp only [wsm]; omega
 | trans _ _ h1 h2 => exact h1.trans h2
theorem set_flat (x : DUE) : ∀ (l : List (List DUE)) (r : Nat), r < l.length → (l.set r (l.getD r [] ++ [x])).flatten.Perm (x :: l.flatten)
 | [], r, h => by simp at h
 | y :: l, 0, _ => by
   rw [List.set_cons_zero, List.getD_cons_zero, List.flatten_cons, List.flatten_cons, List.append_assoc]
   exact List.perm_middle
 | y :: l, r + 1, h => by
   rw [List.set_cons_succ, List.getD_cons_succ, List.flatten_cons, List.flatten_cons]
   exact ((set_flat x l r (by simpa using h)).append_left y).trans List.perm_middle
theorem stepD_cases {per cy : Int} {n : Nat} {s : List (List DUE) × List DUE} (h : GSD per cy n s.1 s.2) (hn : (n : Int) = cy) {x : DUE} (hx : 0 ≤ x.2.1) :
   ((stepD per cy s x).1.flatten.Perm (x :: s.1.flatten) ∧ (stepD per cy s x).2 = s.2) ∨ (stepD per cy s x).1 = s.1 ∧ (stepD per cy s x).2 = x :: s.2 := by
 obtain ⟨c1, c2, _⟩ := capX_lt x (by omega : 0 ≤ cy) hx
 have hI := freeN_isf (rowsA s.1) per (capX cy x + 1).toNat
 rw [show (((capX cy x + 1).toNat : Nat) : Int) - 1 = capX cy x by omega] at hI
 by_cases hc : slotX per cy s.1 x ≥ 0
 · rw [show stepD per cy s x = (s.1.set (slotX per cy s.1 x).toNat (s.1.getD (slotX per cy s.1 x).toNat [] ++ [x]), s.2) from if_pos hc]
   refine .inl ⟨set_flat x _ _ ?_, rfl⟩
   have h1 : slotX per cy s.1 x ≤ capX cy x := hI.le
   have := h.len
   omega
 · rw [show stepD per cy s x = (s.1, x :: s.2) from if_neg hc]
   exact .inr ⟨rfl, rfl⟩
structure RUN (per cy : Int) (n : Nat) (s : List (List DUE) × List DUE) (P : List DUE) : Prop where
 g : GSD per cy n s.1 s.2
 p : (s.1.flatten ++ s.2).Perm P
 c : ∀ x ∈ P, 0 ≤ x.2.1
theorem RUN.step {per cy : Int} {n : Nat} {s : List (List DUE) × List DUE} {P : List DUE} (h : RUN per cy n s P) (hp : 0 ≤ per) (hn : (n : Int) = cy) {x : DUE} (hx : 0 ≤ x.2.1) : RUN per cy n (stepD per cy s x) (P ++ [x]) := by
 refine ⟨h.g.step hp hn hx, ?_, fun y hy => ?_⟩
 · have h1 : (P ++ [x]).Perm (x :: P) := List.perm_append_comm
   refine List.Perm.trans ?_ h1.symm
   rcases stepD_cases h.g hn hx with ⟨q1, q2⟩ | ⟨q1, q2⟩
   · rw [q2]
     exact (q1.append_right s.2).trans (h.p.cons x)
   · rw [q1, q2]
     exact List.perm_middle.trans (h.p.cons x)
 · rcases List.mem_append.1 hy with hy | hy
   · exact h.c y hy
   · rw [List.mem_singleton] at hy; subst hy; exact hx
theorem RUN.start (per cy : Int) (n : Nat) (hp : 0 ≤ per) : RUN per cy n (List.replicate n [], []) [] := ⟨GSD.start per cy n hp, by
 have : (List.replicate n ([] : List DUE)).flatten = [] := by
   rw [List.flatten_eq_nil_iff]
   exact fun l hl => List.eq_of_mem_replicate hl
 rw [this]; exact .refl _, by simp⟩
theorem RUN.fold {per cy : Int} {n : Nat} (hp : 0 ≤ per) (hn : (n : Int) = cy) : ∀ (q : List DUE) {s : List (List DUE) × List DUE} {P : List DUE}, RUN per cy n s P → (∀ x ∈ q, 0 ≤ x.2.1) → RUN per cy n (q.foldl (stepD per cy) s) (P ++ q)
 | [], s, P, h, _ => by rw [List.append_nil]; exact h
 | x :: q, s, P, h, hq => by
   have h1 := RUN.fold hp hn q (h.step hp hn (hq x (by simp))) fun y hy => hq y (by simp [hy])
   rw [List.append_assoc] at h1
   exact h1
theorem run_weights {per cy : Int} {n : Nat} (hp : 0 ≤ per) (hn : (n : Int) = cy) (p : DUE → Bool) : ∀ (q : List DUE) {s : List (List DUE) × List DUE} {P : List DUE} {m : Int}, RUN per cy n s P → 0 ≤ m → (∀ x ∈ q, 0 ≤ x.2.1 ∧ 0 ≤ x.2.2 ∧ x.2.2 ≤ m) →
   q.Pairwise (fun x y => y.2.2 ≤ x.2.2) → (∀ k : Nat, k ≤ n → (((P ++ q).countP fun x => p x && decide (capX cy x < k) : Nat) : Int) ≤ k * per) → P.countP p ≤ s.1.flatten.length →
   ((s.1.flatten.length : Int) - (P.countP p : Nat)) * m ≤ wsm s.1.flatten - wsm (P.filter p) → wsm ((P ++ q).filter p) ≤ wsm (q.foldl (stepD per cy) s).1.flatten
 | [], s, P, m, h, hm, hq, hs, hall, hc, hw => by
   rw [List.append_nil, List.foldl_nil]
   have := Int.mul_nonneg (a := (s.1.flatten.length : Int) - (P.countP p : Nat)) (b := m) (by omega) hm
   omega
 | x :: q, s, P, m, h, hm, hq, hs, hall, hc, hw => by
   obtain ⟨x1, x2, x3⟩ := hq x (by simp)
   rw [List.pairwise_cons] at hs
   have h' := h.step hp hn x1
   have hall' : ∀ k : Nat, k ≤ n → ((((P ++ [x]) ++ q).countP fun x => p x && decide (capX cy x < k) : Nat) : Int) ≤ k * per := fun k hk => by
     rw [List.append_assoc]; exact hall k hk
   have hmost := h'.g.most hn (fun y hy => (capX_lt y (by omega : 0 ≤ cy) (h'.c y hy)).2.1) h'.p p fun k hk => by
     have := hall' k hk
     rw [List.countP_append] at this
     push_cast at this
     omega
   rw [show P ++ x :: q = (P ++ [x]) ++ q by simp, List.foldl_cons]
   refine run_weights hp hn p q h' x2 (fun y hy => ⟨(hq y (by simp [hy])).1, (hq y (by simp [hy])).2.1, hs.1 y hy⟩) hs.2 hall' hmost ?_
   have hmul : ((s.1.flatten.length : Int) - (P.countP p : Nat)) * x.2.2 ≤ ((s.1.flatten.length : Int) - (P.countP p : Nat)) * m := Int.mul_le_mul_of_nonneg_left x3 (by omega)
   rw [List.countP_append, List.filter_append, wsm_append]
   have e1 : (([x].countP p : Nat) : Int) = if p x then 1 else 0 := by
     rw [List.countP_singleton]; split <;> rfl
   have e2 : wsm ([x].filter p) = if p x then x.2.2 else 0 := by
     cases hpx : p x <;> simp [hpx, wsm]
   push_cast
   rw [e1, e2]
   rcases stepD_cases h.g hn x1 with ⟨q1, q2⟩ | ⟨q1, q2⟩
   · rw [wsm_perm q1, q1.length_eq, List.length_cons, wsm]
     push_cast
     split
     · rw [show (s.1.flatten.length : Int) + 1 - ((P.countP p : Nat) + 1) = s.1.flatten.length - (P.countP p : Nat) by omega]; omega
     · rw [show (s.1.flatten.length : Int) + 1 - ((P.countP p : Nat) + 0) = (s.1.flatten.length - (P.countP p : Nat)) + 1 by omega, Int.add_mul, Int.one_mul]; omega
   · rw [q1]
     split
     · rw [show (s.1.flatten.length : Int) - ((P.countP p : Nat) + 1) = (s.1.flatten.length - (P.countP p : Nat)) - 1 by omega, Int.sub_mul, Int.one_mul]; omega
     · rw [Int.add_zero, Int.add_zero]; omega
def finD (l : List DUE) (cy per : Int) : List (List DUE) × List DUE := (isoD l).foldl (stepD per cy) (List.replicate cy.toNat [], [])
def accD (l : List DUE) (cy per : Int) : List DUE := (finD l cy per).1.flatten
theorem badD_not {x : DUE} (h : ¬ badD x) : (0 ≤ x.1 ∧ x.1 ≤ 16777215) ∧ (0 ≤ x.2.1 ∧ x.2.1 ≤ 1048576) ∧ 0 ≤ x.2.2 ∧ x.2.2 ≤ 1048576 := by unfold badD at h; omega
theorem finD_run {l : List DUE} (h : DUES l) {cy per : Int} (hc : 0 ≤ cy) (hp : 0 ≤ per) : RUN per cy cy.toNat (finD l cy per) (isoD l) :=
 RUN.fold hp (by omega) (isoD l) (RUN.start per cy cy.toNat hp) fun x hx => (badD_not (h.b x ((isoD_perm l).mem_iff.1 hx))).2.1.1
theorem acc_best {l : List DUE} (h : DUES l) {cy per : Int} (hc : 0 ≤ cy) (hp : 0 ≤ per) (p : DUE → Bool) (hall : ∀ k : Nat, (k : Int) ≤ cy → ((l.countP fun x => p x && decide (capX cy x < k) : Nat) : Int) ≤ k * per) : wsm (l.filter p) ≤ wsm (accD l cy per) := by
 rw [← wsm_perm ((isoD_perm l).filter p)]
 have hb := fun x hx => badD_not (h.b x ((isoD_perm l).mem_iff.1 hx))
 exact run_weights (m := 1048576) hp (by omega) p (isoD l) (RUN.start per cy cy.toNat hp) (by omega) (fun x hx => ⟨(hb x hx).2.1.1, (hb x hx).2.2⟩) ((isoD_sorted l h.u).imp fun {a b} (hab : befP a b) => by unfold befP at hab; omega)
   (fun k hk => by rw [List.nil_append, (isoD_perm l).countP_eq]; exact hall k (by omega)) (Nat.zero_le _) (by
     have : (List.replicate cy.toNat ([] : List DUE)).flatten = [] := by
       rw [List.flatten_eq_nil_iff]
       exact fun l hl => List.eq_of_mem_replicate hl
     show ((((List.replicate cy.toNat ([] : List DUE)).flatten).length : Int) - _) * _ ≤ wsm (List.replicate cy.toNat ([] : List DUE)).flatten - _
     rw [this]
     simp [wsm])
theorem cnt_rows {per : Int} (hp : 0 ≤ per) (f : DUE → Int) (k : Nat) : ∀ (D : List (List DUE)) (c : Nat), (∀ r : Nat, ∀ x ∈ D.getD r [], ((c + r : Nat) : Int) ≤ f x) → (∀ r : Nat, ((D.getD r []).length : Int) ≤ per) → ((D.flatten.countP fun x => decide (f x < k) : Nat) : Int) ≤ ((k - c : Nat) : Int) * per
 | [], c, _, _ => by
   have := Int.mul_nonneg (a := ((k - c : Nat) : Int)) (b := per) (by omega) hp
   simpa using this
 | r :: D, c, h1, h2 => by
   have ih := cnt_rows hp f k D (c + 1) (fun j x hx => by have := h1 (j + 1) x (by simpa using hx); omega) fun j => by have := h2 (j + 1); simpa using this
   rw [List.flatten_cons, List.countP_append]
   push_cast
   by_cases hck : c < k
   · have e : ((k - c : Nat) : Int) = ((k - (c + 1) : Nat) : Int) + 1 := by omega
     rw [e, Int.add_mul, Int.one_mul]
     have h3 := h2 0
     rw [List.getD_cons_zero] at h3
     have h4 : r.countP (fun x => decide (f x < k)) ≤ r.length := List.countP_le_length
     omega
   · have h3 : r.countP (fun x => decide (f x < k)) = 0 := List.countP_eq_zero.2 fun x hx => by
       have := h1 0 x (by simpa using hx)
       simp only [decide_eq_true_eq]; omega
     rw [h3, show k - c = 0 by omega]
     rw [show k - (c + 1) = 0 by omega] at ih
     simpa using ih
theorem acc_grows {l e : List DUE} {cy cy' per per' : Int} (h : DUES l) (h' : DUES (l ++ e)) (hc : 0 ≤ cy) (hp : 0 ≤ per) (hcc : cy ≤ cy') (hpp : per ≤ per') : wsm (accD l cy per) ≤ wsm (accD (l ++ e) cy' per') := by
 have hR := finD_run h hc hp
 have hperm : (l ++ e).Perm (accD l cy per ++ ((finD l cy per).2 ++ e)) := by
   rw [← List.append_assoc]
   exact ((hR.p.trans (isoD_perm l)).symm).append_right e
 have hnd : (accD l cy per ++ ((finD l cy per).2 ++ e)).Nodup := hperm.nodup_iff.1 ((List.pairwise_map.1 h'.u).imp fun {a b} (hab : a.1 ≠ b.1) (e : a = b) => hab (by rw [e]))
 have hno : ∀ x ∈ (finD l cy per).2 ++ e, x ∉ accD l cy per := fun x hx hy => (List.nodup_append.1 hnd).2.2 x hy x hx rfl
 have e1 : wsm ((l ++ e).filter fun x => decide (x ∈ accD l cy per)) = wsm (accD l cy per) := by
   rw [wsm_perm (hperm.filter _), List.filter_append, List.filter_eq_self.2 (fun x hx => decide_eq_true hx), List.filter_eq_nil_iff.2 (fun x hx => by simpa using hno x hx), List.append_nil]
 rw [← e1]
 refine acc_best h' (by omega) (by omega) _ fun k hk => ?_
 rw [hperm.countP_eq, List.countP_append]
 have e2 : ((finD l cy per).2 ++ e).countP (fun x => decide (x ∈ accD l cy per) && decide (capX cy' x < k)) = 0 := List.countP_eq_zero.2 fun x hx => by simp [hno x hx]
 have e3 : (accD l cy per).countP (fun x => decide (x ∈ accD l cy per) && decide (capX cy' x < k)) ≤ (accD l cy per).countP (fun x => decide (capX cy' x < k)) := List.countP_mono_left fun x _ hx => by
   simp only [Bool.and_eq_true] at hx; exact hx.2
 have e4 := cnt_rows hp (fun x => capX cy' x) k (finD l cy per).1 0 (fun r x hx => by
   have := hR.g.i2 r x hx
   have h3 : capX cy x ≤ capX cy' x := by
     unfold capX capI
     split <;> split <;> omega
   omega) hR.g.ub
 have e5 : (k : Int) * per ≤ k * per' := Int.mul_le_mul_of_nonneg_left hpp (by omega)
 rw [Nat.sub_zero] at e4
 have e6 : (accD l cy per).countP (fun x => decide (capX cy' x < k)) = (finD l cy per).1.flatten.countP (fun x => decide (capX cy' x < k)) := rfl
 omega
end Go.Ab
