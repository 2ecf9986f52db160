/- The greedy plan is best; its worth; another cycle,a greater row,another target. -/
import Derived.Test.YtgcfdghbnpjpbaaLu
set_option linter.unusedSimpArgs false
set_option linter.unusedVariables false
set_option maxRecDepth 20000
set_option maxHeartbeats 4000000
namespace Go.Ab
open Go.Proofs Go.RowKit
theorem set_flat (x : DUE) : ∀ (l : List (List DUE)) (r : Nat),r < l.length → (l.set r (l.getD r [] ++ [x])).flatten.Perm (x :: l.flatten)
 | [],r,h => by simp at h
 | y :: l,0,_ => by
   rw [List.set_cons_zero,List.getD_cons_zero,List.flatten_cons,List.flatten_cons,List.append_assoc]
   exact List.perm_middle
 | y :: l,r + 1,h => by
   rw [List.set_cons_succ,List.getD_cons_succ,List.flatten_cons,List.flatten_cons]
   exact ((set_flat x l r (by simpa using h)).append_left y).trans List.perm_middle
theorem stepD_cases {per cy : Int} {n : Nat} {s : List (List DUE) × List DUE} (h : GSD per cy n s.1 s.2) (hn : (n : Int) = cy) {x : DUE} (hx : 0 ≤ x.2.1) :
   ((stepD per cy s x).1.flatten.Perm (x :: s.1.flatten) ∧ (stepD per cy s x).2 = s.2) ∨ (stepD per cy s x).1 = s.1 ∧ (stepD per cy s x).2 = x :: s.2 := by
 obtain ⟨c1,c2,_⟩ := capX_lt x (by omega : 0 ≤ cy) hx
 have hI := freeN_isf (rowsA s.1) per (capX cy x + 1).toNat
 rw [show (((capX cy x + 1).toNat : Nat) : Int) - 1 = capX cy x by omega] at hI
 by_cases hc : slotX per cy s.1 x ≥ 0
 · rw [show stepD per cy s x = (s.1.set (slotX per cy s.1 x).toNat (s.1.getD (slotX per cy s.1 x).toNat [] ++ [x]),s.2) from if_pos hc]
   refine .inl ⟨set_flat x _ _ ?_,rfl⟩
   have h1 : slotX per cy s.1 x ≤ capX cy x := hI.le
   have := h.len
   omega
 · rw [show stepD per cy s x = (s.1,x :: s.2) from if_neg hc]
   exact .inr ⟨rfl,rfl⟩
structure RUN (per cy : Int) (n : Nat) (s : List (List DUE) × List DUE) (P : List DUE) : Prop where
 g : GSD per cy n s.1 s.2
 p : (s.1.flatten ++ s.2).Perm P
 c : ∀ x ∈ P,0 ≤ x.2.1
theorem RUN.step {per cy : Int} {n : Nat} {s : List (List DUE) × List DUE} {P : List DUE} (h : RUN per cy n s P) (hp : 0 ≤ per) (hn : (n : Int) = cy) {x : DUE} (hx : 0 ≤ x.2.1) : RUN per cy n (stepD per cy s x) (P ++ [x]) := by
 refine ⟨h.g.step hp hn hx,?_,fun y hy => ?_⟩
 · have h1 : (P ++ [x]).Perm (x :: P) := List.perm_append_comm
   refine List.Perm.trans ?_ h1.symm
   rcases stepD_cases h.g hn hx with ⟨q1,q2⟩ | ⟨q1,q2⟩
   · rw [q2]
     exact (q1.append_right s.2).trans (h.p.cons x)
   · rw [q1,q2]
     exact List.perm_middle.trans (h.p.cons x)
 · rcases List.mem_append.1 hy with hy | hy
   · exact h.c y hy
   · rw [List.mem_singleton] at hy; subst hy; exact hx
theorem RUN.start (per cy : Int) (n : Nat) (hp : 0 ≤ per) : RUN per cy n (List.replicate n [],[]) [] := ⟨GSD.start per cy n hp,by
 have : (List.replicate n ([] : List DUE)).flatten = [] := by
   rw [List.flatten_eq_nil_iff]
   exact fun l hl => List.eq_of_mem_replicate hl
 rw [this]; exact .refl _,by simp⟩
theorem RUN.fold {per cy : Int} {n : Nat} (hp : 0 ≤ per) (hn : (n : Int) = cy) : ∀ (q : List DUE) {s : List (List DUE) × List DUE} {P : List DUE},RUN per cy n s P → (∀ x ∈ q,0 ≤ x.2.1) → RUN per cy n (q.foldl (stepD per cy) s) (P ++ q)
 | [],s,P,h,_ => by rw [List.append_nil]; exact h
 | x :: q,s,P,h,hq => by
   have h1 := RUN.fold hp hn q (h.step hp hn (hq x (by simp))) fun y hy => hq y (by simp [hy])
   rw [List.append_assoc] at h1
   exact h1
def finD (l : List DUE) (cy per : Int) : List (List DUE) × List DUE := (isoD l).foldl (stepD per cy) (List.replicate cy.toNat [],[])
def accD (l : List DUE) (cy per : Int) : List DUE := (finD l cy per).1.flatten
theorem badD_not {x : DUE} (h : ¬ badD x) : (0 ≤ x.1 ∧ x.1 ≤ 16777215) ∧ (0 ≤ x.2.1 ∧ x.2.1 ≤ 1048576) ∧ 0 ≤ x.2.2 ∧ x.2.2 ≤ 1048576 := by unfold badD at h; omega
theorem finD_run {l : List DUE} (h : DUES l) {cy per : Int} (hc : 0 ≤ cy) (hp : 0 ≤ per) : RUN per cy cy.toNat (finD l cy per) (isoD l) :=
 RUN.fold hp (by omega) (isoD l) (RUN.start per cy cy.toNat hp) fun x hx => (badD_not (h.b x ((isoD_perm l).mem_iff.1 hx))).2.1.1
theorem cnt_rows {per : Int} (hp : 0 ≤ per) (f : DUE → Int) (k : Nat) : ∀ (D : List (List DUE)) (c : Nat),(∀ r : Nat,∀ x ∈ D.getD r [],((c + r : Nat) : Int) ≤ f x) → (∀ r : Nat,((D.getD r []).length : Int) ≤ per) → ((D.flatten.countP fun x => decide (f x < k) : Nat) : Int) ≤ ((k - c : Nat) : Int) * per
 | [],c,_,_ => by
   have := Int.mul_nonneg (a := ((k - c : Nat) : Int)) (b := per) (by omega) hp
   simpa using this
 | r :: D,c,h1,h2 => by
   have ih := cnt_rows hp f k D (c + 1) (fun j x hx => by have := h1 (j + 1) x (by simpa using hx); omega) fun j => by have := h2 (j + 1); simpa using this
   rw [List.flatten_cons,List.countP_append]
   push_cast
   by_cases hck : c < k
   · have e : ((k - c : Nat) : Int) = ((k - (c + 1) : Nat) : Int) + 1 := by omega
     rw [e,Int.add_mul,Int.one_mul]
     have h3 := h2 0
     rw [List.getD_cons_zero] at h3
     have h4 : r.countP (fun x => decide (f x < k)) ≤ r.length := List.countP_le_length
     omega
   · have h3 : r.countP (fun x => decide (f x < k)) = 0 := List.countP_eq_zero.2 fun x hx => by
       have := h1 0 x (by simpa using hx)
       simp only [decide_eq_true_eq]; omega
     rw [h3,show k - c = 0 by omega]
     rw [show k - (c + 1) = 0 by omega] at ih
     simpa using ih
end Go.Ab
