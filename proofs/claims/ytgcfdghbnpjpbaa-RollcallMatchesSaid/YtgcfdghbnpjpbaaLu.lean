/- The greedy plan,as rows of targets: what it holds. -/
import Derived.Test.YtgcfdghbnpjpbaaLt
set_option linter.unusedSimpArgs false
set_option linter.unusedVariables false
set_option maxRecDepth 20000
set_option maxHeartbeats 4000000
namespace Go.Ab
open Go.Proofs
def rowsA (D : List (List DUE)) : List (List Int) := D.map fun r => r.map (·.1)
def capX (cy : Int) (x : DUE) : Int := capI x.2.1 cy
def slotX (per cy : Int) (D : List (List DUE)) (x : DUE) : Int := freeN (rowsA D) per (capX cy x + 1).toNat
def stepD (per cy : Int) (s : List (List DUE) × List DUE) (x : DUE) : List (List DUE) × List DUE :=
 if slotX per cy s.1 x ≥ 0 then (s.1.set (slotX per cy s.1 x).toNat (s.1.getD (slotX per cy s.1 x).toNat [] ++ [x]),s.2) else (s.1,x :: s.2)
theorem rowsA_get (D : List (List DUE)) (r : Nat) : (rowsA D).getD r [] = (D.getD r []).map (·.1) := by
 simp only [rowsA,List.getD,List.getElem?_map]
 cases D[r]? <;> rfl
theorem rowsA_len (D : List (List DUE)) (r : Nat) : ((rowsA D).getD r []).length = (D.getD r []).length := by rw [rowsA_get,List.length_map]
theorem stepD_rows (per cy : Int) (s : List (List DUE) × List DUE) (x : DUE) : rowsA (stepD per cy s x).1 = placeM per cy (rowsA s.1) x := by
 by_cases hc : freeN (rowsA s.1) per (capI x.2.1 cy + 1).toNat ≥ 0
 · rw [show stepD per cy s x = (s.1.set (slotX per cy s.1 x).toNat (s.1.getD (slotX per cy s.1 x).toNat [] ++ [x]),s.2) from if_pos hc]
   unfold placeM
   rw [if_pos hc]
   show rowsA (s.1.set _ _) = _
   rw [rowsA,List.map_set,List.map_append,← rowsA_get]; rfl
 · rw [show stepD per cy s x = (s.1,x :: s.2) from if_neg hc]
   unfold placeM
   rw [if_neg hc]
theorem foldD_rows (per cy : Int) : ∀ (q : List DUE) (s : List (List DUE) × List DUE),rowsA (q.foldl (stepD per cy) s).1 = q.foldl (placeM per cy) (rowsA s.1)
 | [],_ => rfl
 | x :: q,s => by rw [List.foldl_cons,List.foldl_cons,foldD_rows per cy q,stepD_rows]
structure GSD (per cy : Int) (n : Nat) (D : List (List DUE)) (rej : List DUE) : Prop where
 len : D.length = n
 i2 : ∀ r : Nat,∀ x ∈ D.getD r [],(r : Int) ≤ capX cy x
 i3 : ∀ r : Nat,∀ x ∈ D.getD r [],∀ j : Nat,r < j → (j : Int) ≤ capX cy x → per ≤ (D.getD j []).length
 i4 : ∀ x ∈ rej,∀ j : Nat,(j : Int) ≤ capX cy x → per ≤ (D.getD j []).length
 ub : ∀ r : Nat,((D.getD r []).length : Int) ≤ per
theorem capX_lt {cy : Int} (x : DUE) (hcy : 0 ≤ cy) (hx : 0 ≤ x.2.1) : -1 ≤ capX cy x ∧ capX cy x < cy ∧ capX cy x ≤ x.2.1 := by
 unfold capX capI
 split <;> omega
theorem getD_set {α : Type} (l : List (List α)) (r j : Nat) (v : List α) (hr : r < l.length) : (l.set r v).getD j [] = if r = j then v else l.getD j [] := by
 simp only [List.getD,List.getElem?_set]
 by_cases h : r = j
 · rw [if_pos h,if_pos h,if_pos hr]; rfl
 · rw [if_neg h,if_neg h]
theorem GSD.step {per cy : Int} {n : Nat} {s : List (List DUE) × List DUE} (h : GSD per cy n s.1 s.2) (hp : 0 ≤ per) (hn : (n : Int) = cy) {x : DUE} (hx : 0 ≤ x.2.1) : GSD per cy n (stepD per cy s x).1 (stepD per cy s x).2 := by
 obtain ⟨c1,c2,_⟩ := capX_lt x (by omega : 0 ≤ cy) hx
 have hI := freeN_isf (rowsA s.1) per (capX cy x + 1).toNat
 rw [show (((capX cy x + 1).toNat : Nat) : Int) - 1 = capX cy x by omega] at hI
 have hno : ∀ j : Nat,slotX per cy s.1 x < j → (j : Int) ≤ capX cy x → per ≤ (s.1.getD j []).length := fun j h1 h2 => by
   have h3 := mt stop_rows.2 (hI.no j h1 h2)
   rw [rowsA_len] at h3
   omega
 unfold stepD
 split
 · rename_i hr
   obtain ⟨r,hr'⟩ : ∃ r : Nat,slotX per cy s.1 x = r := ⟨(slotX per cy s.1 x).toNat,by omega⟩
   rw [hr'] at hno ⊢
   have hle : (r : Int) ≤ capX cy x := by have := hI.le; rw [show freeN (rowsA s.1) per (capX cy x + 1).toNat = r from hr'] at this; exact this
   have hst := hI.st
   rw [show freeN (rowsA s.1) per (capX cy x + 1).toNat = r from hr'] at hst
   have hst := stop_rows.1 hst
   rw [rowsA_len] at hst
   have hrl : r < s.1.length := by have := h.len; omega
   show GSD per cy n (s.1.set ((r : Int)).toNat (s.1.getD ((r : Int)).toNat [] ++ [x])) s.2
   rw [Int.toNat_natCast]
   have hgrow : ∀ j : Nat,(s.1.getD j []).length ≤ ((s.1.set r (s.1.getD r [] ++ [x])).getD j []).length := fun j => by
     rw [getD_set _ _ _ _ hrl]
     split
     · rename_i e; subst e; simp
     · exact Nat.le_refl _
   refine ⟨by rw [List.length_set]; exact h.len,fun k y hy => ?_,fun k y hy j h1 h2 => ?_,fun y hy j hj => ?_,fun k => ?_⟩
   · rw [getD_set _ _ _ _ hrl] at hy
     split at hy
     · rename_i e; subst e
       rcases List.mem_append.1 hy with hy | hy
       · exact h.i2 _ y hy
       · rw [List.mem_singleton] at hy; subst hy; exact hle
     · exact h.i2 _ y hy
   · rw [getD_set _ _ _ _ hrl] at hy
     have hg := hgrow j
     split at hy
     · rename_i e; subst e
       rcases List.mem_append.1 hy with hy | hy
       · have := h.i3 _ y hy j h1 h2; omega
       · rw [List.mem_singleton] at hy; subst hy
         have := hno j (by omega) h2; omega
     · have := h.i3 _ y hy j h1 h2; omega
   · have := h.i4 y hy j hj
     have hg := hgrow j
     omega
   · rw [getD_set _ _ _ _ hrl]
     split
     · rw [List.length_append]
       simp only [List.length_cons,List.length_nil]
       omega
     · exact h.ub k
 · rename_i hr
   refine ⟨h.len,h.i2,h.i3,fun y hy j hj => ?_,h.ub⟩
   rcases List.mem_cons.1 hy with rfl | hy
   · exact hno j (by omega) hj
   · exact h.i4 y hy j hj
theorem GSD.start (per cy : Int) (n : Nat) (hp : 0 ≤ per) : GSD per cy n (List.replicate n []) [] := by
 have h0 : ∀ r : Nat,(List.replicate n ([] : List DUE)).getD r [] = [] := fun r => by
   simp only [List.getD,List.getElem?_replicate]
   split <;> rfl
 refine ⟨by simp,fun r x hx => ?_,fun r x hx => ?_,(fun x hx => by cases hx),fun r => ?_⟩
 · rw [h0] at hx; cases hx
 · rw [h0] at hx; cases hx
 · rw [h0]; exact hp
theorem first_room (per : Int) (D : List (List DUE)) : ∃ T,T ≤ D.length ∧ (∀ j,j < T → per ≤ (D.getD j []).length) ∧ (T < D.length → ¬ per ≤ (D.getD T []).length) := by
 have key : ∀ k,k ≤ D.length → (∃ T,T ≤ k ∧ (∀ j,j < T → per ≤ (D.getD j []).length) ∧ T < D.length ∧ ¬ per ≤ (D.getD T []).length) ∨ ∀ j,j < k → per ≤ (D.getD j []).length := by
   intro k
   induction k with
   | zero => exact fun _ => .inr fun j hj => by omega
   | succ k ih =>
     intro hk
     rcases ih (by omega) with ⟨T,h1,h2,h3,h4⟩ | h
     · exact .inl ⟨T,by omega,h2,h3,h4⟩
     · by_cases hf : per ≤ (D.getD k []).length
       · refine .inr fun j hj => ?_
         by_cases e : j = k
         · rw [e]; exact hf
         · exact h j (by omega)
       · exact .inl ⟨k,by omega,h,by omega,hf⟩
 rcases key D.length (Nat.le_refl _) with ⟨T,h1,h2,h3,h4⟩ | h
 · exact ⟨T,by omega,h2,fun _ => h4⟩
 · exact ⟨D.length,Nat.le_refl _,h,fun h => by omega⟩
theorem take_flat (per : Int) : ∀ (D : List (List DUE)) (T : Nat),T ≤ D.length → (∀ j,j < T → per ≤ (D.getD j []).length) → (T : Int) * per ≤ ((D.take T).flatten.length : Int)
 | D,0,_,_ => by simp
 | [],T + 1,h,_ => by simp at h
 | r :: D,T + 1,h,hf => by
   have ih := take_flat per D T (by simpa using h) (fun j hj => by have := hf (j + 1) (by omega); simpa using this)
   have h0 := hf 0 (by omega)
   simp only [List.getD_cons_zero] at h0
   rw [List.take_succ_cons,List.flatten_cons,List.length_append]
   push_cast
   rw [Int.add_mul]
   omega
theorem mem_take_flat {D : List (List DUE)} {T : Nat} {x : DUE} (h : x ∈ (D.take T).flatten) : ∃ r,r < T ∧ x ∈ D.getD r [] := by
 obtain ⟨l,hl,hx⟩ := List.mem_flatten.1 h
 obtain ⟨r,hr,rfl⟩ := List.mem_take_iff_getElem.1 hl
 refine ⟨r,by omega,?_⟩
 rw [List.getD,List.getElem?_eq_getElem (by omega)]
 exact hx
theorem GSD.most {per cy : Int} {n : Nat} {D : List (List DUE)} {rej P : List DUE} (h : GSD per cy n D rej) (hn : (n : Int) = cy) (hcap : ∀ x ∈ P,capX cy x < cy) (hP : (D.flatten ++ rej).Perm P) (p : DUE → Bool)
   (hall : ∀ k : Nat,k ≤ n → ((P.countP fun x => p x && decide (capX cy x < k) : Nat) : Int) ≤ k * per) : P.countP p ≤ D.flatten.length := by
 obtain ⟨T,t1,t2,t3⟩ := first_room per D
 have hr : ∀ x ∈ rej,capX cy x < T := fun x hx => by
   apply Int.not_le.1
   intro hle
   have hc := hcap x (hP.mem_iff.1 (by simp [hx]))
   have := h.len
   exact t3 (by omega) (h.i4 x hx T hle)
 have ht : ∀ x ∈ (D.take T).flatten,capX cy x < T := fun x hx => by
   obtain ⟨r,hrT,hxr⟩ := mem_take_flat hx
   apply Int.not_le.1
   intro hle
   have hxD : x ∈ D.flatten := by
     rw [← List.take_append_drop T D,List.flatten_append]
     exact List.mem_append_left _ hx
   have hc := hcap x (hP.mem_iff.1 (by simp [hxD]))
   have := h.len
   exact t3 (by omega) (h.i3 r x hxr T hrT hle)
 have e1 : P.countP p = P.countP (fun x => p x && decide (capX cy x < T)) + P.countP (fun x => p x && !decide (capX cy x < T)) := by
   clear hall hP hcap
   induction P with
   | nil => rfl
   | cons x P ih =>
     simp only [List.countP_cons,ih]
     cases p x <;> cases decide (capX cy x < T) <;> simp <;> omega
 have e2 : P.countP (fun x => p x && !decide (capX cy x < T)) ≤ P.countP (fun x => !decide (capX cy x < T)) := List.countP_mono_left fun x _ hx => by
   simp only [Bool.and_eq_true] at hx; exact hx.2
 have e3 : P.countP (fun x => !decide (capX cy x < T)) = D.flatten.countP (fun x => !decide (capX cy x < T)) := by
   rw [← hP.countP_eq,List.countP_append]
   have : rej.countP (fun x => !decide (capX cy x < T)) = 0 := List.countP_eq_zero.2 fun x hx => by simp [hr x hx]
   omega
 have hcp : ∀ (pp : DUE → Bool) (L : List DUE),L.length = L.countP pp + L.countP (fun x => !pp x) := fun pp L => by
   induction L with
   | nil => rfl
   | cons x L ih =>
     simp only [List.countP_cons,List.length_cons,ih]
     cases pp x <;> simp <;> omega
 have e4 := hcp (fun x => decide (capX cy x < T)) D.flatten
 have e5 : (D.take T).flatten.length ≤ D.flatten.countP (fun x => decide (capX cy x < T)) := by
   rw [← List.take_append_drop T D,List.flatten_append,List.countP_append]
   have : (List.take T (List.take T D ++ List.drop T D)).flatten.countP (fun x => decide (capX cy x < T)) = (List.take T (List.take T D ++ List.drop T D)).flatten.length := by
     rw [List.take_append_drop]
     exact List.countP_eq_length.2 fun x hx => by simp [ht x hx]
   rw [List.take_append_drop] at this ⊢
   omega
 have e6 := take_flat per D T t1 t2
 have e7 := hall T (by have := h.len; omega)
 have e8 : ((P.countP fun x => p x && decide (capX cy x < (T : Int)) : Nat) : Int) ≤ (D.take T).flatten.length := Int.le_trans e7 e6
 omega
end Go.Ab
