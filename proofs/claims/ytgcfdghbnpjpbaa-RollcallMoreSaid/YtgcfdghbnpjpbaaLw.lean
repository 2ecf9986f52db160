/- What Worth says of the plan; the order of the targets. -/
import Derived.Test.YtgcfdghbnpjpbaaLv
set_option linter.unusedSimpArgs false
set_option linter.unusedVariables false
set_option maxRecDepth 20000
set_option maxHeartbeats 4000000
namespace Go.Ab
open Go.Proofs Go.RowKit
def wOf (l : List DUE) (a : Int) : Int := match l.find? (fun x => decide (x.1 = a)) with
 | some x => x.2.2
 | none => 0
def wAll (l : List DUE) : List Int → Int
 | [] => 0
 | a :: r => wOf l a + wAll l r
theorem wAll_append (l : List DUE) : ∀ a b : List Int, wAll l (a ++ b) = wAll l a + wAll l b
 | [], b => by simp [wAll]
 | x :: a, b => by
   rw [List.cons_append, wAll, wAll, wAll_append l a b]
   omega
theorem wAll_perm (l : List DUE) {a b : List Int} (h : a.Perm b) : wAll l a = wAll l b := by
 induction h with
 | nil => rfl
 | cons x _ ih => rw [wAll, wAll, ih]
 | swap x y l => simp only [wAll]; omega
 | trans _ _ h1 h2 => exact h1.trans h2
theorem wAll_eq {l : List DUE} (hu : (l.map (·.1)).Nodup) : ∀ q : List DUE, (∀ x ∈ q, x ∈ l) → wAll l (q.map (·.1)) = wsm q
 | [], _ => rfl
 | x :: q, h => by
   rw [List.map_cons, wAll, wsm, wAll_eq hu q fun y hy => h y (by simp [hy])]
   unfold wOf
   rw [uni_find hu x (h x (by simp))]
theorem worA_ok (l : List DUE) (c : Int) : ∀ (aa dn : List Int) (s : Int), (∀ a ∈ aa, ∃ x, l.find? (fun x => decide (x.1 = a)) = some x ∧ c ≤ x.2.1) → aa.Nodup → (∀ a ∈ aa, a ∉ dn) →
   ∃ dn', worA l c aa dn s = (0, dn', s + wAll l aa) ∧ ∀ b, b ∈ dn' ↔ b ∈ aa ∨ b ∈ dn
 | [], dn, s, _, _, _ => ⟨dn, by simp [worA, wAll], by simp⟩
 | a :: r, dn, s, h, hn, hd => by
   obtain ⟨x, hx, hc⟩ := h a (by simp)
   rw [List.nodup_cons] at hn
   obtain ⟨dn', e, hm⟩ := worA_ok l c r (a :: dn) (s + x.2.2) (fun b hb => h b (by simp [hb])) hn.2 fun b hb hb' => by
     rcases List.mem_cons.1 hb' with e | hb'
     · exact hn.1 (e ▸ hb)
     · exact hd b (by simp [hb]) hb'
   refine ⟨dn', ?_, fun b => ?_⟩
   · unfold worA
     rw [hx]
     dsimp only
     rw [if_neg (hd a (by simp)), if_neg (by omega), e, wAll, show wOf l a = x.2.2 by unfold wOf; rw [hx], Int.add_assoc]
   · rw [hm b, List.mem_cons, List.mem_cons]
     constructor
     · rintro (h | h | h) <;> simp [h]
     · rintro ((h | h) | h) <;> simp [h]
theorem worR_ok (l : List DUE) (per : Int) : ∀ (R : List (List Int)) (c : Nat) (dn : List Int) (s : Int), (∀ r : Nat, ((R.getD r []).length : Int) ≤ per ∧ ∀ a ∈ R.getD r [], ∃ x, l.find? (fun x => decide (x.1 = a)) = some x ∧ ((c + r : Nat) : Int) ≤ x.2.1) →
   R.flatten.Nodup → (∀ a ∈ R.flatten, a ∉ dn) → worR l per (rowsP R) c dn s = (s + wAll l R.flatten, 0)
 | [], c, dn, s, _, _, _ => by simp [rowsP, worR, wAll]
 | r :: R, c, dn, s, h, hn, hd => by
   rw [List.flatten_cons, List.nodup_append] at hn
   obtain ⟨n1, n2, n3⟩ := hn
   obtain ⟨h1, h2⟩ := h 0
   rw [List.getD_cons_zero] at h1 h2
   obtain ⟨dn', e, hm⟩ := worA_ok l c r dn s (fun a ha => by simpa using h2 a ha) n1 fun a ha => hd a (by simp [ha])
   have ih := worR_ok l per R (c + 1) dn' (s + wAll l r) (fun j => by
     have := h (j + 1)
     rw [List.getD_cons_succ] at this
     rw [show c + 1 + j = c + (j + 1) by omega]
     exact this) n2 fun a ha hb => by
       rcases (hm a).1 hb with hb | hb
       · exact n3 a hb a ha rfl
       · exact hd a (by simp only [List.flatten_cons, List.mem_append]; exact .inr ha) hb
   show worR l per ((none, r) :: rowsP R) c dn s = _
   unfold worR
   dsimp only
   rw [if_neg (by omega), e]
   dsimp only
   rw [if_neg (fun h => h rfl)]
   push_cast at ih
   rw [ih, List.flatten_cons, wAll_append, Int.add_assoc]
theorem flat_iso : ∀ R : List (List Int), (R.map isoI).flatten.Perm R.flatten
 | [] => .refl _
 | r :: R => by
   rw [List.map_cons, List.flatten_cons, List.flatten_cons]
   exact ((isoI_perm r).append_right _).trans ((flat_iso R).append_left r)
theorem flat_rowsA (D : List (List DUE)) : (rowsA D).flatten = D.flatten.map (·.1) := by
 unfold rowsA
 rw [List.map_flatten]
theorem planC_eq (l : List DUE) (cy per : Int) : planC l cy per = (rowsA (finD l cy per).1).map isoI := by
 unfold planC finD
 rw [foldD_rows]
 congr 2
 simp [rowsA]
theorem getD_map {α β : Type} (f : List α → List β) (hf : f [] = []) (R : List (List α)) (r : Nat) : (R.map f).getD r [] = f (R.getD r []) := by
 simp only [List.getD, List.getElem?_map]
 cases R[r]? <;> simp [hf]
theorem wrnM_ok {l : List DUE} {cy per : Int} (h : wrnM l cy per = 0) : chkD l = 0 ∧ DUES l ∧ (0 ≤ cy ∧ cy ≤ 64) ∧ 0 ≤ per ∧ per ≤ 64 := by
 unfold wrnM at h
 split at h
 · rename_i h'; exact absurd h h'
 · rename_i h'
   split at h
   · cases h
   · have hk := Classical.not_not.1 h'
     exact ⟨hk, chkD_ok hk, by omega, by omega⟩
theorem planR_ok {l : List DUE} {cy per : Int} (h : wrnM l cy per = 0) : planR l cy per = rowsP (planC l cy per) := by
 rw [planR_eq]
 exact if_neg (fun h' => h' h)
theorem worM_plan {l : List DUE} {cy per : Int} (h : wrnM l cy per = 0) : worM l (planR l cy per) per = (wsm (accD l cy per), 0) := by
 obtain ⟨hk, hD, hcy, hper⟩ := wrnM_ok h
 have hR := finD_run hD hcy.1 hper.1
 have hlen : (planC l cy per).length = cy.toNat := by
   rw [planC_eq, List.length_map, rowsA, List.length_map, hR.g.len]
 rw [planR_ok h]
 unfold worM
 rw [if_neg (fun h' => h' hk), if_neg (by omega), if_neg (by rw [rowsP, List.length_map, hlen]; omega)]
 have hperm : (planC l cy per).flatten.Perm ((accD l cy per).map (·.1)) := by
   rw [planC_eq]
   refine (flat_iso _).trans ?_
   rw [flat_rowsA]; exact .refl _
 have hmem : ∀ x ∈ accD l cy per, x ∈ l := fun x hx => (isoD_perm l).mem_iff.1 (hR.p.mem_iff.1 (List.mem_append_left _ hx))
 have hnd : ((accD l cy per).map (·.1)).Nodup := by
   have h1 : ((accD l cy per ++ (finD l cy per).2).map (·.1)).Nodup := ((hR.p.trans (isoD_perm l)).map _).nodup_iff.2 hD.u
   rw [List.map_append, List.nodup_append] at h1
   exact h1.1
 have := worR_ok l per (planC l cy per) 0 [] 0 (fun r => ?_) (hperm.nodup_iff.2 hnd) (by simp)
 · rw [Int.zero_add, wAll_perm l hperm, wAll_eq hD.u _ hmem] at this
   exact this
 · rw [planC_eq, getD_map isoI rfl, rowsA_get]
   refine ⟨by rw [(isoI_perm _).length_eq, List.length_map]; exact hR.g.ub r, fun a ha => ?_⟩
   obtain ⟨x, hx, rfl⟩ := List.mem_map.1 ((isoI_perm _).mem_iff.1 ha)
   have hr := hR.g.i2 r x hx
   have hrD : r < (finD l cy per).1.length := by
     apply Classical.byContradiction
     intro hn
     rw [List.getD, List.getElem?_eq_none (by omega)] at hx
     simp at hx
   have hxa : x ∈ accD l cy per := by
     rw [List.getD, List.getElem?_eq_getElem hrD] at hx
     exact List.mem_flatten.2 ⟨_, List.getElem_mem hrD, hx⟩
   have hxl := hmem x hxa
   have := (capX_lt (cy := cy) x hcy.1 (badD_not (hD.b x hxl)).2.1.1).2.2
   exact ⟨x, uni_find hD.u x hxl, by omega⟩
theorem chkT_of : ∀ (l : List DUE) (sn : List Int), (∀ x ∈ l, ¬ badD x) → (l.map (·.1)).Nodup → (∀ x ∈ l, x.1 ∉ sn) → chkT sn l = 0
 | [], _, _, _, _ => rfl
 | x :: l, sn, h1, h2, h3 => by
   rw [List.map_cons, List.nodup_cons] at h2
   unfold chkT
   rw [if_neg (h1 x (by simp)), if_neg (h3 x (by simp))]
   refine chkT_of l (x.1 :: sn) (fun y hy => h1 y (by simp [hy])) h2.2 fun y hy hy' => ?_
   rcases List.mem_cons.1 hy' with e | hy'
   · exact h2.1 (e ▸ List.mem_map_of_mem hy)
   · exact h3 y (by simp [hy]) hy'
theorem chkD_of {l : List DUE} (h : DUES l) : chkD l = 0 := by
 unfold chkD
 rw [if_neg (by have := h.n; omega)]
 exact chkT_of l [] h.b h.u (by simp)
theorem wrnM_turn {l : List DUE} {cy per : Int} (h : wrnM l cy per = 0) : wrnM l.reverse cy per = 0 ∧ planR l.reverse cy per = planR l cy per := by
 obtain ⟨hk, hD, hcy, hper⟩ := wrnM_ok h
 have hD' : DUES l.reverse := ⟨by rw [List.length_reverse]; exact hD.n, fun x hx => hD.b x (List.mem_reverse.1 hx), ((List.reverse_perm l).map _).nodup_iff.2 hD.u⟩
 have hw : wrnM l.reverse cy per = 0 := by
   unfold wrnM
   rw [if_neg (fun h' => h' (chkD_of hD')), if_neg (by omega)]
 refine ⟨hw, ?_⟩
 rw [planR_ok h, planR_ok hw]
 have : isoD l.reverse = isoD l := List.Perm.eq_of_pairwise (le := befP) (fun a b _ _ h1 h2 => absurd h2 (befP_asymm h1)) (isoD_sorted _ hD'.u) (isoD_sorted l hD.u) ((isoD_perm _).trans ((List.reverse_perm l).trans (isoD_perm l).symm))
 unfold planC
 rw [this]
theorem more_worth {l e : List DUE} {cy cy' per per' : Int} (h : wrnM l cy per = 0) (h' : wrnM (l ++ e) cy' per' = 0) (hcc : cy ≤ cy') (hpp : per ≤ per') :
   (worM (l ++ e) (planR (l ++ e) cy' per') per').2 = 0 ∧ (worM l (planR l cy per) per).1 ≤ (worM (l ++ e) (planR (l ++ e) cy' per') per').1 := by
 obtain ⟨_, hD, hcy, hper⟩ := wrnM_ok h
 obtain ⟨_, hD', _, _⟩ := wrnM_ok h'
 rw [worM_plan h, worM_plan h']
 exact ⟨rfl, acc_grows hD hD' hcy.1 hper.1 hcc hpp⟩
end Go.Ab
