/- Plan's result,worked out. -/
import Derived.Test.YtgcfdghbnpjpbaaLo
set_option linter.unusedSimpArgs false
set_option linter.unusedVariables false
set_option maxRecDepth 20000
set_option maxHeartbeats 4000000
namespace Go.Ab
open Go.Proofs Go.RowKit
def befP (x y : DUE) : Prop := y.2.2 < x.2.2 ∨ (y.2.2 = x.2.2 ∧ x.1 < y.1)
instance (x y : DUE) : Decidable (befP x y) := by unfold befP; infer_instance
def insD (x : DUE) : List DUE → List DUE
 | [] => [x]
 | y :: r => if befP y x then y :: insD x r else x :: y :: r
def isoD : List DUE → List DUE
 | [] => []
 | x :: l => insD x (isoD l)
def insI (x : Int) : List Int → List Int
 | [] => [x]
 | y :: r => if y < x then y :: insI x r else x :: y :: r
def isoI : List Int → List Int
 | [] => []
 | x :: l => insI x (isoI l)
theorem insD_perm (x : DUE) : ∀ l,(insD x l).Perm (x :: l)
 | [] => .refl _
 | y :: r => by
   unfold insD
   split
   · exact ((insD_perm x r).cons y).trans (.swap x y r)
   · exact .refl _
theorem isoD_perm : ∀ l,(isoD l).Perm l
 | [] => .refl _
 | x :: l => (insD_perm x _).trans ((isoD_perm l).cons x)
theorem insI_perm (x : Int) : ∀ l,(insI x l).Perm (x :: l)
 | [] => .refl _
 | y :: r => by
   unfold insI
   split
   · exact ((insI_perm x r).cons y).trans (.swap x y r)
   · exact .refl _
theorem isoI_perm : ∀ l,(isoI l).Perm l
 | [] => .refl _
 | x :: l => (insI_perm x _).trans ((isoI_perm l).cons x)
theorem insI_sorted (x : Int) : ∀ l : List Int,l.Pairwise (· ≤ ·) → (insI x l).Pairwise (· ≤ ·)
 | [],_ => by simp [insI]
 | y :: r,h => by
   rw [List.pairwise_cons] at h
   unfold insI
   split
   · rename_i hy
     rw [List.pairwise_cons]
     refine ⟨fun z hz => ?_,insI_sorted x r h.2⟩
     rcases List.mem_cons.1 ((insI_perm x r).mem_iff.1 hz) with rfl | hz
     · omega
     · exact h.1 z hz
   · rename_i hy
     rw [List.pairwise_cons,List.pairwise_cons]
     refine ⟨fun z hz => ?_,h⟩
     rcases List.mem_cons.1 hz with rfl | hz
     · omega
     · have := h.1 z hz; omega
theorem isoI_sorted : ∀ l,(isoI l).Pairwise (· ≤ ·)
 | [] => .nil
 | x :: l => insI_sorted x _ (isoI_sorted l)
theorem srtI_eq (l : List Int) : srtI l = isoI l := by
 have h1 : (srtI l).Pairwise (fun a b => decide (a ≤ b) = true) := List.pairwise_mergeSort (fun a b c h1 h2 => by simp at *; omega) (fun a b => by simp; omega) l
 refine List.Perm.eq_of_pairwise (le := (· ≤ · : Int → Int → Prop)) (fun a b _ _ h1 h2 => by omega) (h1.imp fun h => by simpa using h) (isoI_sorted l) ((List.mergeSort_perm l _).trans (isoI_perm l).symm)
theorem befP_total {x y : DUE} (h : x.1 ≠ y.1) : befP x y ∨ befP y x := by unfold befP; omega
theorem befP_trans {x y z : DUE} : befP x y → befP y z → befP x z := by unfold befP; omega
theorem befP_asymm {x y : DUE} : befP x y → ¬ befP y x := by unfold befP; omega
theorem insD_sorted (x : DUE) : ∀ l : List DUE,(∀ y ∈ l,y.1 ≠ x.1) → l.Pairwise befP → (insD x l).Pairwise befP
 | [],_,_ => by simp [insD]
 | y :: r,hn,h => by
   rw [List.pairwise_cons] at h
   unfold insD
   split
   · rename_i hy
     rw [List.pairwise_cons]
     refine ⟨fun z hz => ?_,insD_sorted x r (fun z hz => hn z (by simp [hz])) h.2⟩
     rcases List.mem_cons.1 ((insD_perm x r).mem_iff.1 hz) with rfl | hz
     · exact hy
     · exact h.1 z hz
   · rename_i hy
     have hxy : befP x y := (befP_total (hn y (by simp)).symm).resolve_right hy
     rw [List.pairwise_cons,List.pairwise_cons]
     refine ⟨fun z hz => ?_,h⟩
     rcases List.mem_cons.1 hz with rfl | hz
     · exact hxy
     · exact befP_trans hxy (h.1 z hz)
theorem isoD_sorted : ∀ l : List DUE,(l.map (·.1)).Nodup → (isoD l).Pairwise befP
 | [],_ => .nil
 | x :: l,h => by
   rw [List.map_cons,List.nodup_cons] at h
   exact insD_sorted x _ (fun y hy e => h.1 (by rw [← e]; exact List.mem_map_of_mem ((isoD_perm l).mem_iff.1 hy))) (isoD_sorted l h.2)
theorem sortT_eq {l : List DUE} (hu : (l.map (·.1)).Nodup) : sortT l = isoD l := by
 obtain ⟨h1,h2,h3⟩ := sortT_spec l
 have hu2 : ((sortT l).map (·.1)).Nodup := (h2.map _).nodup_iff.2 hu
 have hs : (sortT l).Pairwise befP := by
   rw [List.pairwise_iff_getElem]
   intro i j hi hj hij
   have h4 := h3 i j hij (by omega)
   rw [List.getD,List.getElem?_eq_getElem hj,List.getD,List.getElem?_eq_getElem hi] at h4
   have h5 : ¬ befP (sortT l)[j] (sortT l)[i] := of_decide_eq_false h4
   have h6 : (sortT l)[i].1 ≠ (sortT l)[j].1 := nodup_idx hu2 hij hj
   exact (befP_total h6).resolve_right h5
 exact List.Perm.eq_of_pairwise (le := befP) (fun a b _ _ h1 h2 => absurd h2 (befP_asymm h1)) hs (isoD_sorted l hu) (h2.trans (isoD_perm l).symm)
def planC (l : List DUE) (cy per : Int) : List (List Int) := ((isoD l).foldl (placeM per cy) (List.replicate cy.toNat [])).map isoI
theorem planN_eq {l : List DUE} (h : DUES l) (cy per : Int) : planN l cy per = planC l cy per := by
 unfold planN planC
 rw [sortT_eq h.u]
 exact List.map_congr_left fun x _ => srtI_eq x
def planK (l : List DUE) (cy per : Int) : List ROW := if wrnM l cy per ≠ 0 then [] else rowsP (planC l cy per)
theorem planR_eq (l : List DUE) (cy per : Int) : planR l cy per = planK l cy per := by
 unfold planR planK
 by_cases h : wrnM l cy per = 0
 · rw [if_neg (fun h' => h' h),if_neg (fun h' => h' h),planN_eq]
   refine chkD_ok ?_
   unfold wrnM at h
   split at h
   · rename_i h'; exact absurd h h'
   · rename_i h'; exact Classical.not_not.1 h'
 · rw [if_pos h,if_pos h]
def exD : List DUE := [(1,0,5),(2,0,7),(3,1,5),(4,9,1)]
theorem ex21 : planK exD 2 1 = [(none,[2]),(none,[3])] ∧ wrnM exD 2 1 = 0 := by decide +kernel
theorem ex22 : planK exD 2 2 = [(none,[1,2]),(none,[3,4])] ∧ wrnM exD 2 2 = 0 := by decide +kernel
theorem ex31 : planK exD 3 1 = [(none,[2]),(none,[3]),(none,[4])] ∧ wrnM exD 3 1 = 0 := by decide +kernel
theorem ex01 : planK exD 0 1 = [] ∧ wrnM exD 0 1 = 0 := by decide +kernel
end Go.Ab
