/- The reference's Plan: plain part. -/
import Derived.Test.YtgcfdghbnpjpbaaLA
set_option linter.unusedSimpArgs false
set_option linter.unusedVariables false
set_option maxRecDepth 20000
set_option maxHeartbeats 8000000
namespace Go.Ab
open Go.Proofs Go.RowKit
def slotM (per cy : Int) (ls : List (List Int)) (x : DUE) : Int := freeN ls per (capI x.2.1 cy + 1).toNat
def placeI (per cy : Int) (ls : List (List Int)) (x : DUE) : List (List Int) :=
 if slotM per cy ls x ≥ 0 then ls.set (slotM per cy ls x).toNat (insI x.1 (ls.getD (slotM per cy ls x).toNat [])) else ls
theorem isoI_len (l : List Int) : (isoI l).length = l.length := (isoI_perm l).length_eq
theorem insI_iso (a : Int) (r : List Int) : insI a (isoI r) = isoI (r ++ [a]) :=
 List.Perm.eq_of_pairwise (le := (· ≤ · : Int → Int → Prop)) (fun a b _ _ h1 h2 => by omega) (insI_sorted a _ (isoI_sorted r)) (isoI_sorted _)
   ((insI_perm a _).trans (((isoI_perm r).cons a).trans ((isoI_perm (r ++ [a])).trans List.perm_append_comm).symm))
theorem getD_iso (ls : List (List Int)) (k : Nat) : (ls.map isoI).getD k [] = isoI (ls.getD k []) := by
 simp only [List.getD,List.getElem?_map]
 cases ls[k]? <;> rfl
theorem freeN_iso (ls : List (List Int)) (per : Int) : ∀ k : Nat,freeN (ls.map isoI) per k = freeN ls per k
 | 0 => rfl
 | k + 1 => by
   unfold freeN
   rw [freeN_iso ls per k,getD_iso,isoI_len]
theorem placeI_iso (per cy : Int) (ls : List (List Int)) (x : DUE) : placeI per cy (ls.map isoI) x = (placeM per cy ls x).map isoI := by
 unfold placeI placeM slotM
 rw [freeN_iso]
 split
 · rw [List.map_set,getD_iso,insI_iso]
 · rfl
theorem fold_iso (per cy : Int) : ∀ (q : List DUE) (ls : List (List Int)),q.foldl (placeI per cy) (ls.map isoI) = (q.foldl (placeM per cy) ls).map isoI
 | [],_ => rfl
 | x :: q,ls => by rw [List.foldl_cons,List.foldl_cons,placeI_iso,fold_iso per cy q]
theorem planC_fold (l : List DUE) (cy per : Int) : (isoD l).foldl (placeI per cy) (List.replicate cy.toNat []) = planC l cy per := by
 unfold planC
 rw [← fold_iso,List.map_replicate]
 rfl
structure REM (F : List Bool) (l rem : List DUE) : Prop where
 n : F.length = l.length
 f : ∀ (k : Nat) (hk : k < l.length),F.getD k false = decide (l[k] ∉ rem)
 m : ∀ x ∈ rem,x ∈ l
 s : rem.Pairwise befP
theorem gtR_nat (l : List DUE) {k : Nat} (hk : k < l.length) : gtR tDue l (k : Int) = l[k] := by
 simp [gtR,hk]
theorem befP_irr (x : DUE) : ¬ befP x x := fun h => befP_asymm h h
theorem nxtL_inv {l rem : List DUE} {F : List Bool} (hu : (l.map (·.1)).Nodup) (hF : REM F l rem) : ∀ (m i : Nat) (b : Int),i + m = l.length → (-1 ≤ b ∧ b < i) →
   (b = -1 → ∀ j (hj : j < l.length),j < i → l[j] ∉ rem) → (∀ k : Nat,b = k → ∀ hk : k < l.length,l[k] ∈ rem ∧ ∀ j (hj : j < l.length),j < i → l[j] ∈ rem → l[j] = l[k] ∨ befP l[k] l[j]) →
   ∃ b',nxtL l (l.drop i) (F.drop i) i b = b' ∧ (-1 ≤ b' ∧ b' < l.length) ∧ (b' = -1 → ∀ j (hj : j < l.length),l[j] ∉ rem) ∧ (∀ k : Nat,b' = k → ∀ hk : k < l.length,l[k] ∈ rem ∧ ∀ j (hj : j < l.length),l[j] ∈ rem → l[j] = l[k] ∨ befP l[k] l[j])
 | 0,i,b,hi,hb,h0,h1 => by
   refine ⟨b,?_,⟨hb.1,by omega⟩,fun h j hj => h0 h j hj (by omega),fun k e hk => ⟨(h1 k e hk).1,fun j hj hm => (h1 k e hk).2 j hj (by omega) hm⟩⟩
   rw [List.drop_eq_nil_of_le (by omega)]; rfl
 | m + 1,i,b,hi,hb,h0,h1 => by
   have hil : i < l.length := by omega
   have hFi : i < F.length := by rw [hF.n]; exact hil
   have hfi := hF.f i hil
   rw [List.getD,List.getElem?_eq_getElem hFi,Option.getD_some] at hfi
   rw [List.drop_eq_getElem_cons hil,List.drop_eq_getElem_cons hFi,nxtL]
   by_cases hd : F[i] = true
   · rw [if_pos hd]
     have hno : l[i] ∉ rem := by rw [hd] at hfi; exact of_decide_eq_true hfi.symm
     obtain ⟨b',e,r⟩ := nxtL_inv hu hF m (i + 1) b (by omega) ⟨hb.1,by omega⟩ (fun h j hj hji => by
       by_cases e : j = i
       · subst e; exact hno
       · exact h0 h j hj (by omega)) fun k e hk => ⟨(h1 k e hk).1,fun j hj hji hm => by
       by_cases e' : j = i
       · subst e'; exact absurd hm hno
       · exact (h1 k e hk).2 j hj (by omega) hm⟩
     exact ⟨b',e,r⟩
   · rw [if_neg hd]
     have hin : l[i] ∈ rem := by
       apply Classical.byContradiction
       intro hno
       rw [decide_eq_true hno] at hfi
       exact hd hfi
     split
     · rename_i hc
       obtain ⟨b',e,r⟩ := nxtL_inv hu hF m (i + 1) i (by omega) ⟨by omega,by omega⟩ (fun h => by omega) fun k e hk => by
         obtain rfl : i = k := by omega
         refine ⟨hin,fun j hj hji hm => ?_⟩
         by_cases e' : j = i
         · subst e'; exact .inl rfl
         · by_cases hb1 : b = -1
           · exact absurd hm (h0 hb1 j hj (by omega))
           · obtain ⟨kb,hkb⟩ : ∃ kb : Nat,b = kb := ⟨b.toNat,by omega⟩
             have hkl : kb < l.length := by omega
             obtain ⟨g1,g2⟩ := h1 kb hkb hkl
             have hbe : befP l[i] l[kb] := by
               rcases hc with hc | hc
               · omega
               · rw [hkb,gtR_nat l hkl] at hc; exact hc
             rcases g2 j hj (by omega) hm with g | g
             · rw [g]; exact .inr hbe
             · exact .inr (befP_trans hbe g)
       exact ⟨b',e,r⟩
     · rename_i hc
       have hb0 : ¬ b < 0 := fun h => hc (.inl h)
       obtain ⟨kb,hkb⟩ : ∃ kb : Nat,b = kb := ⟨b.toNat,by omega⟩
       have hkl : kb < l.length := by omega
       obtain ⟨g1,g2⟩ := h1 kb hkb hkl
       have hnb : ¬ befP l[i] l[kb] := fun h => hc (.inr (by rw [hkb,gtR_nat l hkl]; exact h))
       obtain ⟨b',e,r⟩ := nxtL_inv hu hF m (i + 1) b (by omega) ⟨hb.1,by omega⟩ (fun h => by omega) fun k e hk => by
         obtain rfl : kb = k := by omega
         refine ⟨g1,fun j hj hji hm => ?_⟩
         by_cases e' : j = i
         · subst e'
           have hne : l[kb].1 ≠ l[j].1 := nodup_idx hu (by omega) hj
           exact .inr ((befP_total hne).resolve_right hnb)
         · exact g2 j hj (by omega) hm
       exact ⟨b',e,r⟩
theorem nxt_spec {l rem : List DUE} {F : List Bool} (hu : (l.map (·.1)).Nodup) (hF : REM F l rem) : (rem = [] → nxtL l l F 0 (-1) = -1) ∧ ∀ x r,rem = x :: r → ∃ (k : Nat) (hk : k < l.length),nxtL l l F 0 (-1) = k ∧ l[k] = x := by
 obtain ⟨b',e,hb,h0,h1⟩ := nxtL_inv hu hF l.length 0 (-1) (by omega) ⟨by omega,by omega⟩ (fun _ j hj h => by omega) fun k e => by omega
 have e : nxtL l l F 0 (-1) = b' := e
 rw [e]
 refine ⟨fun hr => ?_,fun x r hr => ?_⟩
 · apply Classical.byContradiction
   intro hn
   obtain ⟨k,hk⟩ : ∃ k : Nat,b' = k := ⟨b'.toNat,by omega⟩
   have := (h1 k hk (by omega)).1
   rw [hr] at this; cases this
 · have hxl := hF.m x (by rw [hr]; simp)
   obtain ⟨j,hj,hjx⟩ := List.getElem_of_mem hxl
   have hjr : l[j] ∈ rem := by rw [hjx,hr]; simp
   have hn : b' ≠ -1 := fun h => h0 h j hj hjr
   obtain ⟨k,hk⟩ : ∃ k : Nat,b' = k := ⟨b'.toNat,by omega⟩
   have hkl : k < l.length := by omega
   obtain ⟨g1,g2⟩ := h1 k hk hkl
   refine ⟨k,hkl,hk,?_⟩
   have hs := hF.s
   rw [hr] at g1 hs
   rw [List.pairwise_cons] at hs
   rcases List.mem_cons.1 g1 with h | h
   · exact h
   · have h2 := hs.1 _ h
     rcases g2 j hj hjr with h3 | h3
     · rw [← h3,hjx]
     · rw [hjx] at h3; exact absurd h3 (befP_asymm h2)
theorem REM.start {l : List DUE} (hu : (l.map (·.1)).Nodup) : REM (List.replicate l.length false) l (isoD l) := ⟨by simp,fun k hk => by
 have : l[k] ∈ isoD l := (isoD_perm l).mem_iff.2 (List.getElem_mem hk)
 simp [List.getD,List.getElem?_replicate,hk,this],fun x hx => (isoD_perm l).mem_iff.1 hx,isoD_sorted l hu⟩
theorem REM.next {l r : List DUE} {x : DUE} {F : List Bool} (hu : (l.map (·.1)).Nodup) (hF : REM F l (x :: r)) {k : Nat} (hk : k < l.length) (hx : l[k] = x) : REM (F.set k true) l r := by
 have hs := hF.s
 rw [List.pairwise_cons] at hs
 refine ⟨by rw [List.length_set]; exact hF.n,fun j hj => ?_,fun y hy => hF.m y (by simp [hy]),hs.2⟩
 have hkF : k < F.length := by rw [hF.n]; exact hk
 have hxr : x ∉ r := fun h => befP_irr x (hs.1 x h)
 by_cases e : k = j
 · subst e
   have h1 : l[k] ∉ r := by rw [hx]; exact hxr
   simp [List.getD,List.getElem?_set_self hkF,h1]
 · have h1 : l[j] ≠ x := fun h => by
     have hne : l[k].1 ≠ l[j].1 := by
       rcases Nat.lt_or_gt_of_ne e with h2 | h2
       · exact nodup_idx hu h2 hj
       · exact (nodup_idx hu h2 hk).symm
     exact hne (by rw [hx,h])
   have h2 := hF.f j hj
   rw [List.getD,List.getElem?_set_ne e,← List.getD,h2,decide_eq_decide]
   simp [h1]
def rowsQ (ls : List (List Int)) : List ROW := ls.map fun l => (if l = [] then some true else none,l)
noncomputable def planQ (l : List DUE) (cy per : Int) : List ROW := if wrnM l cy per ≠ 0 then [] else rowsQ (planC l cy per)
end Go.Ab
