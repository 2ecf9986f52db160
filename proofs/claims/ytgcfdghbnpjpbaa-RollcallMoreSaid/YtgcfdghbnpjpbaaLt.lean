/- Whole. -/
import Derived.Test.YtgcfdghbnpjpbaaLr
set_option linter.unusedSimpArgs false
set_option linter.unusedVariables false
set_option maxRecDepth 20000
set_option maxHeartbeats 8000000
namespace Go.Ab
open Go.Proofs
structure PSH (R : List ROW) : Prop where
 a : R.length ≤ 64
 b : ∀ r ∈ R, r.2.length ≤ 64
theorem planR_shape (l : List DUE) (cy per : Int) : PSH (planR l cy per) := by
 unfold planR
 by_cases h : wrnM l cy per = 0
 · rw [if_neg (fun h' => h' h)]
   have hck : chkD l = 0 ∧ 0 ≤ cy ∧ cy ≤ 64 := by
     unfold wrnM at h
     split at h
     · rename_i h'; exact absurd h h'
     · rename_i h'
       split at h
       · cases h
       · exact ⟨Classical.not_not.1 h', by omega, by omega⟩
   have hD := chkD_ok hck.1
   have hs := (sortT_spec l).1
   have hn := hD.n
   refine ⟨by simp only [rowsP, planN, List.length_map, fold_len, List.length_replicate]; omega, fun r hr => ?_⟩
   obtain ⟨x, hx, rfl⟩ := List.mem_map.1 hr
   obtain ⟨y, hy, rfl⟩ := List.mem_map.1 hx
   have := fold_row per cy (sortT l) (List.replicate cy.toNat []) 0 (fun l hl => by rw [List.eq_of_mem_replicate hl]; exact Nat.le_refl _) y hy
   show (srtI y).length ≤ 64
   rw [srtI_len]; omega
 · rw [if_pos h]
   exact ⟨by simp, by simp⟩
end Go.Ab
