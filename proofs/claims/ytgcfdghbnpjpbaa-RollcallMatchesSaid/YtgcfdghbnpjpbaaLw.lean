/- What Worth says of the plan; the order of the targets. -/
import Derived.Test.YtgcfdghbnpjpbaaLv
set_option linter.unusedSimpArgs false
set_option linter.unusedVariables false
set_option maxRecDepth 20000
set_option maxHeartbeats 4000000
namespace Go.Ab
open Go.Proofs Go.RowKit
theorem flat_iso : ∀ R : List (List Int),(R.map isoI).flatten.Perm R.flatten
 | [] => .refl _
 | r :: R => by
   rw [List.map_cons,List.flatten_cons,List.flatten_cons]
   exact ((isoI_perm r).append_right _).trans ((flat_iso R).append_left r)
theorem flat_rowsA (D : List (List DUE)) : (rowsA D).flatten = D.flatten.map (·.1) := by
 unfold rowsA
 rw [List.map_flatten]
theorem planC_eq (l : List DUE) (cy per : Int) : planC l cy per = (rowsA (finD l cy per).1).map isoI := by
 unfold planC finD
 rw [foldD_rows]
 congr 2
 simp [rowsA]
theorem wrnM_ok {l : List DUE} {cy per : Int} (h : wrnM l cy per = 0) : chkD l = 0 ∧ DUES l ∧ (0 ≤ cy ∧ cy ≤ 64) ∧ 0 ≤ per ∧ per ≤ 64 := by
 unfold wrnM at h
 split at h
 · rename_i h'; exact absurd h h'
 · rename_i h'
   split at h
   · cases h
   · have hk := Classical.not_not.1 h'
     exact ⟨hk,chkD_ok hk,by omega,by omega⟩
theorem planR_ok {l : List DUE} {cy per : Int} (h : wrnM l cy per = 0) : planR l cy per = rowsP (planC l cy per) := by
 rw [planR_eq]
 exact if_neg (fun h' => h' h)
end Go.Ab
