/- RollcallWorth. -/
import Derived.Test.YtgcfdghbnpjpbaaLq
set_option linter.unusedSimpArgs false
set_option linter.unusedVariables false
set_option maxRecDepth 20000
set_option maxHeartbeats 8000000
namespace Go.Ab
open Go.Proofs
theorem long_ok {l : List DUE} {s : List ROW} (h : lonB l s = false) : l.length ≤ 80 ∧ s.length ≤ 80 ∧ ∀ r ∈ s,r.2.length ≤ 80 := by
 unfold lonB at h
 simp only [Bool.or_eq_false_iff,decide_eq_false_iff_not,List.any_eq_false,decide_eq_true_eq] at h
 exact ⟨by omega,by omega,fun r hr => by have := h.2 r hr; omega⟩
end Go.Ab
