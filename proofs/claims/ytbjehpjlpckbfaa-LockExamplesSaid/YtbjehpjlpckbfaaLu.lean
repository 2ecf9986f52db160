/- LockRenewal. -/
import Derived.Test.YtbjehpjlpckbfaaLt
set_option linter.unusedSimpArgs false
set_option linter.unusedVariables false
set_option maxRecDepth 20000
set_option maxHeartbeats 8000000
namespace Go.Ab
open Go.Proofs
theorem TICKR.tab {tw c : Int} {n : Nat} {l : LE} {t e tw' : Int} {l' : LE} (h : TAB c n l) (hR : TICKR tw l t e tw' l') : TAB c l'.length l' := by
 cases hR with
 | «at» => rw [h.nl]; exact h
 | ok => exact h.live t
end Go.Ab
