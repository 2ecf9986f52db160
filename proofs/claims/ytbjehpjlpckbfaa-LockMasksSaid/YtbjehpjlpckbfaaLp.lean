/- The table's methods: Tick, Sense, Locks. -/
import Derived.Test.YtbjehpjlpckbfaaLo
set_option linter.unusedSimpArgs false
set_option linter.unusedVariables false
set_option maxRecDepth 20000
set_option maxHeartbeats 8000000
namespace Go.Ab
open Go.Proofs
inductive TICKR (tw : Int) (l : LE) (t : Int) : Int → Int → LE → Prop
  | at (h : atE tw t ≠ 0) : TICKR tw l t (atE tw t) tw l
  | ok (h : atE tw t = 0) : TICKR tw l t 0 t (liveL t l)
section
variable {tw : Int} {l : LE} {t : Int} {e tw' : Int} {l' : LE} (h : TICKR tw l t e tw' l')
include h
theorem TICKR.bad (h1 : atE tw t ≠ 0) : e = atE tw t ∧ tw' = tw ∧ l' = l := by
  cases h with
  | «at» => exact ⟨rfl, rfl, rfl⟩
  | ok h => exact absurd h h1
theorem TICKR.good (h1 : atE tw t = 0) : e = 0 ∧ tw' = t ∧ l' = liveL t l := by
  cases h with
  | «at» h => exact absurd h1 h
  | ok h => exact ⟨rfl, rfl, rfl⟩
end
def SENS (l : LE) (a x : Int) : Prop := (∃ v b, MHas l a v b ∧ x = v.2.1) ∨ (MNot l a ∧ x = 0)
end Go.Ab
