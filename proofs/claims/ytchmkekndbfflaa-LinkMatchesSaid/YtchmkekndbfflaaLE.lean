/- Facts of LinkOnce's text that others use. -/
import Derived.Test.YtchmkekndbfflaaLx
set_option linter.unusedSimpArgs false
set_option linter.unusedVariables false
namespace Go.Ab
open Go.Proofs
theorem vw_allT {t : Ty} {n : Nat} {l : List t.den} (h : l.length = n) : vwR t n l 0 n = l := by unfold vwR; rw [Ty.norm_eq t h, List.drop_zero, ← h, List.take_length]
theorem fates_bb {l : List Int} (h : wrongM l = 0) : ∀ i, -1 ≤ gtR tI (fatesM l) i ∧ gtR tI (fatesM l) i ≤ 8 := fun i => by
  have hm : ∀ x ∈ fatesM l, -1 ≤ x ∧ x ≤ 8 := fun x hx => by
    rcases List.mem_append.1 hx with hx | hx
    · unfold wrongM at h
      split at h
      · cases h
      · split at h
        · cases h
        · rename_i h2
          have := h2
          simp only [Bool.not_eq_true, List.any_eq_false, badM, decide_eq_true_eq] at this
          have := this x hx; omega
    · have := List.eq_of_mem_replicate hx; omega
  unfold gtR
  rw [List.getD_eq_getElem?_getD]
  cases hc : (fatesM l)[i.toNat]? with
  | none => exact ⟨by decide, by decide⟩
  | some v => exact hm v (List.mem_of_getElem? hc)
end Go.Ab

