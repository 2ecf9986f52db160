/- GarbleCertain. -/
import Derived.Test.YtjepihoacohboaaLj
set_option linter.unusedSimpArgs false
set_option linter.unusedVariables false
set_option maxRecDepth 20000
set_option maxHeartbeats 8000000
namespace Go.Ab
open Go.Proofs
section
variable {b : List Int} {over : Nat}
end
theorem wrnG_of {b : List Int} {over : Int} (h : gchk b = 0) (h0 : 0 ≤ over) (h1 : over ≤ 16777215) : wrnG b over = 0 := by
 unfold wrnG; rw [if_neg (fun h' => h' h),if_neg (by omega)]
theorem gchk_of {b : List Int} (hg : GV b) (hl : b.length = 56 ∨ b.length = 112) : gchk b = 0 := by
 have key : ∀ {l : List Int},GV l → big2 l = false := fun {l} => by
   induction l with
   | nil => intro _; rfl
   | cons y l ih =>
     intro h
     have := h y (by simp)
     simp only [big2,ih fun z hz => h z (by simp [hz]),Bool.or_false,decide_eq_false_iff_not]; omega
 unfold gchk; rw [if_neg (by omega),key hg]; rfl
end Go.Ab
