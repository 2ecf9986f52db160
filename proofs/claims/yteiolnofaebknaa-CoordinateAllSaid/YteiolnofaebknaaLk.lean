/- LinkOrder: its small functions. -/
import Derived.Test.YteiolnofaebknaaLj
set_option linter.unusedSimpArgs false
set_option linter.unusedVariables false
set_option maxRecDepth 20000
set_option maxHeartbeats 2000000
namespace Go.Ab
open Go.Proofs
structure NEWK (l : List Int) : Prop where
  h : wrongM l = 0
def spNew (mF : List Int → List Int) : OpsS → CallS := fun _ _ ds st K => match ds with
  | [x] => (match asL tI x with
    | some l => NEWK l ∧ frS [] [] [.tl none tI l] ⟨[], []⟩ (.tup [.ptr 0 0, .p (iv 0)]) (linkS (mF l) 0 0 0 0 []) ds st K
    | none => False)
  | _ => False
theorem cNewT : ∀ ds st K, spNew fatesM OpsS.real 46 ds st K → FnS Try.prog 46 ds st K := fun ds st K h => by
  unfold spNew at h
  split at h
  · split at h
    · exact frS_ok (cNew none _ h.1.h) h.2
    · exact h.elim
  · exact h.elim
end Go.Ab

