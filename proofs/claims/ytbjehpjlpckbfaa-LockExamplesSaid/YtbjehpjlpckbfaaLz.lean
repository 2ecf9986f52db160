/- The reference's table: New, Tick, Set, Sense, Mask. -/
import Derived.Test.YtbjehpjlpckbfaaLy
set_option linter.unusedSimpArgs false
set_option linter.unusedVariables false
set_option maxRecDepth 20000
set_option maxHeartbeats 8000000
namespace Go.Ab
open Go.Proofs
def rtS (k tw : Int) (L : List LKV) : StS := ⟨[{ cells := [.p (iv k), .p (iv tw), .tl none tLock L], e := 46, fz := false }], []⟩
def rtAt (a : Nat) (st : StS) (K : Int → Int → List LKV → Prop) : Prop := match nthD st.box a with
 | some B => (match B.cells with
   | [.p (.v (.int .i64 k)), .p (.v (.int .i64 w)), .tl none t l] => (match castL tLock t l with | some l => K k w l | none => False)
   | _ => False)
 | none => False
structure RLVK (t : Int) (L : List LKV) (K : List LKV → Nat → Prop) : Prop where
 l : L.length ≤ 16
 h : ∀ R r, R = liveF t L → r = R.length * 4 → K R r
section
variable {k tw : Int} {L : List LKV} {t : Int} {ch : Int × Int × Int × Int} {e tw' : Int} {L' : List LKV} (h : RSET k tw L t ch e tw' L')
include h
end
end Go.Ab
