/- The table's methods: Locks. -/
import Derived.Test.YtbjehpjlpckbfaaLp
set_option linter.unusedSimpArgs false
set_option linter.unusedVariables false
set_option maxRecDepth 20000
set_option maxHeartbeats 8000000
namespace Go.Ab
open Go.Proofs
def keysQ (l : LE) : List Int := (l.map fun e => (e.1 : Int)).mergeSort fun x y => decide (x ≤ y)
structure SRTK (c : Int) (n : Nat) (l : LE) (K : List Int → Prop) : Prop where
  ok : MOK l c
  c0 : 0 ≤ c
  nl : l.length = n
  n1 : n ≤ 1000
  r : ∀ e ∈ l, -9223372036854775808 ≤ e.1 ∧ e.1 ≤ 9223372036854775807
  h : ∀ ks, ks = keysQ l → ks.length = n → K ks
def lkV (l : LE) (a : Int) : LKV := ((l.find? fun e => e.1 == a).map (·.2.1)).getD (0, (0, (0, 0)))
def locksL (l : LE) : List LKV := (keysQ l).map (lkV l)
end Go.Ab
