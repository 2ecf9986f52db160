/- The laws' guard 'awake' returns true. No conditions. -/
import Derived.Test.YtchmkekndbfflaaCod3
import Derived.Test.YtchmkekndbfflaaAbE
import Derived.Test.YtchmkekndbfflaaLen
namespace Go.Ab
open Go.Proofs
def lenK (n : Int) : Option PD := if 0 ≤ n ∧ n ≤ 18446744073709551615 then some (.v (.int .i64 (Lib.bitLen n.toNat))) else none
theorem kn33_ok : KnOK Try.prog (knCons 49 (knInt .u64 lenK) fun _ _ => none) := .cons (knInt_ok fun n x hx => by
  unfold lenK at hx
  split at hx
  · rename_i hc
    obtain rfl := Option.some.inj hx
    exact PurFn.of_calls (vs := [.int .u64 n]) Try.call49 fun w => Try.bits_Len n w hc.1 hc.2
  · cases hx) .nil
theorem s33_awake : PurFn Try.prog 10 [] (.v (.bool true)) :=
  PurFn.of_run2 (fuel := 400) (k := 30) (by kernel_rfl) s33tbl_ok kn33_ok (f := 10) (ac := ac10 none) (ars := [.tmp 0]) (n := 86) (by kernel_rfl) (args := []) (by kernel_rfl) (by kernel_rfl)
end Go.Ab
