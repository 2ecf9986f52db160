/- The examples of the chapter, and a long run of nothing: what the functions return. No conditions. -/
import Derived.Test.YteiolnofaebknaaEx3
import Derived.Test.YteiolnofaebknaaAbC
namespace Go.Ab
open Go.Proofs
theorem t34_awake : PurFn Try.prog 21 [] (.v (.bool true)) :=
  PurFn.of_run2 (fuel := 400) (k := 30) (by kernel_rfl) t34tbl_ok KnOK.nil (f := 21) (ac := ac21) (ars := [.tmp 0]) (n := 103) (by kernel_rfl) (args := []) (by kernel_rfl) (by kernel_rfl)
def zeroMeet : List PD := [.v (.int .i64 3), .v (.int .i64 4), .v (.int .u8 0), .v (.int .i64 0), .v (.int .u8 0), .v (.int .i64 0), .v (.int .i64 4), .v (.int .i64 3), .v (.int .u8 0), .v (.int .i64 0), .v (.int .u8 0), .v (.int .i64 0)]
end Go.Ab
