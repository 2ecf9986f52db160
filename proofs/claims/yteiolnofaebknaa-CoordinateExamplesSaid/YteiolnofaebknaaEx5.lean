/- A run of 64 cycles without wishes returns 64 meetings of two sides that chose nothing. No conditions. -/
import Derived.Test.YteiolnofaebknaaEx4
namespace Go.Ab
open Go.Proofs
theorem t34_long : PurFn Try.prog 23 ([.v (.int .i64 3), .v (.int .i64 4), .sl (some false) 64 (List.replicate 64 [.v (.int .u8 0), .v (.int .u8 0)]).flatten, .sl (some true) 0 [], .sl (some true) 0 []].map .p) (.tup [.sl (some false) 64 (List.replicate 64 zeroMeet).flatten, .v (.int .i64 0)]) :=
  PurFn.of_run2 (fuel := 400) (k := 30) (by kernel_rfl) t34tbl_ok KnOK.nil (f := 23) (ac := ac23) (ars := [.tmp 10, .tmp 11]) (n := 114) (by kernel_rfl) (by kernel_rfl) (by kernel_rfl)
end Go.Ab
