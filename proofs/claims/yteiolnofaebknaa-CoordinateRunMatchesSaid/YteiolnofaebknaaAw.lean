/- The laws' guard 'awake' returns true. No conditions. -/
import Derived.Test.YteiolnofaebknaaCod3
import Derived.Test.YteiolnofaebknaaAbE
namespace Go.Ab
open Go.Proofs
theorem s34_awake:PurFn Try.prog 21 [] (.v (.bool true)):=
 PurFn.of_run2 (fuel:=400) (k:=30) (by kernel_rfl) s34tbl_ok KnOK.nil .nil (f:=21) (ac:=ac21 none) (ars:=[.tmp 0]) (n:=103) (by kernel_rfl) (args:=[]) (by kernel_rfl) (by kernel_rfl)
end Go.Ab
