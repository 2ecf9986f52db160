/- The chapter's examples hold: the function 'awake' returns true. No conditions. -/
import Derived.Test.YteiolnofaebknaaCd4
import Derived.Test.YteiolnofaebknaaAbC
namespace Go.Ab
open Go.Proofs
theorem t34_awake : PurFn Try.prog 21 [] (.v (.bool true)) :=
  PurFn.of_run2 (fuel := 400) (k := 30) (by kernel_rfl) t34tbl_ok KnOK.nil (f := 21) (ac := ac21) (ars := [.tmp 0]) (n := 103) (by kernel_rfl) (args := []) (by kernel_rfl) (by kernel_rfl)
end Go.Ab
