/- LockExamples. -/
import Derived.Test.YtbjehpjlpckbfaaLE
set_option linter.unusedSimpArgs false
set_option linter.unusedVariables false
set_option maxRecDepth 100000
namespace Go.Ab
open Go.Proofs
theorem s32_nothing : PurFn Try.prog 35 [] (.v (.bool true)) :=
 PurFn.of_run2 (fuel := 400) (k := 30) (by kernel_rfl) s32tbl_ok (bKn_spec kl32x_ok) ks32y_ok (f := 35) (ac := ac35 none) (ars := [.tmp 0]) (n := 46) (by kernel_rfl) (args := []) (by kernel_rfl) (by kernel_rfl)
theorem s32_bodies : PurFn Try.prog 36 [] (.v (.bool true)) :=
 PurFn.of_run2 (fuel := 400) (k := 30) (by kernel_rfl) s32tbl_ok (bKn_spec kl32x_ok) ks32y_ok (f := 36) (ac := ac36 none) (ars := [.tmp 0]) (n := 88) (by kernel_rfl) (args := []) (by kernel_rfl) (by kernel_rfl)
end Go.Ab
