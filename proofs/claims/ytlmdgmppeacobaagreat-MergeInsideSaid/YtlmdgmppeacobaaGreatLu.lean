/- Rows of numbers: copies,comparisons. -/
import Derived.Test.YtlmdgmppeacobaaGreatLt
set_option linter.unusedSimpArgs false
set_option linter.unusedVariables false
set_option maxRecDepth 20000
set_option maxHeartbeats 4000000
namespace Go.Ab
open Go.Proofs
abbrev tRs:Ty:=.sl tR
abbrev RS:=tRs.den
instance:DecidableEq RT:=inferInstanceAs (DecidableEq (Bool×(Option Bool×List Int)×(Option Bool×List Int)))
instance:DecidableEq RS:=inferInstanceAs (DecidableEq (Option Bool×List RT))
structure SX (l:List RT):Prop where
 a:Short 2000 l
 b:SZ 2000 l
structure SZR (n m:Nat) (l:List RS):Prop where
 h:∀ x∈l,x.2.length≤n∧SZ m x.2
end Go.Ab
