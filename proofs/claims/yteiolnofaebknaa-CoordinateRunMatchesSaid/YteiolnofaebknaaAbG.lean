/- Abstract values and states for the functions of a translated program,and preconditions over them: the library's sort on a box. What is proved holds for every program,without conditions. -/
import Derived.Test.YteiolnofaebknaaAbF
set_option linter.unusedSimpArgs false
set_option linter.unusedVariables false
namespace Go.Ab
open Go.RowKit
open Classical in
open Classical in
open Classical in
section
variable {P:Program} {c:Ctx} {R W:Nat→Prop} {E E1:Em} {st st':St} {w w':World}
open Classical in
open Classical in
end
end Go.Ab
