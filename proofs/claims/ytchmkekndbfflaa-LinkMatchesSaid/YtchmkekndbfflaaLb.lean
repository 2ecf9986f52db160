/- The laws on runs of losses. -/
import Derived.Test.YtchmkekndbfflaaLa
import Derived.Test.YtchmkekndbfflaaAw
import Derived.Test.YtchmkekndbfflaaAbE
set_option linter.unusedSimpArgs false
set_option linter.unusedVariables false
namespace Go.Ab
open Go.Proofs
theorem caw33 : PurS Try.prog 10 [] (.sb true) := ⟨_, rfl, s33_awake⟩
theorem caw33b : PurS Try.prog 10 [] (.p (.v (.bool true))) := ⟨_, rfl, s33_awake⟩

end Go.Ab

