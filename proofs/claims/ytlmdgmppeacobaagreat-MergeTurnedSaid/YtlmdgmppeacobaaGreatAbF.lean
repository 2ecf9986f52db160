/- Abstract values and states for the functions of a translated program,and preconditions over them: contracts whose results are the caller's own. What is proved holds for every program,without conditions. -/
import Derived.Test.YtlmdgmppeacobaaGreatAbE
set_option linter.unusedSimpArgs false
set_option linter.unusedVariables false
set_option linter.unusedSectionVars false
namespace Go.Ab
open Go.RowKit
structure OWNF (dT:DC) (bs:List BoxS) (x:DC) (st:StS):Prop where
 h:∃ m,Ren m x.conc dT.conc∧srcBoxes st.conc m (bs.map BoxS.conc)
section
variable {P:Program}
structure OWNK (t:Ty) (e:TypeId) (l:List t.den) (st:StS) (K:DC→StS→Prop):Prop where
 nil:l=[]→K (.p (.sl (some true) 0 [])) st
 box:∀ N,l≠[]→N=l.length→K (.ms st.box.length 0 t.size none N) { st with box:=st.box ++ [{ cells:=[.arr N t l],e:=e,fz:=false }] }
structure OwnL (P:Program) (f:FuncId) (args:List DC) (t:Ty) (e:TypeId) (l:List t.den) (sh:DC→DC):Prop where
 nil:l=[]→OwnFn P f (concL args) (sh (.p (.sl (some true) 0 []))).conc []
 box:l≠[]→OwnFn P f (concL args) (sh (.ms 0 0 t.size none l.length)).conc [⟨concCs [.arr l.length t l],e,false,false,false⟩]
structure ShOK (sh:DC→DC) (t:Ty):Prop where
 nil:∀ k,(sh (.p (.sl (some true) 0 []))).conc.shift k=(sh (.p (.sl (some true) 0 []))).conc
 box:∀ k N,(sh (.ms 0 0 t.size none N)).conc.shift k=(sh (.ms k 0 t.size none N)).conc
structure APPK (t:Ty) (e:TypeId) (l:List t.den) (st:StS) (K:DC→StS→Prop):Prop where
 nil:l=[]→K (.p (.sl (some true) 0 [])) st
 box:∀ N,l≠[]→N=l.length→K (.ms st.box.length 0 t.size none N) { st with box:=st.box ++ [{ cells:=[.arr N t l],e:=e,fz:=false,ap:=true }] }
end
structure OWD (t:Ty) (e:TypeId) (l:List t.den) (d:DC) (bs:List BoxS):Prop where
 h:(l=[]∧d=.p (.sl (some true) 0 [])∧bs=[])∨(l≠[]∧d=.ms 0 0 t.size none l.length∧bs=[{ cells:=[.arr l.length t l],e:=e,fz:=false }])
section
variable {t:Ty} {e:TypeId} {l:List t.den} {d:DC} {bs:List BoxS} {st:StS} {y a:PD}
end
end Go.Ab
namespace Go.Ab
open Go.RowKit
open Classical in
section
variable {P:Program} {c0:Ctx} {E0 E:Em} {st0 st:St} {w0 w:World}
end
section
variable {P:Program}
structure GS where
 t:Ty
 l:List t.den
 e:TypeId
end
end Go.Ab
