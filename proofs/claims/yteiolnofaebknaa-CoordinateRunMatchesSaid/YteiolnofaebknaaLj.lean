/- The channel's functions as calls of a bigger state. -/
import Derived.Test.YteiolnofaebknaaLi
set_option linter.unusedSimpArgs false
set_option linter.unusedVariables false
set_option maxRecDepth 20000
namespace Go.Ab
open Go.Proofs
def linkAt (a:Nat) (st:StS) (K:Nat→Nat→List Int→Int→Int→Nat→Nat→List tPar.den→Prop):Prop:=match nthD st.box a with
 | some B=>(match B.cells with
  | [.arr 256 t F,.p (.v (.int .i64 now)),.p (.v (.int .i64 sent)),.ptr b 0]=>(match castL tI t F with
   | some F=>(match nthD st.box b with
    | some B=>(match B.cells with
     | [.ms c 0 6 none n]=>(match nthD st.box c with
      | some B=>(match B.cells with
       | [.arr N t q]=>(match castL tPar t q with | some q=>K b c F now sent N n q | none=>False)
       | _=>False)
      | none=>False)
     | _=>False)
    | none=>False)
   | none=>False)
  | _=>False)
 | none=>False
theorem linkAt_some {a:Nat} {st:StS} {K:Nat→Nat→List Int→Int→Int→Nat→Nat→List tPar.den→Prop} (h:linkAt a st K):∃ b c F now sent N n q,K b c F now sent N n q:=by
 unfold linkAt at h
 repeat' split at h
 all_goals first | exact ⟨_,_,_,_,_,_,_,_,h⟩ | exact h.elim
structure SENDK (F:List Int) (sent:Int) (N n:Nat) (q:List tPar.den):Prop where
 h:q.length=N∧n≤N∧n≤64∧0≤sent∧sent<1000000∧∀ i,-1≤gtR tI F i∧gtR tI F i≤8
def hearN (t:Int) (n:Nat) (q:List tPar.den):Nat:=(hearM t n q []).1
def hearQ (t:Int) (n:Nat) (q:List tPar.den):List tPar.den:=(hearM t n q []).2.1
def hearO (t:Int) (n:Nat) (q:List tPar.den):List tChoice.den:=(hearM t n q []).2.2
structure HEARK (now t:Int) (N n:Nat) (q:List tPar.den):Prop where
 h:atM now t=0∧q.length=N∧n≤N∧n≤64
end Go.Ab
