/- Contracts with a function as first argument. -/
import Derived.Test.YtlmdgmppeacobaaGreatLz
set_option linter.unusedSimpArgs false
set_option linter.unusedVariables false
set_option maxRecDepth 20000
set_option maxHeartbeats 4000000
namespace Go.Ab
open Go.Proofs
variable {P:Program} {f:FuncId}
def spFn2 (k:Nat) (a b:Ty) (pre:a.den→b.den→Prop) (r:a.den→b.den→DC):List DC→(DC→Prop)→Prop
 | [.fn (.func k') [] [],x,y],K=>k'=k∧(match getT a x,getT b y with | some x,some y=>pre x y∧K (r x y) | _,_=>False)
 | _,_=>False
theorem spFn2.ok {k:Nat} {a b:Ty} {pre:a.den→b.den→Prop} {r:a.den→b.den→DC} (h:∀ x y,pre x y→PurS P f [.fn (.func k) [] [],injT a x,injT b y] (r x y)):∀ xs K,spFn2 k a b pre r xs K→∃ x,PurS P f xs x∧K x:=fun xs K hs=>by
 unfold spFn2 at hs
 split at hs
 ·obtain ⟨rfl,hs⟩:=hs
  split at hs
  ·rename_i h1 h2
   exact ⟨_,(h _ _ hs.1).cong (by simp only[concL,getT_conc h1,getT_conc h2]),hs.2⟩
  ·exact hs.elim
 ·exact hs.elim
def spFnL (k:Nat) (a:Ty) (pre:a.den→Prop) (r:a.den→DC):List DC→(DC→Prop)→Prop
 | [x,.fn (.func k') [] []],K=>k'=k∧(match getT a x with | some x=>pre x∧K (r x) | _=>False)
 | _,_=>False
theorem spFnL.ok {k:Nat} {a:Ty} {pre:a.den→Prop} {r:a.den→DC} (h:∀ x,pre x→PurS P f [injT a x,.fn (.func k) [] []] (r x)):∀ xs K,spFnL k a pre r xs K→∃ x,PurS P f xs x∧K x:=fun xs K hs=>by
 unfold spFnL at hs
 split at hs
 ·obtain ⟨rfl,hs⟩:=hs
  split at hs
  ·rename_i h1
   exact ⟨_,(h _ hs.1).cong (by simp only[concL,getT_conc h1]),hs.2⟩
  ·exact hs.elim
 ·exact hs.elim
theorem fFoldA (x:RT) (l:RS) (h:FP x l.2):PurS Tryz.prog 71 [.fn (.func 41) [] [],injT tR x,injT tRs l] (.tup [.agg [.sb (fldT x l.2).1,.tl none tW (fldT x l.2).2.1.2,.tl none tW (fldT x l.2).2.2.2],.p (iv (fldE x l.2))]):=cFoldA x.1 x.2.1.1 x.2.1.2 x.2.2.1 x.2.2.2 l.1 l.2 x _ _ rfl rfl rfl h
theorem fFoldG (x:RT) (l:RS) (h:FP x l.2):PurS Tryz.prog 71 [.fn (.func 42) [] [],injT tR x,injT tRs l] (.tup [.agg [.sb (mxT x l.2).1,.tl none tW (mxT x l.2).2.1.2,.tl none tW (mxT x l.2).2.2.2],.p (iv 0)]):=cFoldG x.1 x.2.1.1 x.2.1.2 x.2.2.1 x.2.2.2 l.1 l.2 x _ rfl rfl h
end Go.Ab
