/- Abstract values and states for the functions of a translated program,and preconditions over them: the library's sort on a box. What is proved holds for every program,without conditions. -/
import Derived.Test.YtlmdgmppeacobaaGreatAbF
import Derived.Shelf.SlSortFuncK.SWK
set_option linter.unusedSimpArgs false
set_option linter.unusedVariables false
namespace Go.Ab
open Go.RowKit
open Classical in
open Classical in
open Classical in
section
variable {P:Program} {c:Ctx} {R W:Nat→Prop} {E E1:Em} {st st':St} {w w':World}
open Classical in
open Classical in
end
end Go.Ab
namespace Go.Ab
open Go.RowKit Go.Sort Go.Proofs
section
variable {α:Type} [Inhabited α]
theorem flat_get (enc:α→List Value) (k:Nat) (hk:∀ x,(enc x).length=k):∀ (l:List α) (t:Nat),t<l.length*k→(l.flatMap enc)[t]? = (enc l[t / k]!)[t % k]?
 | [],t,h=>by simp at h
 | x :: r,t,h=>by
  have k0:0<k:=Nat.pos_of_ne_zero (by rintro rfl;simp at h)
  rw[List.flatMap_cons,List.getElem?_append,hk]
  by_cases ht:t<k
  ·rw[if_pos ht,Nat.div_eq_of_lt ht,Nat.mod_eq_of_lt ht];rfl
  ·rw[if_neg ht,flat_get enc k hk r (t - k) (by simp only[List.length_cons,Nat.add_mul,Nat.one_mul]at h;omega)]
   have h1:t / k=(t - k) / k+1:=by rw[Nat.div_eq_sub_div k0 (by omega)]
   have h2:t % k=(t - k) % k:=by rw[Nat.mod_eq_sub_mod (by omega)]
   rw[h1,h2];rfl
theorem sortFlat_get (enc:α→List Value) (k:Nat) (hk:∀ x,(enc x).length=k) (d:Array α) (t:Nat) (h:t<d.size*k):(Go.Sort.flatK enc k d)[t]! = (d.toList.flatMap enc).getD t undef:=by
 have k0:0<k:=Nat.pos_of_ne_zero (by rintro rfl;simp at h)
 rw[get_flatK _ _ _ _ h,List.getD,flat_get enc k hk _ _ (by simpa using h)]
 have:d.toList[t / k]! = d[t / k]!:=by simp[getElem!_def]
 rw[this]
 have hm:t % k<(enc d[t / k]!).length:=by rw[hk];exact Nat.mod_lt _ k0
 rw[List.getElem?_eq_getElem hm,getElem!_pos (enc d[t / k]!) (t % k) hm];rfl
end
end Go.Ab
namespace Go.Ab
open Go.RowKit
section
variable {P:Program} {Q:Ax→Env→St→Prop} {ρ:Env} {st:St}
end
end Go.Ab
namespace Go.Ab
open Go.RowKit Go.ChangeShapes Go.WideShapes
section
variable {P:Program} {H:Type} {enc:TypeId×Value→H}
end
end Go.Ab
