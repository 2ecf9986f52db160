/- Abstract values and states for the functions of a translated program,and preconditions over them: the library's sort on a box. What is proved holds for every program,without conditions. -/
import Derived.Test.YtjepihoacohboaaAbF
import Derived.Shelf.SlSortFuncK.SWK
set_option linter.unusedSimpArgs false
set_option linter.unusedVariables false
namespace Go.Ab
open Go.RowKit
open Classical in
open Classical in
open Classical in
section
variable {P : Program} {c : Ctx} {R W : Nat → Prop} {E E1 : Em} {st st' : St} {w w' : World}
open Classical in
open Classical in
end
end Go.Ab
namespace Go.Ab
open Go.RowKit Go.Sort Go.Proofs
section
variable {α : Type} [Inhabited α]
omit [Inhabited α] in
end
end Go.Ab
namespace Go.Ab
open Go.RowKit
section
variable {P : Program} {Q : Ax → Env → St → Prop} {ρ : Env} {st : St}
end
end Go.Ab
namespace Go.Ab
open Go.RowKit Go.ChangeShapes Go.WideShapes
section
variable {P : Program} {H : Type} {enc : TypeId × Value → H}
theorem PurFn.lawQ (Q : List PD → Prop) (K : Kids P (· < P.types.size)) (hz : ∀ t e,t < P.types.size → P.underlying t = some (.slice e) → 0 < P.cellsOf e) {f : FuncId} {fn : Func} {s : ChangeSpec} {apart fresh handsOn : Bool} {base : Nat} {W : World} {args : Array Value} {ds gs : List (DataW H)} {before : List MemPlace} {t : TypeId}
   (h : ∀ xs,TyVs P fn.params.toList xs → Q xs → PurFn P f (xs.map .p) (.v (.bool true)))
   (hq : ∀ xs,TyVs P fn.params.toList xs → xs.length = args.toList.length → (∀ i,i < args.toList.length → RP (memOf W) (xs.getD i default) (args.toList.getD i undef)) → Q xs)
   (hT : ∀ t ∈ fn.params.toList,t < P.types.size) (hres : fn.resultTypes.toList = [t]) (ht : P.underlying t = some .bool) (hsv : s.vars = [])
   (hfn : ∀ ds : List (DataW H),ds.length = fn.params.toList.length → s.fn H ds = { results := [.lit (.bool true)],args := ds })
   (hval : ∀ (j : Nat) t v,fn.params[j]? = some t → args[j]? = some v → Value.okWide P W .any base t v)
   (hW : DataW.Whole enc P fn.params.toList s.vars apart W args.toList ds gs before) (hgl : GLB (memOf W)) :
   Calls P f args W fun e W' => ∃ v,e = .returned v ∧ s.post enc P fn apart fresh handsOn false W args v W' := by
 have hW' := hW
 obtain ⟨p,q,hA,hV,rfl,hfz,hnd⟩ := hW
 rw [hsv] at hV
 obtain ⟨rfl,rfl⟩ := trodVars_none hV
 obtain ⟨xs,htx,hl,hdl,hR⟩ := trod_args K hz _ _ _ _ hT (fun j t v h1 h2 => hval j t v (by simpa using h1) (by simpa using h2)) hA
 refine ((h xs htx (hq xs htx hl hR)).2 (memOf W) W args (memOf_ok W) hgl (by simpa using hl.symm) (fun i hi => ?_)).mono ?_
 · have := hR i (by simp only [List.length_map] at hi; omega)
   simp only [List.length_map] at hi
   simp only [List.getD,List.getElem?_map,List.getElem?_eq_getElem hi,Option.map_some,Option.getD_some]
   refine .p _ _ ?_
   show RP (memOf W) _ _
   have e : args.getD i undef = args[i]?.getD undef := by simp
   rw [e]
   simpa [List.getD,List.getElem?_eq_getElem hi] using this
 rintro e w' ⟨v,G',rfl,_,_,_,hb,hr⟩
 rw [hr.v_inv]
 have hg : W.keptBut w' (fun _ => False) := hb.toBelow.frame _
 have hlt := hW'.lt
 have hres' : fn.resultTypes.size = 1 := by rw [← Array.length_toList,hres]; rfl
 have hd := hfn (ds ++ []) (by simpa using hdl)
 have hsp : ∀ x ∈ p ++ [],(fun b => decide (b < W.heap.size)) x.block = true := fun x hx => by simpa using hlt x hx
 refine ⟨_,rfl,ds,[],p ++ [],[],p,[],hW',?_,?_,?_,World.keptBut_mono (fun _ f => f.elim) hg,fun h => by cases h⟩
 · rw [hd,hres,hres']
   exact trodAll_cons_mk (shut_bool ht _) trodAll_mk0
 · rw [hd,List.append_nil]
   exact TrodAll.carry (DataW.TrodAll.respare K hz hT hA fun x hx => hsp x (by simpa using hx)) fun x hx => kept_sameAt hg (hlt x (by simpa using hx))
 · rw [hd,hsv]; rfl
end
def Prs (T1 T2 : Ty) (a : T1.den) (b : T2.den) : List PD → Prop
 | [x,y] => D.p x = (injT T1 a).conc ∧ D.p y = (injT T2 b).conc
 | _ => False
theorem law2Q {P : Program} {f : FuncId} {t1 t2 : TypeId} {T1 T2 : Ty} {QQ : T1.den → T2.den → Prop} (hd : denOK P [t1,t2] [T1,T2] = true) (h : ∀ a b,wfT T1 a → wfT T2 b → QQ a b → PurS P f [injT T1 a,injT T2 b] (.sb true)) :
   ∀ xs,TyVs P [t1,t2] xs → (∀ a b,Prs T1 T2 a b xs → QQ a b) → PurFn P f (xs.map .p) (.v (.bool true)) := by
 intro xs hx hQ
 match xs,hx,hQ with
 | [x,y],⟨h1,h2,_⟩,hQ =>
   simp only [denOK,Bool.and_eq_true,beq_iff_eq] at hd
   obtain ⟨⟨d1,e1⟩,⟨d2,e2⟩,_⟩ := hd
   split at d1 <;> first | cases d1 | skip
   rename_i U1 hU1
   obtain rfl := of_decide_eq_true d1
   split at d2 <;> first | cases d2 | skip
   rename_i U2 hU2
   obtain rfl := of_decide_eq_true d2
   obtain ⟨a,k1,w1⟩ := h1.den hU1 e1
   obtain ⟨b,k2,w2⟩ := h2.den hU2 e2
   have := (h a b w1 w2 (hQ a b ⟨k1,k2⟩)).true
   simpa [concL,k1,k2] using this
end Go.Ab
