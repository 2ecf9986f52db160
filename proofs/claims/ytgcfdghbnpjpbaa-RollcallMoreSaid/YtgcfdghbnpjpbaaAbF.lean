/- Abstract values and states for the functions of a translated program, and preconditions over them: contracts whose results are the caller's own. What is proved holds for every program, without conditions. -/
import Derived.Test.YtgcfdghbnpjpbaaAbE
set_option linter.unusedSimpArgs false
set_option linter.unusedVariables false
set_option linter.unusedSectionVars false
namespace Go.Ab
open Go.RowKit
structure OWNF (dT : DC) (bs : List BoxS) (x : DC) (st : StS) : Prop where
 h : ∃ m, Ren m x.conc dT.conc ∧ srcBoxes st.conc m (bs.map BoxS.conc)
section
variable {P : Program}
structure OWNK (t : Ty) (e : TypeId) (l : List t.den) (st : StS) (K : DC → StS → Prop) : Prop where
 nil : l = [] → K (.p (.sl (some true) 0 [])) st
 box : ∀ N, l ≠ [] → N = l.length → K (.ms st.box.length 0 t.size none N) { st with box := st.box ++ [{ cells := [.arr N t l], e := e, fz := false }] }
structure OwnL (P : Program) (f : FuncId) (args : List DC) (t : Ty) (e : TypeId) (l : List t.den) (sh : DC → DC) : Prop where
 nil : l = [] → OwnFn P f (concL args) (sh (.p (.sl (some true) 0 []))).conc []
 box : l ≠ [] → OwnFn P f (concL args) (sh (.ms 0 0 t.size none l.length)).conc [⟨concCs [.arr l.length t l], e, false, false, false⟩]
def viewT (o : OpsS) (st : StS) (ds : List DC) : Option (List DC × Prop) := match pureN pure2 ds with
 | some xs => some (xs, True)
 | none => viewN o st ds
def spOwn {α : Type} (arg : List DC → Option α) (pre : α → Prop) (t : Ty) (e : TypeId) (l : α → List t.den) (sh : α → DC → DC) : OpsS → CallS := fun o _ ds st K => match viewT o st ds with
 | some (xs, p) => p ∧ (match arg xs with | some a => pre a ∧ OWNK t e (l a) st (fun d st' => K (sh a d) st') | none => False)
 | none => False
structure ShOK (sh : DC → DC) (t : Ty) : Prop where
 nil : ∀ k, (sh (.p (.sl (some true) 0 []))).conc.shift k = (sh (.p (.sl (some true) 0 []))).conc
 box : ∀ k N, (sh (.ms 0 0 t.size none N)).conc.shift k = (sh (.ms k 0 t.size none N)).conc
theorem pureA_viewA {st : St} {ds xs : List D} (h : PureAs ds xs) : ViewAs st.box ds xs := ⟨h.1, fun _ _ E w hg hB us hR i hi => RD.mono (E := noE E.G) (E' := noE (nowG E w)) ⟨fun b o u hu => nowG_le hg b o u hu, (fun i b h => absurd h (by rintro (h | h) <;> cases h)), (fun _ _ _ => rfl), (fun g b cap cur h => absurd h (by intro h; cases h))⟩ (h.2 E us hR i hi)⟩
theorem ms_conc' {b sz n : Nat} : (DC.ms b 0 sz none n).conc = .ms b 0 n := by simp [DC.conc]
structure APPK (t : Ty) (e : TypeId) (l : List t.den) (st : StS) (K : DC → StS → Prop) : Prop where
 nil : l = [] → K (.p (.sl (some true) 0 [])) st
 box : ∀ N, l ≠ [] → N = l.length → K (.ms st.box.length 0 t.size none N) { st with box := st.box ++ [{ cells := [.arr N t l], e := e, fz := false, ap := true }] }
def spApp {α : Type} (arg : List DC → Option α) (pre : α → Prop) (t : Ty) (e : TypeId) (l : α → List t.den) : OpsS → CallS := fun o _ ds st K => match viewT o st ds with
 | some (xs, p) => p ∧ (match arg xs with | some a => pre a ∧ APPK t e (l a) st K | none => False)
 | none => False
theorem spApp.okB {f : FuncId} {α : Type} {arg : List DC → Option α} {pre : α → Prop} {t : Ty} {e : TypeId} {l : α → List t.den} (h0 : ∀ xs a, arg xs = some a → pre a → l a = [] → PurFn P f (concL xs) (.sl (some true) 0 []))
   (h1 : ∀ xs a, arg xs = some a → pre a → l a ≠ [] → AppFn P f (concL xs) (l a).length (t.rows (l a)) e) : ∀ ds st K, spApp arg pre t e l OpsS.real f ds st K → CB P f (concL ds) st.conc (KP K) := fun ds st K h => by
 unfold spApp at h
 split at h <;> first | exact h.elim | skip
 rename_i xs p hv
 obtain ⟨hp, h⟩ := h
 split at h <;> first | exact h.elim | skip
 rename_i a hxa
 obtain ⟨hpre, hk⟩ := h
 have hview : ViewAs st.conc.box (concL ds) (concL xs) := by
   unfold viewT at hv
   split at hv
   · rename_i ys hy
     simp only [Option.some.injEq, Prod.mk.injEq] at hv
     obtain ⟨rfl, rfl⟩ := hv
     exact pureA_viewA (pureN_as hy)
   · exact viewN_as hv hp
 by_cases hl : l a = []
 · exact .inl ⟨.sl (some true) 0 [], ⟨_, .inr ⟨hview, rfl⟩, h0 xs a hxa hpre hl⟩, KP.mk (hk.nil hl)⟩
 · refine .inr ⟨(l a).length, _, (h1 xs a hxa hpre hl).cpn hview, ?_⟩
   have := hk.box _ hl rfl
   refine ⟨_, _, (by rw [ms_conc', StS.box_len]), ?_, this⟩
   simp only [StS.conc, List.map_append, List.map_cons, List.map_nil, BoxS.conc, concCs_cons, concCs_nil, cellS, arrCells, List.append_nil, t.norm_eq rfl]
end
structure OWD (t : Ty) (e : TypeId) (l : List t.den) (d : DC) (bs : List BoxS) : Prop where
 h : (l = [] ∧ d = .p (.sl (some true) 0 []) ∧ bs = []) ∨ (l ≠ [] ∧ d = .ms 0 0 t.size none l.length ∧ bs = [{ cells := [.arr l.length t l], e := e, fz := false }])
section
variable {t : Ty} {e : TypeId} {l : List t.den} {d : DC} {bs : List BoxS} {st : StS} {y a : PD}
end
def argT1 (a : Ty) : List DC → Option a.den
 | [x] => getT a x
 | _ => none
theorem argT1.ok {a : Ty} {Q : List DC → a.den → Prop} (hc : ∀ xs ys x, concL xs = concL ys → Q ys x → Q xs x) (h : ∀ x, Q [injT a x] x) : ∀ xs x, argT1 a xs = some x → Q xs x := fun xs x hx => by
 unfold argT1 at hx
 split at hx
 · exact hc _ _ _ (by simp only [concL, getT_conc hx]) (h x)
 · cases hx
end Go.Ab
namespace Go.Ab
open Go.RowKit
open Classical in
section
variable {P : Program} {c0 : Ctx} {E0 E : Em} {st0 st : St} {w0 w : World}
end
section
variable {P : Program}
structure GS where
 t : Ty
 l : List t.den
 e : TypeId
end
end Go.Ab
