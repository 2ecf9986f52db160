/- Abstract values and states for the functions of a translated program, and preconditions over them: contracts whose results are the caller's own. What is proved holds for every program, without conditions. -/
import Derived.Test.YtbjehpjlpckbfaaAbE
set_option linter.unusedSimpArgs false
set_option linter.unusedVariables false
set_option linter.unusedSectionVars false
namespace Go.Ab
open Go.RowKit
structure OWNF (dT : DC) (bs : List BoxS) (x : DC) (st : StS) : Prop where
 h : ∃ m, Ren m x.conc dT.conc ∧ srcBoxes st.conc m (bs.map BoxS.conc)
section
variable {P : Program}
theorem OwnS.of (hm : P.follows .mixedOrders = true) (g : Cfg) {S : SpecS} (hS : SpecSOK P S) {T : SpecT} (hT : SpecTOK P T) {U : SpecU} (hU : SpecUOK P U) {tbl : TblL} (ht : TblLOK P tbl) (k : Nat) {f : FuncId} {fn : Func} {g' ac : AC} {ars : List ARes} (hcall : ∀ vs w, (callFunc f vs).run P w = .ok (.enter f vs) w) (hf : P.funcs[f]? = some fn)
   (hc : compF P fn g' = some (ac, ars)) {args : List DC} {n : Nat} (hn : n ≤ fn.ntmps) (hl : shortB args n = true) (dT : DC) (bs : List BoxS)
   (h : ∀ (cmp : BinOp → Int → Int → Bool) (ar : BinOp → IntKind → Int → Int → Int) (cv : IntKind → Int → Int) (tn : Int → Nat) (ic : Nat → Int) (ai : Nat → Int → Int) (mx : Bool → Int → Int → Int) (an : Bool → Bool → Bool) (ad ml sb mn : Nat → Nat → Nat)
     (ln : (t : Ty) → List t.den → Nat) (em : (t : Ty) → List t.den → Bool) (gt : (t : Ty) → List t.den → Int → t.den) (up : (t : Ty) → Nat → List t.den → Int → t.den → List t.den) (ap : (t : Ty) → List t.den → List t.den → List t.den)
     (sc : (t : Ty) → List t.den → Int → Int → List t.den) (vw : (t : Ty) → Nat → List t.den → Nat → Nat → List t.den) (cp : (t : Ty) → Nat → List t.den → Nat → List t.den → Nat → List t.den) (rp : (t : Ty) → Nat → t.den → List t.den) (p1 : (a b : Ty) → a.den × b.den → a.den) (p2 : (a b : Ty) → a.den × b.den → b.den) (s1 : (t : Ty) → Option Bool × List t.den → Option Bool) (s2 : (t : Ty) → Option Bool × List t.den → List t.den) (X Y : CallS),
     X = FnS P → Y = CPS P → cmp = cmpR → ar = arR → cv = (fun k n => k.wrap n) → tn = Int.toNat → ic = (fun n : Nat => (n : Int)) → ai = (fun (n : Nat) (k : Int) => (n : Int) + k) → mx = mxR → an = (fun a b => a && b) → ad = (fun a b => a + b) → ml = (fun a b => a * b) → sb = (fun a b => a - b) → mn = (fun a b => min a b) →
     ln = (fun _ l => l.length) → em = (fun _ l => l.isEmpty) → gt = gtR → up = upR → ap = (fun _ a b => a ++ b) → sc = scR → vw = vwR → cp = cpR → rp = (fun _ n x => List.replicate n x) → p1 = (fun _ _ x => x.1) → p2 = (fun _ _ x => x.2) → s1 = (fun _ x => x.1) → s2 = (fun _ x => x.2) →
     wpAS ⟨cmp, ar, cv, tn, ic, ai, mx, an, ad, ml, sb, mn, ln, em, gt, up, ap, sc, vw, cp, rp, ⟨p1, p2, s1, s2⟩⟩ g (CIS ⟨cmp, ar, cv, tn, ic, ai, mx, an, ad, ml, sb, mn, ln, em, gt, up, ap, sc, vw, cp, rp, ⟨p1, p2, s1, s2⟩⟩ g S T U tbl X Y k) (CXD ⟨cmp, ar, cv, tn, ic, ai, mx, an, ad, ml, sb, mn, ln, em, gt, up, ap, sc, vw, cp, rp, ⟨p1, p2, s1, s2⟩⟩ S U Y) ac noHS
       (retS ars (OWNF dT bs)) (argsS 0 args) ⟨[], []⟩) : OwnFn P f (concL args) dT.conc (bs.map BoxS.conc) := by
 refine OwnFn.of hm hcall hf hc (by have := shortB_spec hl; rw [concL_length]; omega) ?_
 have h := h cmpR arR (fun k n => k.wrap n) Int.toNat (fun n : Nat => (n : Int)) (fun (n : Nat) (k : Int) => (n : Int) + k) mxR (fun a b => a && b) (fun a b => a + b) (fun a b => a * b) (fun a b => a - b) (fun a b => min a b) (fun _ l => l.length) (fun _ l => l.isEmpty) gtR upR (fun _ a b => a ++ b) scR vwR cpR (fun _ n x => List.replicate n x) (fun _ _ x => x.1) (fun _ _ x => x.2) (fun _ x => x.1) (fun _ x => x.2) (FnS P) (CPS P) rfl rfl rfl rfl rfl rfl rfl rfl rfl rfl rfl rfl rfl rfl rfl rfl rfl rfl rfl rfl rfl rfl rfl rfl rfl rfl rfl
 have := wpAS_sound (D := FnC P) (fun f ds st K h c => CIS_cw hm hS hT hU ht k c f ds st K h) FnC.cmono (CXD_cp hS hU) CPo.ok ac _ (retQ ars fun x st => ∃ m, Ren m x dT.conc ∧ srcBoxes st m (bs.map BoxS.conc)) (retS_sound fun d st h => h.h) _ _ h
 rwa [argsS_conc] at this
theorem Ren.p {m : List Src} {x : PD} (h : flatP x = true) : Ren m (.p x) (.p x) := by simp only [Ren, h, and_self]
structure OWNK (t : Ty) (e : TypeId) (l : List t.den) (st : StS) (K : DC → StS → Prop) : Prop where
 nil : l = [] → K (.p (.sl (some true) 0 [])) st
 box : ∀ N, l ≠ [] → N = l.length → K (.ms st.box.length 0 t.size none N) { st with box := st.box ++ [{ cells := [.arr N t l], e := e, fz := false }] }
structure OwnL (P : Program) (f : FuncId) (args : List DC) (t : Ty) (e : TypeId) (l : List t.den) (sh : DC → DC) : Prop where
 nil : l = [] → OwnFn P f (concL args) (sh (.p (.sl (some true) 0 []))).conc []
 box : l ≠ [] → OwnFn P f (concL args) (sh (.ms 0 0 t.size none l.length)).conc [⟨concCs [.arr l.length t l], e, false, false, false⟩]
def viewT (o : OpsS) (st : StS) (ds : List DC) : Option (List DC × Prop) := match pureN pure2 ds with
 | some xs => some (xs, True)
 | none => viewN o st ds
def spOwn {α : Type} (arg : List DC → Option α) (pre : α → Prop) (t : Ty) (e : TypeId) (l : α → List t.den) (sh : α → DC → DC) : OpsS → CallS := fun o _ ds st K => match viewT o st ds with
 | some (xs, p) => p ∧ (match arg xs with | some a => pre a ∧ OWNK t e (l a) st (fun d st' => K (sh a d) st') | none => False)
 | none => False
structure ShOK (sh : DC → DC) (t : Ty) : Prop where
 nil : ∀ k, (sh (.p (.sl (some true) 0 []))).conc.shift k = (sh (.p (.sl (some true) 0 []))).conc
 box : ∀ k N, (sh (.ms 0 0 t.size none N)).conc.shift k = (sh (.ms k 0 t.size none N)).conc
theorem arr_shift {t : Ty} {N : Nat} {l : List t.den} (k : Nat) : (concCs [DC.arr N t l]).map (D.shift k) = concCs [DC.arr N t l] := by
 rw [concCs_cons, concCs_nil, List.append_nil]
 simp only [cellS, arrCells, List.map_map]
 refine List.map_congr_left fun x _ => ?_
 simp [D.shift]
theorem pureA_viewA {st : St} {ds xs : List D} (h : PureAs ds xs) : ViewAs st.box ds xs := ⟨h.1, fun _ _ E w hg hB us hR i hi => RD.mono (E := noE E.G) (E' := noE (nowG E w)) ⟨fun b o u hu => nowG_le hg b o u hu, (fun i b h => absurd h (by rintro (h | h) <;> cases h)), (fun _ _ _ => rfl), (fun g b cap cur h => absurd h (by intro h; cases h))⟩ (h.2 E us hR i hi)⟩
theorem spOwn.ok {f : FuncId} {α : Type} {arg : List DC → Option α} {pre : α → Prop} {t : Ty} {e : TypeId} {l : α → List t.den} {sh : α → DC → DC} (hsh : ∀ a, ShOK (sh a) t) (ha : ∀ xs a, arg xs = some a → pre a → OwnL P f xs t e (l a) (sh a)) :
   ∀ ds st K, spOwn arg pre t e l sh OpsS.real f ds st K → FnS P f ds st K := fun ds st K h c => by
 unfold spOwn at h
 split at h <;> first | exact h.elim | skip
 rename_i xs p hv
 obtain ⟨hp, h⟩ := h
 split at h <;> first | exact h.elim | skip
 rename_i a hxa
 obtain ⟨hpre, hk⟩ := h
 have hview : ViewAs st.conc.box (concL ds) (concL xs) := by
   unfold viewT at hv
   split at hv
   · rename_i ys hy
     simp only [Option.some.injEq, Prod.mk.injEq] at hv
     obtain ⟨rfl, rfl⟩ := hv
     exact pureA_viewA (pureN_as hy)
   · exact viewN_as hv hp
 have ho := ha xs a hxa hpre
 by_cases hl : l a = []
 · refine (ho.nil hl).cwV rfl hview ?_
   rw [(hsh a).nil]
   have := hk.nil hl
   simp only [List.map_nil, List.append_nil]
   exact KP.mk this
 · refine (ho.box hl).cwV rfl hview ?_
   rw [(hsh a).box, StS.box_len]
   have := hk.box _ hl rfl
   refine ⟨_, _, rfl, ?_, this⟩
   simp only [StS.conc, List.map_append, List.map_cons, List.map_nil, BoxS.conc, Box.shift, arr_shift]
end
theorem OWNF.flat {dT x : DC} {st : StS} {z : PD} (h : x.conc = dT.conc) (hz : dT.conc = .p z) (hf : flatP z = true) : OWNF dT [] x st := ⟨[], by rw [h, hz]; exact Ren.p hf, by simp [srcBoxes]⟩
theorem bx_box {st : StS} {b : Nat} {t : Ty} {l : List t.den} {B : BoxS} (hb : nthD st.box b = some B) (hc : B.cells = [.arr l.length t l]) (hz : B.fz = false) (hf : (t.rows l).all flatP = true) :
   srcBoxes st.conc [.bx b] ([{ cells := [.arr l.length t l], e := B.e, fz := false }].map BoxS.conc) := by
 refine ⟨_, [], ⟨B.conc, ?_, hz, ?_, rfl⟩, rfl, rfl, ?_⟩
 · show (st.box.map BoxS.conc)[b]? = _
   rw [List.getElem?_map, ← nthD_eq, hb]; rfl
 · show (concCs B.cells).all flatD = true
   rw [hc]
   simp only [concCs_cons, concCs_nil, cellS, arrCells, List.append_nil, t.norm_eq rfl, List.all_map]
   rw [List.all_eq_true] at hf ⊢
   exact fun x hx => hf x hx
 · simp only [List.map_cons, List.map_nil, BoxS.conc, hc]
theorem og_concN {g : Nat} {t : Ty} {l : List t.den} (h : l ≠ []) : (DC.og g t l).conc = .grp g l.length (t.rows l) := by
 cases l with
 | nil => exact absurd rfl h
 | cons x r => simp only [DC.conc, List.length_cons]
theorem ms_conc {b sz n : Nat} : (DC.ms b 0 sz none n).conc = .ms b 0 n := by simp [DC.conc]
structure OWD (t : Ty) (e : TypeId) (l : List t.den) (d : DC) (bs : List BoxS) : Prop where
 h : (l = [] ∧ d = .p (.sl (some true) 0 []) ∧ bs = []) ∨ (l ≠ [] ∧ d = .ms 0 0 t.size none l.length ∧ bs = [{ cells := [.arr l.length t l], e := e, fz := false }])
section
variable {t : Ty} {e : TypeId} {l : List t.den} {d : DC} {bs : List BoxS} {st : StS} {y a : PD}
theorem OWD.nilT (h : OWD t e l d bs) (hl : l = []) (hy : flatP y = true) {x : DC} (hx : x = .p (.sl (some true) 0 [])) : OWNF (.tup [d, .p y]) bs (.tup [x, .p y]) st := by
 rcases h.h with ⟨_, rfl, rfl⟩ | ⟨h, _, _⟩
 · subst hx
   refine OWNF.flat rfl (z := .tup [.sl (some true) 0 [], y]) ?_ ?_
   · simp only [DC.conc, concL]; rfl
   · show (flatP (.sl (some true) 0 []) && (flatP y && true)) = true; rw [hy]; rfl
 · exact absurd hl h
theorem OWD.msT (h : OWD t e l d bs) {b n : Nat} {B : BoxS} (hl : l ≠ []) (hn : n = l.length) (hb : nthD st.box b = some B) (hc : B.cells = [.arr l.length t l]) (hz : B.fz = false) (he : B.e = e) (hf : (t.rows l).all flatP = true) (hy : flatP y = true) : OWNF (.tup [d, .p y]) bs (.tup [.ms b 0 t.size none n, .p y]) st := by
 rcases h.h with ⟨h, _, _⟩ | ⟨h, rfl, rfl⟩
 · exact absurd h hl
 · subst hn he
   refine ⟨_, ?_, bx_box hb hc hz hf⟩
   simp only [DC.conc, concL]
   show Ren _ (.tup [.ms b (0 + 0 * t.size) l.length, .p y]) _
   simp only [Ren, RenL]
   refine ⟨_, ⟨_, _, ⟨0, rfl, rfl⟩, ⟨_, _, ⟨hy, rfl⟩, rfl, rfl⟩, rfl⟩, ?_⟩
   simp [mkTup, allP]
theorem OwnL.of {P : Program} {f : FuncId} {args : List DC} {sh : DC → DC} (h : ∀ d bs, OWD t e l d bs → OwnFn P f (concL args) (sh d).conc (bs.map BoxS.conc)) : OwnL P f args t e l sh :=
 ⟨fun hl => h _ [] ⟨.inl ⟨hl, rfl, rfl⟩⟩, fun hl => h _ _ ⟨.inr ⟨hl, rfl, rfl⟩⟩⟩
end
theorem rows_int {k : IntKind} (l : List Int) : ((Ty.int k).rows l).all flatP = true := by
 rw [List.all_eq_true]
 intro x hx
 simp only [Ty.rows, List.mem_flatMap] at hx
 obtain ⟨y, _, hx⟩ := hx
 simp only [Ty.cells, List.mem_singleton] at hx
 subst hx; rfl
def shT (y : PD) (d : DC) : DC := .tup [d, .p y]
theorem shT.ok (y : PD) (t : Ty) : ShOK (shT y) t := ⟨fun k => by
   simp only [shT, DC.conc, concL]
   show D.shift k (.p (.tup [.sl (some true) 0 [], y])) = .p (.tup [.sl (some true) 0 [], y])
   simp [D.shift], fun k N => by
   simp only [shT, DC.conc, concL]
   show D.shift k (.tup [.ms 0 (0 + 0 * t.size) N, .p y]) = .tup [.ms k (0 + 0 * t.size) N, .p y]
   simp [D.shift, D.shiftL]⟩
theorem OwnL.cong {P : Program} {f : FuncId} {xs ys : List DC} {t : Ty} {e : TypeId} {l : List t.den} {sh : DC → DC} (h : OwnL P f ys t e l sh) (he : concL xs = concL ys) : OwnL P f xs t e l sh := ⟨fun hl => by rw [he]; exact h.nil hl, fun hl => by rw [he]; exact h.box hl⟩
end Go.Ab
namespace Go.Ab
open Go.RowKit
def Ug (cs : Nat → List PD) (L : Nat) : D → D → Prop
 | .p x, d' => flatP x = true ∧ d' = .p x
 | .ms i o n, d' => d' = .ms i o n
 | .ptr i o, d' => d' = .ptr i o
 | .mref i, d' => d' = .mref i
 | .grp g n cells, d' => cells = cs g ∧ d' = .ms (L + g) 0 n
 | _, _ => False
def UgL (cs : Nat → List PD) (L : Nat) : List D → List D → Prop
 | [], ds' => ds' = []
 | d :: ds, ds' => ∃ d' r, Ug cs L d d' ∧ UgL cs L ds r ∧ ds' = d' :: r
def UgB (cs : Nat → List PD) (L : Nat) : List Box → List Box → Prop
 | [], bs => bs = []
 | B :: r, bs => ∃ (B' : Box) (r' : List Box), ((B'.fz = B.fz ∧ B'.m = B.m) ∧ (B.fz = B.m → B'.e = B.e ∧ B'.ap = B.ap ∧ UgL cs L B.cells B'.cells)) ∧ UgB cs L r r' ∧ bs = B' :: r'
theorem UgL.spec {cs : Nat → List PD} {L : Nat} : ∀ {ds ds' : List D}, UgL cs L ds ds' → ds'.length = ds.length ∧ ∀ i, i < ds.length → Ug cs L (ds.getD i default) (ds'.getD i default)
 | [], _, h => by simp only [UgL] at h; subst h; exact ⟨rfl, fun i hi => absurd hi (Nat.not_lt_zero _)⟩
 | d :: ds, _, h => by
   obtain ⟨d', r, h1, h2, rfl⟩ := h
   obtain ⟨k1, k2⟩ := UgL.spec h2
   refine ⟨by simp [k1], fun i hi => ?_⟩
   cases i with
   | zero => simpa using h1
   | succ i => simpa using k2 i (by simpa using hi)
theorem UgB.spec {cs : Nat → List PD} {L : Nat} : ∀ {bs bs' : List Box}, UgB cs L bs bs' → bs'.length = bs.length ∧ ∀ (j : Nat) (B : Box), bs[j]? = some B → ∃ B' : Box, bs'[j]? = some B' ∧ (B'.fz = B.fz ∧ B'.m = B.m) ∧ (B.fz = B.m → B'.e = B.e ∧ B'.ap = B.ap ∧ UgL cs L B.cells B'.cells)
 | [], _, h => by simp only [UgB] at h; subst h; exact ⟨rfl, fun j B hj => by simp at hj⟩
 | B :: r, _, h => by
   obtain ⟨B', r', h1, h2, rfl⟩ := h
   obtain ⟨k1, k2⟩ := UgB.spec h2
   refine ⟨by simp [k1], fun j B0 hj => ?_⟩
   cases j with
   | zero => simp only [List.getElem?_cons_zero, Option.some.injEq] at hj; subst hj; exact ⟨B', rfl, h1.1, h1.2⟩
   | succ j => simp only [List.getElem?_cons_succ] at hj ⊢; exact k2 j B0 hj
def gpBoxes (cs : Nat → List PD) : Nat → List (Nat × TypeId) → List Box
 | _, [] => []
 | k, q :: r => ⟨(cs k).map .p, q.2, false, true, false⟩ :: gpBoxes cs (k + 1) r
theorem gpBoxes_get {cs : Nat → List PD} : ∀ {gs : List (Nat × TypeId)} {k g : Nat}, (gpBoxes cs k gs)[g]? = (gs[g]?).map fun q => ⟨(cs (k + g)).map .p, q.2, false, true, false⟩
 | [], k, g => by simp [gpBoxes]
 | q :: r, k, 0 => by simp [gpBoxes]
 | q :: r, k, g + 1 => by
   have := gpBoxes_get (cs := cs) (gs := r) (k := k + 1) (g := g)
   simp only [gpBoxes, List.getElem?_cons_succ, this, show k + 1 + g = k + (g + 1) by omega]
open Classical in
noncomputable def grpι (E : Em) (cs : Nat → List PD) (g : Nat) : Option (Nat × Nat) :=
 match E.γ g with | some (b, cap, _) => if ∃ n u, RD E (.grp g n (cs g)) u then some (b, cap) else none | none => none
section
variable {P : Program} {c0 : Ctx} {E0 E : Em} {st0 st : St} {w0 w : World}
theorem HR.ungrp (hw0 : HR P c0 E0 st0 w0) (hg0 : st0.grp = []) (h : HR P (.sub w0 E0) E st w) {cs : Nat → List PD} (hcs : ∀ g q, st.grp[g]? = some q → q.1 = (cs g).length ∧ (cs g).all flatP = true)
   {bs : List Box} (hb : UgB cs st.box.length st.box bs) :
   ∃ E2, HR P (.sub w0 E0) E2 ⟨bs ++ gpBoxes cs 0 st.grp, []⟩ w ∧ E2.G = E0.G ∧ ∀ d d' u, Ug cs st.box.length d d' → RD E d u → RD E2 d' u := by
 have noγ : ∀ g, E0.γ g = none := fun g => by
   cases hx : E0.γ g with
   | none => rfl
   | some t => have := hw0.γ_lt' hx; rw [hg0] at this; exact absurd this (Nat.not_lt_zero _)
 have hnew : ∀ g b cap cur, E.γ g = some (b, cap, cur) → ∀ o, E0.G b o = none := fun g b cap cur hg o => by
   obtain ⟨_, _, _, _, _, _, _, _, _, q7, _⟩ := h.grp g b cap cur hg
   rcases q7 with hq | ⟨i, hi⟩ | ⟨g, _, _, hg⟩
   · cases hx : E0.G b o with
     | none => rfl
     | some u => have := block_lt_of_cell (hw0.gok _ _ _ hx).1; exact absurd this (Nat.not_lt.2 hq)
   · obtain ⟨_, _, _, _, _, _, _, _, h8⟩ := hw0.box i b hi; exact h8 o
   · rw [noγ] at hg; cases hg
 obtain ⟨hbl, hbs⟩ := hb.spec
 have hle := h.le
 have hN : ∀ {i x}, E.N i x → i < st.box.length := fun hi => h.N_lt hi
 let E2 : Em := ⟨E0.G, fun j => if j < st.box.length then E.ι j else (grpι E cs (j - st.box.length)).map (·.1), fun _ => none, E.δ, fun j => if j < st.box.length then E.κ j else (grpι E cs (j - st.box.length)).map (·.2)⟩
 have hN2 : ∀ {i x}, E.N i x → E2.N i x := fun {i x} hi => by
   have hlt := hN hi
   rcases hi with hi | hi
   · exact .inl (by simp only [E2, if_pos hlt]; exact hi)
   · exact .inr hi
 have hκ2 : ∀ {i x}, E.N i x → E2.κ i = E.κ i := fun hi => by simp only [E2, if_pos (hN hi)]
 have info : ∀ {g b cap}, grpι E cs g = some (b, cap) → ∃ cur, E.γ g = some (b, cap, cur) ∧ ∃ n u, RD E (.grp g n (cs g)) u := fun {g b cap} hg => by
   unfold grpι at hg
   split at hg
   · rename_i b' cap' cur hγ
     split at hg
     · rename_i hx
       simp only [Option.some.injEq, Prod.mk.injEq] at hg
       obtain ⟨rfl, rfl⟩ := hg
       exact ⟨cur, hγ, hx⟩
     · cases hg
   · cases hg
 have keep : ∀ d d' u, Ug cs st.box.length d d' → RD E d u → RD E2 d' u := fun d d' u hf hr => by
   cases d <;> simp only [Ug] at hf
   · obtain ⟨hf, rfl⟩ := hf
     exact .p _ _ (hr.p_inv.flat hf)
   · rename_i g n cells
     obtain ⟨rfl, rfl⟩ := hf
     obtain ⟨b, cap, cur, hg, hl, hrp, hu'⟩ := hr.grp_inv
     obtain ⟨e', vs, inf, q1, q2, q3, q4, q5, q6, q7, q8⟩ := h.grp g b cap cur hg
     have hcur := (hcs g _ q1).1
     have hu := hu' hcur.symm
     subst hu
     have hgι : grpι E cs g = some (b, cap) := by
       unfold grpι
       simp only [hg]
       rw [if_pos ⟨n, _, hr⟩]
     have h1 : E2.ι (st.box.length + g) = some b := by
       simp only [E2, if_neg (show ¬ st.box.length + g < st.box.length by omega), show st.box.length + g - st.box.length = g by omega, hgι, Option.map_some]
     have h2 : E2.κ (st.box.length + g) = some cap := by
       simp only [E2, if_neg (show ¬ st.box.length + g < st.box.length by omega), show st.box.length + g - st.box.length = g by omega, hgι, Option.map_some]
     rcases hrp.sl_inv with ⟨hx, _⟩ | ⟨_, _, _, _, _, hx, hcap, _⟩
     · cases hx
     · simp only [Value.slice.injEq] at hx
       exact .ms _ _ _ b cap (.inl h1) (by omega) (fun c1 hc1 _ => by rw [h2] at hc1; simpa using hc1)
   · subst hf
     obtain ⟨b, hi, rfl⟩ := hr.ptr_inv
     exact .ptr _ _ b (hN2 hi)
   · subst hf
     obtain ⟨b, cap, hi, hc, hk, rfl⟩ := hr.ms_inv
     exact .ms _ _ _ b cap (hN2 hi) hc (fun c1 h1 => hk c1 ((hκ2 hi).symm.trans h1))
   · subst hf
     obtain ⟨b, hi, rfl⟩ := hr.mref_inv
     exact .mref _ b (hN2 hi)
 have hιL : ∀ {j x}, E2.ι j = some x → (j < st.box.length ∧ E.ι j = some x) ∨ ∃ g cap, j = st.box.length + g ∧ grpι E cs g = some (x, cap) := fun {j x} hj => by
   by_cases hjl : j < st.box.length
   · simp only [E2, if_pos hjl] at hj; exact .inl ⟨hjl, hj⟩
   · simp only [E2, if_neg hjl, Option.map_eq_some_iff] at hj
     obtain ⟨⟨b, cap⟩, h1, rfl⟩ := hj
     exact .inr ⟨j - st.box.length, cap, by omega, h1⟩
 refine ⟨E2, ⟨h.os, h.tape, h.output, h.size, h.old, ⟨fun _ _ _ h => h, fun i x hi => hN2 (hle.ι i x hi), fun i x hi => (hκ2 (hle.ι i x hi)).trans (hle.κ i x hi), fun g _ _ _ hx => by
     have hx : E0.γ g = _ := hx
     rw [noγ] at hx; cases hx⟩,
   fun _ _ _ _ => rfl, fun b o u hx => h.gok b o u (hle.G b o u hx), fun j x hj => ?_, fun i j x hi hj => ?_, fun _ _ _ _ hx => (by cases hx), fun _ _ _ _ _ _ _ hx => (by cases hx), fun _ _ _ _ _ _ hx => (by cases hx), fun j x hj => ?_, fun j k hj => ?_⟩, rfl, keep⟩
 · rcases hιL hj with ⟨hlt, hj⟩ | ⟨g, cap, rfl, hg⟩
   · obtain ⟨B, vs, k1, k2, k3, k4, k5, k6, k7⟩ := h.box j x hj
     obtain ⟨B', l1, l2, l3⟩ := hbs j B k1
     obtain ⟨l3, l4, l5⟩ := l3 k6.1
     obtain ⟨m1, m2⟩ := l5.spec
     refine ⟨B', vs, (by rw [List.getElem?_append_left (by omega)]; exact l1), by rw [objOf_congr vs l2.2 l3 (fun _ => m1)]; exact k2, by omega, fun k hk => ⟨keep _ _ _ (m2 k (by omega)) (k4 k (by omega)).1, (k4 k (by omega)).2⟩, k5, ⟨l2.1.trans (k6.1.trans l2.2.symm), ?_⟩, fun o => ?_⟩
     · simp only [E2, if_pos hlt]
       exact ⟨l4.trans k6.2.1, by rw [l3]; exact k6.2.2⟩
     · cases hx : E0.G x o with
       | none => rfl
       | some u => have := hle.G x o u hx; rw [k7 o] at this; cases this
   · obtain ⟨cur, hγ, n, u, hr⟩ := info hg
     obtain ⟨b', cap', cur', hγ', hl, hrp, hu'⟩ := hr.grp_inv
     rw [hγ] at hγ'
     simp only [Option.some.injEq, Prod.mk.injEq] at hγ'
     obtain ⟨rfl, rfl, rfl⟩ := hγ'
     obtain ⟨e', vs, inf, q1, q2, q3, q4, q5, q6, q7, q8⟩ := h.grp g _ _ _ hγ
     obtain ⟨hcur, hc⟩ := hcs g _ q1
     have hu := hu' hcur.symm
     subst hu
     have hcur : cur = (cs g).length := hcur
     refine ⟨_, vs, (by rw [List.getElem?_append_right (by omega), gpBoxes_get, hbl, show st.box.length + g - st.box.length = g by omega, q1]; rfl), (by rw [objOf_cells _ rfl]; exact q2), by simp only [List.length_map, Nat.zero_add]; omega, fun k hk => ?_, q7, ⟨rfl, ?_⟩, hnew g _ _ _ hγ⟩
     · simp only [List.length_map, Nat.zero_add] at hk
       rcases hrp.sl_inv with ⟨_, _, hx, _⟩ | ⟨b2, o2, sp2, cap2, us, hu2, _, _, hG, hR, _⟩
       · rw [hx] at hk; exact absurd hk (Nat.not_lt_zero _)
       · simp only [Value.slice.injEq, Option.some.injEq, Addr.mk.injEq] at hu2
         obtain ⟨⟨rfl, rfl, _⟩, _, _⟩ := hu2
         obtain ⟨hc1, hc2⟩ := h.gok _ _ _ (hG k hk)
         rw [cell_of_row w _ _ vs _ (0, 0) q2] at hc1
         simp only [Nat.zero_add] at hc1
         have hv : vs.getD k undef = us k := by
           rw [show vs.getD k undef = (vs[k]?).getD undef by simp, hc1]; rfl
         rw [hv]
         refine ⟨?_, hc2⟩
         have hk2 := hR k hk
         simp only [List.getD, List.getElem?_map, Nat.zero_add, List.getElem?_eq_getElem hk, Option.map_some, Option.getD_some] at hk2 ⊢
         refine .p _ _ (hk2.flat ?_)
         rw [List.all_eq_true] at hc
         exact hc _ (List.getElem_mem _)
     · simp only [E2, if_neg (show ¬ st.box.length + g < st.box.length by omega), show st.box.length + g - st.box.length = g by omega, hg, Option.map_some]
       refine ⟨rfl, fun c1 h1 => ?_⟩
       simp only [Option.some.injEq] at h1
       subst h1
       exact ⟨inf, q3, q4, q6⟩
 · rcases hιL hi with ⟨hil, hi⟩ | ⟨g, cap, rfl, hg⟩ <;> rcases hιL hj with ⟨hjl, hj⟩ | ⟨g', cap', rfl, hg'⟩
   · exact h.inj i j x hi hj
   · obtain ⟨_, hγ, _⟩ := info hg'
     exact absurd hγ (h.apart i g' _ _ _ hi)
   · obtain ⟨_, hγ, _⟩ := info hg
     exact absurd hγ (h.apart j g _ _ _ hj)
   · obtain ⟨_, hγ, _⟩ := info hg
     obtain ⟨_, hγ', _⟩ := info hg'
     obtain rfl := h.ginj g g' x _ _ _ _ hγ hγ'
     rfl
 · obtain ⟨B, k1, k2⟩ := h.dead j x hj
   obtain ⟨B', l1, l2, _⟩ := hbs j B k1
   have hlt : j < bs.length := (List.getElem?_eq_some_iff.1 l1).1
   exact ⟨B', by rw [List.getElem?_append_left hlt]; exact l1, l2.1.trans k2.1, l2.2.trans k2.2⟩
 · by_cases hjl : j < st.box.length
   · simp only [E2, if_pos hjl] at hj
     exact (h.kap j k hj).imp fun _ h => hN2 h
   · simp only [E2, if_neg hjl, Option.map_eq_some_iff] at hj
     obtain ⟨⟨b, cap⟩, h1, rfl⟩ := hj
     exact ⟨b, .inl (by simp only [E2, if_neg hjl, h1, Option.map_some])⟩
end
section
variable {P : Program}
theorem FnC.own {f : FuncId} {ds : List D} {st st1 : St} {d : D} (hst : st.grp = []) (h : FnC P f ds st fun x s => x = d ∧ s = st1)
   {cs : Nat → List PD} (hcs : ∀ g q, st1.grp[g]? = some q → q.1 = (cs g).length ∧ (cs g).all flatP = true) {bs : List Box} (hb : UgB cs st1.box.length st1.box bs) {d' : D}
   (hd : ∀ E E2 : Em, (∀ d d' u, Ug cs st1.box.length d d' → RD E d u → RD E2 d' u) → ∀ u, RD E d u → RD E2 d' u) :
   FnC P f ds st fun x s => x = d' ∧ s = ⟨bs ++ gpBoxes cs 0 st1.grp, []⟩ := by
 intro c
 refine ⟨(h c).1, fun E w vs hw hgl hs hR => ((h (.sub w E)).2 E w vs hw.enter hgl hs hR).mono ?_⟩
 rintro e1 w' ⟨v, E', d, s, rfl, h1, h2, h3, _, rfl, rfl⟩
 obtain ⟨E2, k1, k3, k4⟩ := hw.ungrp hst h2 hcs hb
 exact ⟨_, E2, _, _, rfl, k1.le, hw.leave k1, hd _ _ k4 _ h3, fun _ _ _ hn => absurd trivial hn, rfl, rfl⟩
theorem Ug.one {cs : Nat → List PD} {L : Nat} {d d' : D} (h : Ug cs L d d') : ∀ E E2 : Em, (∀ d d' u, Ug cs L d d' → RD E d u → RD E2 d' u) → ∀ u, RD E d u → RD E2 d' u := fun _ _ hk _ hu => hk _ _ _ h hu
structure GS where
 t : Ty
 l : List t.den
 e : TypeId
def GS.csOf : List GS → Nat → List PD
 | [], _ => []
 | G :: _, 0 => G.t.rows G.l
 | _ :: r, k + 1 => GS.csOf r k
def GS.grps (gs : List GS) : List (Nat × TypeId) := gs.map fun G => (G.l.length * G.t.size, G.e)
def GS.boxes (gs : List GS) : List BoxS := gs.map fun G => { cells := [.arr G.l.length G.t G.l], e := G.e, fz := false, ap := true }
theorem GS.boxes_conc {cs : Nat → List PD} : ∀ (gs : List GS) (k : Nat), (∀ g, cs (k + g) = GS.csOf gs g ∨ gs.length ≤ g) → (GS.boxes gs).map BoxS.conc = gpBoxes cs k (GS.grps gs)
 | [], k, _ => rfl
 | G :: r, k, h => by
   have h0 := h 0
   have ih := GS.boxes_conc (cs := cs) r (k + 1) fun g => by
     rcases h (g + 1) with h | h
     · left; rw [show k + 1 + g = k + (g + 1) by omega, h]; rfl
     · right; simpa using h
   simp only [GS.boxes, GS.grps, List.map_cons, gpBoxes] at ih ⊢
   rw [ih]
   have h0 : cs k = G.t.rows G.l := by
     rcases h0 with h | h
     · exact h
     · simp at h
   simp only [BoxS.conc, concCs_cons, concCs_nil, cellS, arrCells, List.append_nil, G.t.norm_eq rfl, h0]
theorem GS.cs_ok {gs : List GS} (hf : ∀ G ∈ gs, (G.t.rows G.l).all flatP = true) : ∀ g q, (GS.grps gs)[g]? = some q → q.1 = (GS.csOf gs g).length ∧ (GS.csOf gs g).all flatP = true := by
 induction gs with
 | nil => intro g q h; simp [GS.grps] at h
 | cons G r ih =>
   intro g q h
   cases g with
   | zero =>
     simp only [GS.grps, List.map_cons, List.getElem?_cons_zero, Option.some.injEq] at h
     subst h
     exact ⟨(Ty.rows_length _ _).symm, hf G List.mem_cons_self⟩
   | succ g => exact ih (fun G h => hf G (List.mem_cons_of_mem _ h)) g q (by simpa [GS.grps] using h)
theorem FnS.own {f : FuncId} {args : List DC} {st : StS} {d d' : DC} {bs bs' : List BoxS} (gs : List GS) (hst : st.grp = [])
   (h : FnS P f args st fun x s => x = d ∧ s = ⟨bs, GS.grps gs⟩) (hf : ∀ G ∈ gs, (G.t.rows G.l).all flatP = true) (hb : UgB (GS.csOf gs) bs.length (bs.map BoxS.conc) (bs'.map BoxS.conc))
   (hd : ∀ E E2 : Em, (∀ d d' u, Ug (GS.csOf gs) bs.length d d' → RD E d u → RD E2 d' u) → ∀ u, RD E d.conc u → RD E2 d'.conc u) :
   FnS P f args st fun x s => x = d' ∧ s = ⟨bs' ++ GS.boxes gs, []⟩ := by
 have h' : FnC P f (concL args) st.conc fun x s => x = d.conc ∧ s = StS.conc ⟨bs, GS.grps gs⟩ := by
   refine FnC.cmono _ _ _ _ _ ?_ h
   rintro x s ⟨d, s', rfl, rfl, rfl, rfl⟩
   exact ⟨rfl, rfl⟩
 have h2 := FnC.own (cs := GS.csOf gs) (bs := bs'.map BoxS.conc) (d' := d'.conc) hst h' (GS.cs_ok hf) (by simpa [StS.conc] using hb) (by simpa [StS.conc] using hd)
 refine FnC.cmono _ _ _ _ _ ?_ h2
 rintro x s ⟨rfl, rfl⟩
 refine ⟨_, _, rfl, ?_, rfl, rfl⟩
 simp only [StS.conc, List.map_append, GS.boxes_conc (cs := GS.csOf gs) gs 0 (fun g => .inl (by rw [Nat.zero_add]))]
end
end Go.Ab
