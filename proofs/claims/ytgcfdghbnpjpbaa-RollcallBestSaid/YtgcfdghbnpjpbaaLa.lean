/- Comparisons and copies of this seat. -/
import Derived.Test.YtgcfdghbnpjpbaaCod3
set_option linter.unusedSimpArgs false
set_option linter.unusedVariables false
set_option maxRecDepth 20000
set_option maxHeartbeats 2000000
namespace Go.Ab
open Go.Proofs
theorem hm15 : Try.prog.follows .mixedOrders = true := by kernel_rfl
abbrev tDue : Ty := .pair tI (.pair tI tI)
abbrev DUE := Int × Int × Int
abbrev ROW := Option Bool × List Int
theorem gtR_mem {t : Ty} {l : List t.den} {i : Int} (h0 : 0 ≤ i) (h1 : i < l.length) : gtR t l i ∈ l := by
 have h : i.toNat < l.length := by omega
 simp [gtR, h]
theorem BR.lss {cmp : BinOp → Int → Int → Bool} (h : cmp = cmpR) {x y : Int} {A B : Prop} (t : x < y → A) (f : ¬ x < y → B) : BR (cmp .lss x y) A B := by
 subst h; refine ⟨fun h => t (by simpa [cmpR] using h), fun h => f (by simpa [cmpR] using h)⟩
theorem BR.leq {cmp : BinOp → Int → Int → Bool} (h : cmp = cmpR) {x y : Int} {A B : Prop} (t : x ≤ y → A) (f : ¬ x ≤ y → B) : BR (cmp .leq x y) A B := by
 subst h; refine ⟨fun h => t (by simpa [cmpR] using h), fun h => f (by simpa [cmpR] using h)⟩
theorem BR.eql {cmp : BinOp → Int → Int → Bool} (h : cmp = cmpR) {x y : Int} {A B : Prop} (t : x = y → A) (f : ¬ x = y → B) : BR (cmp .eql x y) A B := by
 subst h; refine ⟨fun h => t (by simpa [cmpR] using h), fun h => f (by simpa [cmpR] using h)⟩
theorem BR.neq {cmp : BinOp → Int → Int → Bool} (h : cmp = cmpR) {x y : Int} {A B : Prop} (t : x ≠ y → A) (f : ¬ x ≠ y → B) : BR (cmp .neq x y) A B := by
 subst h; refine ⟨fun h => t (by simpa [cmpR] using h), fun h => f (by simpa [cmpR] using h)⟩
theorem BR.gtr {cmp : BinOp → Int → Int → Bool} (h : cmp = cmpR) {x y : Int} {A B : Prop} (t : x > y → A) (f : ¬ x > y → B) : BR (cmp .gtr x y) A B := by
 subst h; refine ⟨fun h => t (by simpa [cmpR] using h), fun h => f (by simpa [cmpR] using h)⟩
theorem BR.geq {cmp : BinOp → Int → Int → Bool} (h : cmp = cmpR) {x y : Int} {A B : Prop} (t : x ≥ y → A) (f : ¬ x ≥ y → B) : BR (cmp .geq x y) A B := by
 subst h; refine ⟨fun h => t (by simpa [cmpR] using h), fun h => f (by simpa [cmpR] using h)⟩
theorem BR.nn {cmp : BinOp → Int → Int → Bool} (h : cmp = cmpR) {x : Int} {A B : Prop} (f : B) : BR (cmp .neq x x) A B := BR.neq h (fun h => absurd rfl h) fun _ => f
def frS (fl hl : List Nat) (dsL : List DC) (stL : StS) (d : DC) (st' : StS) (ds : List DC) (st : StS) (K : DC → StS → Prop) : Prop :=
 leSs (fl.map some) (hl.map some) ds dsL ∧ ((Nat.ble 0 stL.box.length && Nat.ble 0 stL.grp.length && dupFree (fl.map some) && dupFree (hl.map some) && lowB true 0 (fl.map some) 0 && lowB false 0 (hl.map some) 0) = true ∧
   leBoxes (fl.map some) (hl.map some) st.box 0 0 (fl.map some) stL.box ∧ leGrps st.grp (hl.map some) stL.grp ∧ leEnv (fl.map some) (hl.map some) [] []) ∧
 (Nat.ble stL.box.length st'.box.length && Nat.ble stL.grp.length st'.grp.length) = true ∧
 K (renS (rnOf fl st'.box st.box.length) (rnOf hl st'.grp st.grp.length) d) ⟨mergeL fl (st'.box.map (renB (rnOf fl st'.box st.box.length) (rnOf hl st'.grp st.grp.length))) st.box, mergeL hl st'.grp st.grp⟩
theorem frS_ok {P : Program} {f : FuncId} {fl hl : List Nat} {dsL : List DC} {stL : StS} {d : DC} {st' : StS} {ds : List DC} {st : StS} {K : DC → StS → Prop} (h : FnS P f dsL stL fun x s => x = d ∧ s = st') (hk : frS fl hl dsL stL d st' ds st K) : FnS P f ds st K :=
 FnS.frame fl hl hk.1 (SIM_iff.2 hk.2.1) hk.2.2.1 h hk.2.2.2
abbrev tRow : Ty := .sl tI
theorem gtR_mem' {t : Ty} {l : List t.den} {i : Int} {x : t.den} (h0 : 0 ≤ i) (h1 : i < l.length) (hx : gtR t l i = x) : x ∈ l := hx ▸ gtR_mem h0 h1
structure SHR (l : List ROW) : Prop where
 a : l.length ≤ 2000
 b : ∀ r ∈ l, r.2.length ≤ 2000
def fndM (a : Int) : List DUE → Int → Int
 | [], _ => -1
 | x :: l, i => if x.1 = a then i else fndM a l (i + 1)
end Go.Ab
