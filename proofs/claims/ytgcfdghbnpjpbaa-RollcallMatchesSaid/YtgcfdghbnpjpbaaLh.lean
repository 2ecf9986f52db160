/- slices.SortFunc on targets: what the row holds behind it. -/
import Derived.Test.YtgcfdghbnpjpbaaLg
import Derived.Shelf.SlSortCmp.WholeK
import Derived.Shelf.Lay
import Derived.Ground.SlsfProg
set_option linter.unusedSimpArgs false
set_option linter.unusedVariables false
set_option maxRecDepth 100000
set_option maxHeartbeats 8000000
namespace Go.Proofs
open Go.Shelf Go.RowKit Go.Lib Go.Sort Go.Ab
shelf_lay_g SlLaysF0.n6 Slsf 6 at Try 29 as Try.sortTar
def encT (x : DUE) : List Value := [.int .i64 x.1,.int .i64 x.2.1,.int .i64 x.2.2]
theorem encT_RD (x : DUE) : RD (noE fun _ _ => none) (injT tDue x).conc (.agg (encT x).toArray) := by
 have h : (injT tDue x).conc = .p (.agg [.v (.int .i64 x.1),.v (.int .i64 x.2.1),.v (.int .i64 x.2.2)]) := rfl
 rw [h]
 refine .p _ _ (.agg _ _ rfl fun i hi => ?_)
 match i,hi with
 | 0,_ => exact .v _
 | 1,_ => exact .v _
 | 2,_ => exact .v _
theorem Try.compare15 (x y : DUE) (W : World) : Calls Try.prog 30 #[.agg (encT x).toArray,.agg (encT y).toArray] W fun e w' => e = .returned (.int .i64 (cmpT x y)) ∧ ∃ q os',w' = grow (W.drewN q) os' := by
 obtain ⟨z,hz,h⟩ := cCompare x.1 x.2.1 x.2.2 y.1 y.2.1 y.2.2 _ rfl
 have e : z = .v (.int .i64 (cmpT x y)) := by
   simp only [DC.conc,D.p.injEq] at hz
   exact hz.symm
 subst e
 refine h.gr (fun _ => rfl) _ W rfl fun i hi => ?_
 match i,hi with
 | 0,_ => exact encT_RD x
 | 1,_ => exact encT_RD y
def befB (x y : DUE) : Bool := decide (y.2.2 < x.2.2 ∨ (y.2.2 = x.2.2 ∧ x.1 < y.1))
theorem cmpLt (x y : DUE) : ltOf cmpT x y = befB x y := by
 unfold ltOf cmpT befB orL orL orL cmpI
 rw [decide_eq_decide]
 split <;> split <;> (try split) <;> (try split) <;> omega
theorem bef_t (a b c d e f : Int) : (d < b ∨ (d = b ∧ a < c)) → (f < d ∨ (f = d ∧ c < e)) → (f < b ∨ (f = b ∧ a < e)) := by omega
theorem bef_n (a b c d e f : Int) : ¬ (d < b ∨ (d = b ∧ a < c)) → ¬ (f < d ∨ (f = d ∧ c < e)) → ¬ (f < b ∨ (f = b ∧ a < e)) := by omega
theorem cmpSWO : SWO (ltOf cmpT) where
 irrefl x := by rw [cmpLt]; simp [befB]
 trans x y z h1 h2 := by
   rw [cmpLt] at *
   exact decide_eq_true (bef_t _ _ _ _ _ _ (of_decide_eq_true h1) (of_decide_eq_true h2))
 ntrans x y z h1 h2 := by
   rw [cmpLt] at *
   exact decide_eq_false (bef_n _ _ _ _ _ _ (of_decide_eq_false h1) (of_decide_eq_false h2))
noncomputable def sortT (l : List DUE) : List DUE := (pdq (ltOf cmpT) l.toArray 0 l.length (Lib.bitLen l.length) true true).toList
theorem sortT_spec (l : List DUE) : (sortT l).length = l.length ∧ (sortT l).Perm l ∧ ∀ i j,i < j → j < l.length → befB ((sortT l).getD j tDue.dflt) ((sortT l).getD i tDue.dflt) = false := by
 have h := pdq_sorts (ltOf cmpT) cmpSWO l.toArray 0 l.length (Lib.bitLen l.length) true true (Nat.zero_le _) (by simp) (Or.inl rfl)
 obtain ⟨⟨h1,_,h2⟩,h3⟩ := h
 have hs : (pdq (ltOf cmpT) l.toArray 0 l.length (Lib.bitLen l.length) true true).size = l.length := by simpa using h1
 refine ⟨by unfold sortT; rw [Array.length_toList,hs],?_,fun i j hij hj => ?_⟩
 · unfold sortT
   generalize pdq (ltOf cmpT) l.toArray 0 l.length (Lib.bitLen l.length) true true = p at *
   have e1 : p.extract 0 l.length = p := by rw [← hs,Array.extract_size]
   have e2 : (l.toArray.extract 0 l.length).toList = l := by simp
   rw [e1,e2] at h2
   exact h2
 · have := h3 i j (Nat.zero_le _) hij hj
   rw [cmpLt] at this
   have e : ∀ k,k < l.length → (sortT l).getD k tDue.dflt = (pdq (ltOf cmpT) l.toArray 0 l.length (Lib.bitLen l.length) true true)[k]! := fun k hk => by
     unfold sortT
     rw [getElem!_pos _ k (by rw [hs]; exact hk),List.getD,Array.getElem?_toList,Array.getElem?_eq_getElem (by rw [hs]; exact hk)]; rfl
   rw [e j hj,e i (by omega)]; exact this
end Go.Proofs
namespace Go.Ab
open Go.RowKit Go.Proofs
theorem due_cells (l : List DUE) : tDue.rows l = (l.flatMap encT).map .v := by
 induction l with
 | nil => rfl
 | cons x r ih => show tDue.cells x ++ tDue.rows r = _; rw [ih,List.flatMap_cons,List.map_append]; rfl
theorem sort_calls {st : St} {i n : Nat} {B : Box} (hB : st.box[i]? = some B) (hf : B.fz = false) (q : List DUE) (hq : q.length = n) (hn : n < 4611686018427387904) (hc : B.cells = (tDue.rows q).map .p) {K : D → St → Prop}
   (hK : K (.p (.tup [])) { st with box := st.box.set i { B with cells := (tDue.rows (sortT q)).map .p } }) :
   FnC Try.prog 29 [.ms i 0 n,.fn (.func 30) [] []] st K := by
 intro c
 refine ⟨Try.call29,fun E w vs hw hgl hsz hR => ?_⟩
 obtain ⟨v0,v1,rfl⟩ : ∃ v0 v1,vs = #[v0,v1] := ⟨vs[0]'(by simp at hsz; omega),vs[1]'(by simp at hsz; omega),by
   apply Array.ext
   · simpa using hsz
   · intro k h1 h2
     have hk : k < 2 := by simpa using h2
     match k,hk with
     | 0,_ => rfl
     | 1,_ => rfl⟩
 obtain ⟨b,cap,hN,hcap,hkap,rfl⟩ := (hR 0 (by simp)).ms_inv
 obtain ⟨us,ws,hv1,hus,hws,_,_⟩ := (hR 1 (by simp)).fn_inv
 obtain rfl : us = #[] := Array.eq_empty_of_size_eq_zero (by simpa using hus)
 obtain rfl : ws = #[] := Array.eq_empty_of_size_eq_zero (by simpa using hws)
 obtain rfl : v1 = .func (.func 30) #[] #[] := hv1
 have hb := hw.live hN hB hf
 have hk3 : ∀ x : DUE,(encT x).length = 3 := fun _ => rfl
 have h1c : ∀ x : DUE,∀ v ∈ encT x,v.oneCell' = true := fun x v hv => by
   simp only [encT,List.mem_cons,List.not_mem_nil,or_false] at hv
   rcases hv with rfl | rfl | rfl <;> rfl
 have hcells : ∀ l : List DUE,(tDue.rows l).map D.p = (l.flatMap encT).map fun v => .p (.v v) := fun l => by rw [due_cells,List.map_map]; rfl
 obtain ⟨hH,hS⟩ := hw.sorted hb hB hf encT 3 hk3 h1c q.toArray (by rw [hc,hcells])
 have eg : ∀ args w,(callFunc 30 args).run Try.prog w = .ok (.enter 30 args) w := fun args w => Try.call30 args w
 have hcon := AnyQ.slices_SortFunc_eq Try.sortTar 3 (fun _ => by rfl) (fun _ => by rfl) encT hk3 h1c cmpT cmpSWO 30 #[] b 0 cap q.toArray w eg (fun m os dk hs x y => Try.compare15 x y _) hH (hw.ι_lt hb) (by simpa [hq] using hn)
 have e : q.toArray.size = n := by simpa using hq
 rw [e] at hcon
 change Calls Try.prog 29 _ _ _ at hcon
 refine hcon.mono ?_
 rintro e w' ⟨rfl,m,os,rfl⟩
 have h2 := hS (Go.Sort.pdq (ltOf cmpT) q.toArray 0 n (Lib.bitLen n) true true) m os (by
   have := (sortT_spec q).1
   unfold sortT at this
   rw [hq,Array.length_toList] at this
   rw [this,e])
 have e3 : (Go.Sort.pdq (ltOf cmpT) q.toArray 0 n (Lib.bitLen n) true true).toList = sortT q := by unfold sortT; rw [hq]
 rw [e3,← hcells] at h2
 refine ⟨_,E,_,_,rfl,.refl E,h2,.p _ _ (.tup [] #[] rfl (fun i hi => absurd hi (Nat.not_lt_zero _))),fun _ _ _ h => absurd trivial h,hK⟩
end Go.Ab
