/- slices.SortFunc on parcels: what the row holds behind it. -/
import Derived.Test.YtchmkekndbfflaaLs
import Derived.Test.YtchmkekndbfflaaAbG
import Derived.Shelf.SlSortCmp.WholeK
import Derived.Shelf.Lay
import Derived.Ground.SlsfProg
set_option linter.unusedSimpArgs false
set_option linter.unusedVariables false
set_option maxRecDepth 100000
set_option maxHeartbeats 8000000
namespace Go.Proofs
open Go.Shelf Go.RowKit Go.Lib Go.Sort Go.Ab
shelf_lay_g SlLaysF0.n6 Slsf 6 at Try 40 as Try.sortPar
def encPar (x : tPar.den) : List Value := [.int .i64 x.1, .int .i64 x.2.1, .int .i64 x.2.2.1, .int .i64 x.2.2.2.1, .int .u8 x.2.2.2.2.1, .int .i64 x.2.2.2.2.2]
def befB (x y : tPar.den) : Bool := decide ((x.1 : Int) < y.1 ∨ (x.1 : Int) = y.1 ∧ (x.2.1 : Int) < y.2.1)
def befI (x y : tPar.den) : Int := if befB x y then -1 else 1
theorem Try.bef42 (x y : tPar.den) (W : World) : Calls Try.prog 42 #[.agg (encPar x).toArray, .agg (encPar y).toArray] W fun e w' => e = .returned (.bool (befB x y)) ∧ ∃ q os', w' = grow (W.drewN q) os' := by
  unfold encPar befB
  go_enter Try.func42, Try.ntmps42
  obtain ⟨x1, x2, x3, x4, x5, x6⟩ : Int × Int × Int × Int × Int × Int := x
  obtain ⟨y1, y2, y3, y4, y5, y6⟩ : Int × Int × Int × Int × Int × Int := y
  go_wp2_with fail
  all_goals go_ret
  all_goals refine ⟨?_, 0, _, by rw [alloc_eq_grow, alloc_eq_grow, grow_grow]; rfl⟩
  all_goals try dsimp only
  all_goals first | rfl | (congr 2; simp only [decide_eq_decide, eq_iff_iff, decide_eq_true_eq, true_eq_decide_iff] at *; omega)
theorem Try.pend41 (x y : tPar.den) (W : World) : Calls Try.prog 41 #[.agg (encPar x).toArray, .agg (encPar y).toArray] W fun e w' => e = .returned (.int .i64 (befI x y)) ∧ ∃ q os', w' = grow (W.drewN q) os' := by
  have hcon := fun W' => Try.bef42 x y W'
  unfold befI
  generalize befB x y = r at hcon ⊢
  unfold encPar at hcon ⊢
  go_enter Try.func41, Try.ntmps41
  go_wp2_with (go_at_call 42; refine (hcon _).mono ?_; rintro e w' ⟨rfl, q, os', rfl⟩)
  all_goals go_ret
  all_goals exact ⟨rfl, q, _, by rw [alloc_eq_grow, alloc_eq_grow, grow_grow]; show grow (grow (W.drewN q) _) os' = _; rw [grow_grow]⟩
theorem befLt (x y : tPar.den) : ltOf befI x y = befB x y := by
  unfold ltOf befI
  cases befB x y <;> simp
theorem bef_t (a b c d e f : Int) : (a < c ∨ a = c ∧ b < d) → (c < e ∨ c = e ∧ d < f) → (a < e ∨ a = e ∧ b < f) := by omega
theorem bef_n (a b c d e f : Int) : ¬ (a < c ∨ a = c ∧ b < d) → ¬ (c < e ∨ c = e ∧ d < f) → ¬ (a < e ∨ a = e ∧ b < f) := by omega
theorem befSWO : SWO (ltOf befI) where
  irrefl x := by rw [befLt]; simp [befB]
  trans x y z h1 h2 := by
    rw [befLt] at *
    exact decide_eq_true (bef_t _ _ _ _ _ _ (of_decide_eq_true h1) (of_decide_eq_true h2))
  ntrans x y z h1 h2 := by
    rw [befLt] at *
    exact decide_eq_false (bef_n _ _ _ _ _ _ (of_decide_eq_false h1) (of_decide_eq_false h2))
instance : Inhabited tPar.den := ⟨tPar.dflt⟩
noncomputable def sortQ (l : List tPar.den) : List tPar.den := (pdq (ltOf befI) l.toArray 0 l.length (Lib.bitLen l.length) true true).toList
theorem sortQ_spec (l : List tPar.den) : (sortQ l).length = l.length ∧ (sortQ l).Perm l ∧ ∀ i j, i < j → j < l.length → befB ((sortQ l).getD j tPar.dflt) ((sortQ l).getD i tPar.dflt) = false := by
  have h := pdq_sorts (ltOf befI) befSWO l.toArray 0 l.length (Lib.bitLen l.length) true true (Nat.zero_le _) (by simp) (Or.inl rfl)
  obtain ⟨⟨h1, _, h2⟩, h3⟩ := h
  have hs : (pdq (ltOf befI) l.toArray 0 l.length (Lib.bitLen l.length) true true).size = l.length := by simpa using h1
  refine ⟨by unfold sortQ; rw [Array.length_toList, hs], ?_, fun i j hij hj => ?_⟩
  · unfold sortQ
    generalize pdq (ltOf befI) l.toArray 0 l.length (Lib.bitLen l.length) true true = p at *
    have e1 : p.extract 0 l.length = p := by rw [← hs, Array.extract_size]
    have e2 : (l.toArray.extract 0 l.length).toList = l := by simp
    rw [e1, e2] at h2
    exact h2
  · have := h3 i j (Nat.zero_le _) hij hj
    rw [befLt] at this
    have e : ∀ k, k < l.length → (sortQ l).getD k tPar.dflt = (pdq (ltOf befI) l.toArray 0 l.length (Lib.bitLen l.length) true true)[k]! := fun k hk => by
      unfold sortQ
      rw [getElem!_pos _ k (by rw [hs]; exact hk), List.getD, Array.getElem?_toList, Array.getElem?_eq_getElem (by rw [hs]; exact hk)]; rfl
    rw [e j hj, e i (by omega)]; exact this
end Go.Proofs
namespace Go.Ab
open Go.RowKit Go.Proofs
theorem par_cells (l : List tPar.den) : tPar.rows l = (l.flatMap encPar).map .v := by
  induction l with
  | nil => rfl
  | cons x r ih => show tPar.cells x ++ tPar.rows r = _; rw [ih, List.flatMap_cons, List.map_append]; rfl
theorem sort_calls {st : St} {i n : Nat} {B : Box} (hB : st.box[i]? = some B) (hf : B.fz = false) (q : List tPar.den) (hq : q.length = n) (hn : n < 4611686018427387904) (hc : B.cells = (tPar.rows q).map .p) {K : D → St → Prop}
    (hK : K (.p (.tup [])) { st with box := st.box.set i { B with cells := (tPar.rows (sortQ q)).map .p } }) :
    FnC Try.prog 40 [.ms i 0 n, .fn (.func 41) [] []] st K := by
  intro c
  refine ⟨Try.call40, fun E w vs hw hgl hsz hR => ?_⟩
  obtain ⟨v0, v1, rfl⟩ : ∃ v0 v1, vs = #[v0, v1] := ⟨vs[0]'(by simp at hsz; omega), vs[1]'(by simp at hsz; omega), by
    apply Array.ext
    · simpa using hsz
    · intro k h1 h2
      have hk : k < 2 := by simpa using h2
      match k, hk with
      | 0, _ => rfl
      | 1, _ => rfl⟩
  obtain ⟨b, cap, hN, hcap, hkap, rfl⟩ := (hR 0 (by simp)).ms_inv
  obtain ⟨us, ws, hv1, hus, hws, _, _⟩ := (hR 1 (by simp)).fn_inv
  obtain rfl : us = #[] := Array.eq_empty_of_size_eq_zero (by simpa using hus)
  obtain rfl : ws = #[] := Array.eq_empty_of_size_eq_zero (by simpa using hws)
  obtain rfl : v1 = .func (.func 41) #[] #[] := hv1
  have hb := hw.live hN hB hf
  have hk6 : ∀ x : tPar.den, (encPar x).length = 6 := fun _ => rfl
  have h1c : ∀ x : tPar.den, ∀ v ∈ encPar x, v.oneCell' = true := fun x v hv => by
    simp only [encPar, List.mem_cons, List.not_mem_nil, or_false] at hv
    rcases hv with rfl | rfl | rfl | rfl | rfl | rfl <;> rfl
  have hcells : ∀ l : List tPar.den, (tPar.rows l).map D.p = (l.flatMap encPar).map fun v => .p (.v v) := fun l => by rw [par_cells, List.map_map]; rfl
  obtain ⟨hH, hS⟩ := hw.sorted hb hB hf encPar 6 hk6 h1c q.toArray (by rw [hc, hcells])
  have eg : ∀ args w, (callFunc 41 args).run Try.prog w = .ok (.enter 41 args) w := fun args w => Try.call41 args w
  have hcon := AnyQ.slices_SortFunc_eq Try.sortPar 6 (fun _ => by rfl) (fun _ => by rfl) encPar hk6 h1c befI befSWO 41 #[] b 0 cap q.toArray w eg (fun m os dk hs x y => Try.pend41 x y _) hH (hw.ι_lt hb) (by simpa [hq] using hn)
  have e : q.toArray.size = n := by simpa using hq
  rw [e] at hcon
  change Calls Try.prog 40 _ _ _ at hcon
  refine hcon.mono ?_
  rintro e w' ⟨rfl, m, os, rfl⟩
  have h2 := hS (Go.Sort.pdq (ltOf befI) q.toArray 0 n (Lib.bitLen n) true true) m os (by
    have := (sortQ_spec q).1
    unfold sortQ at this
    rw [hq, Array.length_toList] at this
    rw [this, e])
  have e3 : (Go.Sort.pdq (ltOf befI) q.toArray 0 n (Lib.bitLen n) true true).toList = sortQ q := by unfold sortQ; rw [hq]
  rw [e3, ← hcells] at h2
  refine ⟨_, E, _, _, rfl, .refl E, h2, .p _ _ (.tup [] #[] rfl (fun i hi => absurd hi (Nat.not_lt_zero _))), fun _ _ _ h => absurd trivial h, hK⟩
/-- The row of a box. -/
theorem cSort (n a : Nat) (q : List tPar.den) (hq : q.length = n) (hn : n < 4611686018427387904) (ap : Bool) : FnS Try.prog 40 [.ms 0 0 6 none n, .fn (.func 41) [] []] ⟨[{ cells := [.arr n tPar q], e := 49, fz := false, ap := ap }], []⟩
    fun x_ s_ => x_ = (.p (.tup [])) ∧ s_ = ⟨[{ cells := [.arr n tPar (sortQ q)], e := 49, fz := false, ap := ap }], []⟩ := by
  have hl := (sortQ_spec q).1
  have e1 : arrCells n tPar q = (tPar.rows q).map .p := by unfold arrCells; rw [Ty.norm_eq tPar hq]
  have e2 : arrCells n tPar (sortQ q) = (tPar.rows (sortQ q)).map .p := by unfold arrCells; rw [Ty.norm_eq tPar (hl.trans hq)]
  refine sort_calls (i := 0) (n := n) (B := { cells := arrCells n tPar q ++ [], e := 49, fz := false, ap := ap }) rfl rfl q hq hn (by rw [e1, List.append_nil]) ?_
  refine ⟨.p (.tup []), ⟨[{ cells := [.arr n tPar (sortQ q)], e := 49, fz := false, ap := ap }], []⟩, rfl, ?_, rfl, rfl⟩
  show St.mk [{ cells := (tPar.rows (sortQ q)).map .p, e := _, fz := _, ap := _ }] [] = St.mk [{ cells := arrCells n tPar (sortQ q) ++ [], e := _, fz := _, ap := _ }] []
  rw [e2]; simp only [List.append_nil]
end Go.Ab

