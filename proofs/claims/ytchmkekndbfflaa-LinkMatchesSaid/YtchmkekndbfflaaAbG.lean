/- Abstract values and states for the functions of a translated program, and preconditions over them: the library's sort on a box. What is proved holds for every program, without conditions. -/
import Derived.Test.YtchmkekndbfflaaAbF
import Derived.Shelf.SlSortFuncK.SWK
set_option linter.unusedSimpArgs false
set_option linter.unusedVariables false
/- The abstract layer: slices.SortFunc of the kit on a box. -/
namespace Go.Ab
open Go.RowKit Go.Sort Go.Proofs
section
variable {α : Type} [Inhabited α]

theorem flat_get (enc : α → List Value) (k : Nat) (hk : ∀ x, (enc x).length = k) : ∀ (l : List α) (t : Nat), t < l.length * k → (l.flatMap enc)[t]? = (enc l[t / k]!)[t % k]?
  | [], t, h => by simp at h
  | x :: r, t, h => by
    have k0 : 0 < k := Nat.pos_of_ne_zero (by rintro rfl; simp at h)
    rw [List.flatMap_cons, List.getElem?_append, hk]
    by_cases ht : t < k
    · rw [if_pos ht, Nat.div_eq_of_lt ht, Nat.mod_eq_of_lt ht]; rfl
    · rw [if_neg ht, flat_get enc k hk r (t - k) (by simp only [List.length_cons, Nat.add_mul, Nat.one_mul] at h; omega)]
      have h1 : t / k = (t - k) / k + 1 := by rw [Nat.div_eq_sub_div k0 (by omega)]
      have h2 : t % k = (t - k) % k := by rw [Nat.mod_eq_sub_mod (by omega)]
      rw [h1, h2]; rfl
omit [Inhabited α] in
theorem flat_len (enc : α → List Value) (k : Nat) (hk : ∀ x, (enc x).length = k) : ∀ l : List α, (l.flatMap enc).length = l.length * k
  | [] => by simp
  | x :: r => by rw [List.flatMap_cons, List.length_append, hk, flat_len enc k hk r, List.length_cons, Nat.add_mul, Nat.one_mul, Nat.add_comm]
theorem sortFlat_get (enc : α → List Value) (k : Nat) (hk : ∀ x, (enc x).length = k) (d : Array α) (t : Nat) (h : t < d.size * k) : (Go.Sort.flatK enc k d)[t]! = (d.toList.flatMap enc).getD t undef := by
  have k0 : 0 < k := Nat.pos_of_ne_zero (by rintro rfl; simp at h)
  rw [get_flatK _ _ _ _ h, List.getD, flat_get enc k hk _ _ (by simpa using h)]
  have : d.toList[t / k]! = d[t / k]! := by simp [getElem!_def]
  rw [this]
  have hm : t % k < (enc d[t / k]!).length := by rw [hk]; exact Nat.mod_lt _ k0
  rw [List.getElem?_eq_getElem hm, getElem!_pos (enc d[t / k]!) (t % k) hm]; rfl

theorem HR.sorted {P : Program} {c : Ctx} {E : Em} {st : St} {w : World} (hw : HR P c E st w) {i b : Nat} (hb : E.ι i = some b) {B : Box} (hB : st.box[i]? = some B) (hf : B.fz = false) (enc : α → List Value) (k : Nat) (hk : ∀ x, (enc x).length = k)
    (h1 : ∀ x, ∀ v ∈ enc x, v.oneCell' = true) (d : Array α) (hc : B.cells = (d.toList.flatMap enc).map fun v => .p (.v v)) : HoldsK enc k w b 0 d ∧
    ∀ (d' : Array α) (n : Nat) (os : Array Obj), d'.size = d.size → HR P c E { st with box := st.box.set i { B with cells := (d'.toList.flatMap enc).map fun v => .p (.v v) } } (sortWorldK enc k w b 0 n d' os) := by
  obtain ⟨B', vs, q1, q2, q3, q4, q5, q6⟩ := hw.box i b hb
  obtain rfl : B = B' := by rw [hB] at q1; simpa using q1
  have hl : B.cells.length = d.size * k := by rw [hc, List.length_map, flat_len enc k hk]; simp
  refine ⟨fun j hj => ?_, fun d' n os hd => ?_⟩
  · rw [size_flatK] at hj
    have h := q4 j (by omega)
    have e : B.cells.getD j default = .p (.v ((d.toList.flatMap enc).getD j undef)) := by
      have hj' : j < (d.toList.flatMap enc).length := by rw [flat_len enc k hk]; simpa using hj
      rw [hc]; simp only [List.getD, List.getElem?_map, List.getElem?_eq_getElem hj', Option.map_some, Option.getD_some]
    rw [e] at h
    have hv := h.1.v_inv
    have hlt : j < vs.size := by omega
    refine ⟨?_, ?_⟩
    · show w.cell? ⟨b, 0 + j, none⟩ = some (id (Go.Sort.flatK enc k d)[j]!)
      rw [Nat.zero_add, id, sortFlat_get enc k hk d j hj, ← hv]
      unfold World.cell?
      simp only [q2]
      simp [Array.getD, hlt]
    · unfold World.frozen?
      simp only [q2]
      simp
  · have hset := hw.setbox hb hB hf ((d'.toList.flatMap enc).map fun v => .p (.v v)) vs (Go.Sort.putCells id 0 (Go.Sort.flatK enc k d') vs) q2 (by simp [Go.Sort.putCells]) (by
      rw [List.length_map, flat_len enc k hk]; simp only [Go.Sort.putCells, Array.size_mapIdx, Array.length_toList]; rw [hd]; omega) (fun j hj => by
      rw [List.length_map, flat_len enc k hk] at hj
      have hj2 : j < d'.size * k := by simpa using hj
      have hlt : j < vs.size := by rw [hd] at hj2; omega
      have hj' : j < (d'.toList.flatMap enc).length := by rw [flat_len enc k hk]; exact hj
      have e1 : (Go.Sort.putCells id 0 (Go.Sort.flatK enc k d') vs).getD j undef = (d'.toList.flatMap enc).getD j undef := by
        have := sortFlat_get enc k hk d' j hj2
        simp only [Array.getD_eq_getD_getElem?, Go.Sort.putCells, Array.getElem?_mapIdx, Array.getElem?_eq_getElem hlt, Option.map_some, Option.getD_some, Nat.zero_le, true_and, size_flatK, Nat.zero_add, hj2, if_true, Nat.sub_zero, id]
        exact this
      rw [e1]
      simp only [List.getD, List.getElem?_map, List.getElem?_eq_getElem hj', Option.map_some, Option.getD_some]
      refine ⟨.p _ _ (.v _), ?_⟩
      obtain ⟨x, _, hx⟩ := List.mem_flatMap.1 (List.getElem_mem hj')
      exact h1 x _ hx)
    have e2 : sortWorldK enc k w b 0 n d' os = grow (Go.Sort.ahead (w.setRow b (Go.Sort.putCells id 0 (Go.Sort.flatK enc k d') vs)) n) os := by
      unfold sortWorldK putRowK putRow
      congr 1
      show mapBlock (Go.Sort.ahead w n) b _ = _
      rw [mapBlock_congr (Go.Sort.ahead w n) b _ (fun _ => Go.Sort.putCells id 0 (Go.Sort.flatK enc k d') vs) (fun c' e fr h => by
        have : w.heap[b]? = some (.cells c' e fr) := h
        rw [q2] at this
        cases this; rfl)]
      rfl
    rw [e2]
    refine hset.grown ⟨⟨rfl, rfl, rfl, ?_, fun k' hk' => ?_⟩, fun a ha => ?_⟩
    · simp [grow, Go.Sort.ahead]
    · show ((w.setRow b _).heap ++ os)[k']? = _
      rw [Array.getElem?_append_left hk']
    · unfold World.frozen?
      have : (grow (Go.Sort.ahead (w.setRow b (Go.Sort.putCells id 0 (Go.Sort.flatK enc k d') vs)) n) os).heap[a.block]? = (w.setRow b (Go.Sort.putCells id 0 (Go.Sort.flatK enc k d') vs)).heap[a.block]? := by
        show ((w.setRow b _).heap ++ os)[a.block]? = _
        rw [Array.getElem?_append_left ha]
      rw [this]
end
end Go.Ab
