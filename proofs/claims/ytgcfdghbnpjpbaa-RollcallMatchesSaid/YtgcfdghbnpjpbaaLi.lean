/- slices.Sort of integers: what the row holds behind it. -/
import Derived.Test.YtgcfdghbnpjpbaaLh
import Derived.Shelf.SortM.Plain
import Derived.Shelf.SortM.SortNone
import Derived.Ground.SlgmProg
set_option linter.unusedSimpArgs false
set_option linter.unusedVariables false
set_option maxRecDepth 100000
set_option maxHeartbeats 8000000
namespace Go.Proofs
open Go.Shelf Go.RowKit Go.Lib Go.Sort Go.Ab
shelf_lay_g SlLaysM.n5 Slgm 5 at Try 32 as Try.sortInt
end Go.Proofs
namespace Go.Ab
open Go.RowKit Go.Proofs Go.Sort
def encI (x : Int) : List Value := [.int .i64 x]
theorem flat1 (d : Array Int) : Go.Sort.flatK encI 1 d = d.map (Value.int .i64) := by
 apply Array.ext
 · rw [size_flatK,Array.size_map,Nat.mul_one]
 · intro j h1 h2
   have hj : j < d.size := by simpa using h2
   have h := get_flatK encI 1 d j (by omega)
   rw [getElem!_pos _ j h1] at h
   rw [h,Nat.div_one,Nat.mod_one,Array.getElem_map,getElem!_pos d j hj]
   rfl
theorem holds1 {w : World} {b : Nat} {d : Array Int} (h : HoldsK encI 1 w b 0 d) : Holds (Value.int .i64) w b 0 d := fun j hj => by
 unfold HoldsK at h
 rw [flat1] at h
 have := h j (by simpa using hj)
 rw [getElem!_pos _ j (by simpa using hj)] at this
 rw [getElem!_pos d j hj]
 simpa using this
theorem world1 (w : World) (b n : Nat) (d : Array Int) (os : Array Obj) : grow (putRow (Value.int .i64) (Sort.ahead w n) b 0 d) os = sortWorldK encI 1 w b 0 n d os := by
 unfold sortWorldK putRowK
 rw [flat1]
 congr 1
 unfold putRow
 congr 1
 funext c
 unfold Go.Sort.putCells
 rw [Array.size_map]
 congr 1
 funext k x
 by_cases hk : 0 ≤ k ∧ k < 0 + d.size
 · rw [if_pos hk,if_pos hk]
   have hk2 : k - 0 < d.size := by omega
   rw [getElem!_pos d _ hk2,getElem!_pos (d.map _) _ (by simpa using hk2)]
   simp
 · rw [if_neg hk,if_neg hk]
def srtI (q : List Int) : List Int := q.mergeSort fun x y => decide (x ≤ y)
theorem encI_flat (l : List Int) : (l.flatMap encI).map (fun v => D.p (.v v)) = l.map intB := by
 induction l with
 | nil => rfl
 | cons x l ih => rw [List.flatMap_cons,List.map_append,ih]; rfl
theorem sortI_calls {st : St} {i n : Nat} {B : Box} (hB : st.box[i]? = some B) (hf : B.fz = false) (q : List Int) (hq : q.length = n) (hn : n < 4611686018427387904) (hc : B.cells = q.map intB) {K : D → St → Prop}
   (hK : K (.p (.tup [])) { st with box := st.box.set i { B with cells := (srtI q).map intB } }) : FnC Try.prog 32 [.ms i 0 n] st K := by
 intro c
 refine ⟨Try.call32,fun E w vs hw hgl hsz hR => ?_⟩
 obtain ⟨v0,rfl⟩ : ∃ v0,vs = #[v0] := ⟨vs[0]'(by simp at hsz; omega),by
   apply Array.ext
   · simpa using hsz
   · intro k h1 h2
     have hk : k < 1 := by simpa using h2
     obtain rfl : k = 0 := by omega
     rfl⟩
 obtain ⟨b,cap,hN,hcap,hkap,h0⟩ := (hR 0 (by simp)).ms_inv
 obtain rfl : v0 = .slice (some ⟨b,0,none⟩) n cap := h0
 have hb := hw.live hN hB hf
 obtain ⟨hH,hS⟩ := hw.sorted hb hB hf encI 1 (fun _ => rfl) (fun x v hv => by simp only [encI,List.mem_singleton] at hv; subst hv; rfl) q.toArray (by rw [hc,encI_flat])
 have hcon := AnyM.slices_Sort_int Try.sortInt b 0 cap q w (holds1 hH) (hw.ι_lt hb) (by omega)
 rw [hq] at hcon
 change Calls Try.prog 32 _ _ _ at hcon
 refine hcon.mono ?_
 rintro e w' ⟨rfl,m,os,rfl⟩
 have h2 := hS (srtI q).toArray m os (by simp [srtI])
 rw [encI_flat] at h2
 refine ⟨_,E,.p (.tup []),_,rfl,.refl E,?_,.p _ _ (.tup [] #[] rfl (fun i hi => absurd hi (Nat.not_lt_zero _))),fun _ _ _ h => absurd trivial h,hK⟩
 rw [world1]
 exact h2
theorem sortI_nil {st : St} {K : D → St → Prop} (hK : K (.p (.tup [])) st) : FnC Try.prog 32 [.p (.sl (some true) 0 [])] st K := by
 intro c
 refine ⟨Try.call32,fun E w vs hw hgl hsz hR => ?_⟩
 obtain ⟨v0,rfl⟩ : ∃ v0,vs = #[v0] := ⟨vs[0]'(by simp at hsz; omega),by
   apply Array.ext
   · simpa using hsz
   · intro k h1 h2
     have hk : k < 1 := by simpa using h2
     obtain rfl : k = 0 := by omega
     rfl⟩
 have h0 : RP E.G (.sl (some true) 0 []) v0 := (hR 0 (by simp)).p_inv
 obtain rfl : v0 = .slice none 0 0 := by
   cases h0 with
   | nil => rfl
   | sl' _ _ _ _ _ _ _ _ h => exact absurd rfl h
 have hcon := AnyM.slices_Sort_int_none Try.sortInt none 0 w
 change Calls Try.prog 32 _ _ _ at hcon
 refine hcon.mono ?_
 rintro e w' ⟨rfl,rfl⟩
 exact ⟨_,E,_,st,rfl,.refl E,hw,.p _ _ (.tup [] #[] rfl (fun i hi => absurd hi (Nat.not_lt_zero _))),fun _ _ _ h => absurd trivial h,hK⟩
end Go.Ab
