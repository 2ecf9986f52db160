/- Plan: the loop that takes the targets. -/
import Derived.Test.YtgcfdghbnpjpbaaLj
set_option linter.unusedSimpArgs false
set_option linter.unusedVariables false
set_option maxRecDepth 20000
set_option maxHeartbeats 4000000
namespace Go.Ab
open Go.Proofs Go.RowKit
def freeN (ls : List (List Int)) (per : Int) : Nat → Int
 | 0 => -1
 | k + 1 => if per > 0 ∧ ((ls.getD k []).length : Int) < per then (k : Int) else freeN ls per k
theorem stop_rows {ls : List (List Int)} {per : Int} {k : Nat} : stopP (rowsP ls) per k ↔ (per > 0 ∧ ((ls.getD k []).length : Int) < per) := by
 unfold stopP
 have : (gtR tRow (rowsP ls) k).2 = ls.getD k [] := by
   simp only [gtR,Int.toNat_natCast,rowsP,List.getD,List.getElem?_map]
   cases ls[k]? <;> rfl
 rw [this]
 constructor
 · rintro (h | h)
   · omega
   · exact h
 · exact .inr
theorem freeN_isf (ls : List (List Int)) (per : Int) : ∀ k : Nat,ISF (rowsP ls) per ((k : Int) - 1) (freeN ls per k)
 | 0 => ⟨by simp [freeN],by simp [freeN],.inl (by simp [freeN]),fun j h1 h2 => by simp [freeN] at h1; omega⟩
 | k + 1 => by
   have ih := freeN_isf ls per k
   unfold freeN
   split
   · rename_i h
     exact ⟨by omega,by omega,stop_rows.2 h,fun j h1 h2 => by omega⟩
   · rename_i h
     refine ⟨by have := ih.le; omega,ih.lo,ih.st,fun j h1 h2 => ?_⟩
     by_cases hj : j ≤ (k : Int) - 1
     · exact ih.no j h1 hj
     · obtain rfl : j = k := by omega
       exact fun hs => h (stop_rows.1 hs)
def capI (la cy : Int) : Int := if cy - 1 < la then cy - 1 else la
def placeM (per cy : Int) (ls : List (List Int)) (x : DUE) : List (List Int) :=
 if freeN ls per (capI x.2.1 cy + 1).toNat ≥ 0 then ls.set (freeN ls per (capI x.2.1 cy + 1).toNat).toNat (ls.getD (freeN ls per (capI x.2.1 cy + 1).toNat).toNat [] ++ [x.1]) else ls
theorem placeM_len (per cy : Int) (ls : List (List Int)) (x : DUE) : (placeM per cy ls x).length = ls.length := by
 unfold placeM; split <;> simp
theorem fold_len (per cy : Int) : ∀ (q : List DUE) (ls : List (List Int)),(q.foldl (placeM per cy) ls).length = ls.length
 | [],_ => rfl
 | x :: q,ls => by rw [List.foldl_cons,fold_len per cy q,placeM_len]
theorem INVM.grow {ls ls' : List (List Int)} {per : Int} {m : ME} (h : INVM (rowsP ls) per m) (hl : ls'.length = ls.length) (hg : ∀ k,(ls.getD k []).length ≤ (ls'.getD k []).length) : INVM (rowsP ls') per m := fun e he => by
 obtain ⟨h1,h2,h3,h4⟩ := h e he
 refine ⟨by simpa [rowsP,hl] using h1,h2,h3,fun j j1 j2 hs => h4 j j1 j2 ?_⟩
 rcases hs with hs | hs
 · exact .inl hs
 · by_cases hj : j < 0
   · exact .inl hj
   · obtain ⟨k,rfl⟩ : ∃ k : Nat,j = k := ⟨j.toNat,by omega⟩
     have h5 := stop_rows.1 (.inr hs : stopP (rowsP ls') per k)
     exact stop_rows.2 ⟨h5.1,by have := hg k; omega⟩
theorem zip_get {nb : List (Option Nat)} {ls : List (List Int)} {r : Nat} (hn : nb.length = ls.length) (hr : r < ls.length) : (List.zipWith cellOf nb ls)[r]? = some (cellOf (nb[r]'(by omega)) ls[r]) := by
 rw [List.getElem?_eq_getElem (by rw [List.length_zipWith]; omega),List.getElem_zipWith]
theorem zip_set {nb : List (Option Nat)} {ls : List (List Int)} {r N : Nat} {l : List Int} (hn : nb.length = ls.length) (hr : r < ls.length) :
   List.zipWith cellOf (nb.set r (some N)) (ls.set r l) = (List.zipWith cellOf nb ls).set r (.ms N 0 l.length) := by
 apply List.ext_getElem?
 intro i
 rw [List.getElem?_zipWith,List.getElem?_set,List.getElem?_set,List.getElem?_set,List.getElem?_zipWith,List.length_zipWith]
 by_cases h : r = i
 · subst h
   rw [if_pos rfl,if_pos rfl,if_pos rfl,if_pos (by omega),if_pos hr,if_pos (by omega)]
   rfl
 · rw [if_neg h,if_neg h,if_neg h]
theorem put_set {cells : List D} {r : Nat} (hr : r < cells.length) (d : D) : putCells cells r [d] = cells.set r d := by
 unfold putCells
 rw [List.set_eq_take_append_cons_drop,if_pos hr]
 simp
theorem ROWS.app {bx bx' : List Box} {T r N : Nat} {nb : List (Option Nat)} {ls : List (List Int)} {l : List Int} (h : ROWS bx T nb ls) (hr : r < ls.length) (hN : ∀ i b : Nat,nb[i]? = some (some b) → b ≠ N)
   (hT : bx'[T]? = some { cells := (List.zipWith cellOf nb ls).set r (.ms N 0 l.length),e := 41,fz := false,ap := true })
   (ho : ∀ i b : Nat,i ≠ r → nb[i]? = some (some b) → bx'[b]? = bx[b]?) (hn : bx'[N]? = some (rowBox l)) : ROWS bx' T (nb.set r (some N)) (ls.set r l) where
 n := by rw [List.length_set,List.length_set]; exact h.n
 tb := by rw [zip_set h.n hr]; exact hT
 no i hi := by
   rw [List.getElem?_set] at hi ⊢
   by_cases hri : r = i
   · subst hri
     rw [if_pos rfl] at hi
     split at hi <;> cases hi
   · rw [if_neg hri] at hi ⊢
     exact h.no i hi
 so i b l' hi hl := by
   rw [List.getElem?_set] at hi hl
   by_cases hri : r = i
   · subst hri
     rw [if_pos rfl,if_pos hr] at hl
     rw [if_pos rfl,if_pos (by rw [h.n]; exact hr)] at hi
     obtain rfl := Option.some.inj hl
     obtain rfl := Option.some.inj (Option.some.inj hi)
     exact hn
   · rw [if_neg hri] at hi hl
     rw [ho i b (fun e => hri e.symm) hi]
     exact h.so i b l' hi hl
 inj i j b hi hj := by
   rw [List.getElem?_set] at hi hj
   by_cases h1 : r = i <;> by_cases h2 : r = j
   · omega
   · subst h1
     rw [if_pos rfl,if_pos (by rw [h.n]; exact hr)] at hi
     rw [if_neg h2] at hj
     obtain rfl := Option.some.inj (Option.some.inj hi)
     exact absurd rfl (hN j _ hj)
   · subst h2
     rw [if_pos rfl,if_pos (by rw [h.n]; exact hr)] at hj
     rw [if_neg h1] at hi
     obtain rfl := Option.some.inj (Option.some.inj hj)
     exact absurd rfl (hN i _ hi)
   · rw [if_neg h1] at hi
     rw [if_neg h2] at hj
     exact h.inj i j b hi hj
end Go.Ab
