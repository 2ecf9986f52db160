/- Plan: the loop that takes the targets,walked. -/
import Derived.Test.YtgcfdghbnpjpbaaLk
set_option linter.unusedSimpArgs false
set_option linter.unusedVariables false
set_option maxRecDepth 20000
set_option maxHeartbeats 4000000
namespace Go.Ab
open Go.Proofs Go.RowKit
structure PST (bx0 bx : List Box) (q : List DUE) (per : Int) (T : Nat) (nb : List (Option Nat)) (ls : List (List Int)) : Prop where
 pref : PREF bx0 bx
 od : bx[bx0.length + 1]? = some (ordBox q)
 lt : bx0.length + 1 < T
 vars : VARS bx bx0.length (T + 1) (T + 3) (T + 4) T (T + 2) ls.length per
 rows : ROWS bx T nb ls
 far : ∀ i b : Nat,nb[i]? = some (some b) → T + 4 < b
 mp : ∃ k m,bx[T + 2]? = some (mapBx k m) ∧ 0 ≤ k ∧ INVM (rowsP ls) per m
theorem PST.ov {bx0 bx : List Box} {q : List DUE} {per : Int} {T : Nat} {nb : List (Option Nat)} {ls : List (List Int)} (h : PST bx0 bx q per T nb ls) : T + 4 < bx.length := by
 obtain ⟨B,h1,_⟩ := h.vars.r
 exact (List.getElem?_eq_some_iff.1 h1).1
theorem VARS.keep {bx bx' : List Box} {pe ov fv rv T M n : Nat} {per : Int} (h : VARS bx pe ov fv rv T M n per) (h1 : bx'[pe]? = bx[pe]?) (h2 : bx'[ov]? = bx[ov]?) (h3 : bx'[fv]? = bx[fv]?) (h4 : bx'[rv]? = bx[rv]?) : VARS bx' pe ov fv rv T M n per :=
 ⟨by rw [h1]; exact h.p,by rw [h2]; exact h.o,by rw [h3]; exact h.f,by rw [h4]; exact h.r⟩
theorem ROWS.keep {bx bx' : List Box} {T : Nat} {nb : List (Option Nat)} {ls : List (List Int)} (h : ROWS bx T nb ls) (h1 : bx'[T]? = bx[T]?) (h2 : ∀ i b : Nat,nb[i]? = some (some b) → bx'[b]? = bx[b]?) : ROWS bx' T nb ls :=
 ⟨h.n,by rw [h1]; exact h.tb,h.no,fun i b l hi hl => by rw [h2 i b hi]; exact h.so i b l hi hl,h.inj⟩
theorem ROWS.lt {bx : List Box} {T : Nat} {nb : List (Option Nat)} {ls : List (List Int)} (h : ROWS bx T nb ls) {i b : Nat} (hi : nb[i]? = some (some b)) : b < bx.length := by
 have hil := (List.getElem?_eq_some_iff.1 hi).1
 have := h.n
 exact (List.getElem?_eq_some_iff.1 (h.so i b _ hi (List.getElem?_eq_getElem (by omega)))).1
theorem PST.push {bx0 bx : List Box} {q : List DUE} {per : Int} {T : Nat} {nb : List (Option Nat)} {ls : List (List Int)} (h : PST bx0 bx q per T nb ls) (B : Box) : PST bx0 (bx ++ [B]) q per T nb ls := by
 have ho := h.ov
 have hg : ∀ i,i < bx.length → (bx ++ [B])[i]? = bx[i]? := fun i hi => List.getElem?_append_left hi
 have hlt := h.lt
 refine ⟨h.pref.push B,by rw [hg _ (by omega)]; exact h.od,h.lt,h.vars.keep (hg _ (by omega)) (hg _ (by omega)) (hg _ (by omega)) (hg _ (by omega)),h.rows.keep (hg _ (by omega)) (fun i b hi => hg _ (h.rows.lt hi)),h.far,?_⟩
 rw [hg _ (by omega)]; exact h.mp
theorem PST.map {bx0 bx : List Box} {q : List DUE} {per : Int} {T : Nat} {nb : List (Option Nat)} {ls : List (List Int)} (h : PST bx0 bx q per T nb ls) {k : Int} {m : ME} (hk : 0 ≤ k) (hm : INVM (rowsP ls) per m) : PST bx0 (bx.set (T + 2) (mapBx k m)) q per T nb ls := by
 have ho := h.ov
 have hlt := h.lt
 have hg : ∀ i,i ≠ T + 2 → (bx.set (T + 2) (mapBx k m))[i]? = bx[i]? := fun i hi => List.getElem?_set_ne (Ne.symm hi)
 refine ⟨h.pref.set (by omega) _,by rw [hg _ (by omega)]; exact h.od,h.lt,h.vars.keep (hg _ (by omega)) (hg _ (by omega)) (hg _ (by omega)) (hg _ (by omega)),h.rows.keep (hg _ (by omega)) (fun i b hi => hg _ (by have := h.far i b hi; omega)),h.far,⟨k,m,?_,hk,hm⟩⟩
 rw [List.getElem?_set_self (by omega)]
theorem PST.app {bx0 bx bx' : List Box} {q : List DUE} {per : Int} {T r : Nat} {nb : List (Option Nat)} {ls : List (List Int)} {l : List Int} (h : PST bx0 bx q per T nb ls) (hr : r < ls.length) (hl : (ls.getD r []).length ≤ l.length)
   (hT : bx'[T]? = some { cells := (List.zipWith cellOf nb ls).set r (.ms bx.length 0 l.length),e := 41,fz := false,ap := true })
   (ho : ∀ i,i < bx.length → i ≠ T → (∀ b,nb[r]? = some (some b) → i ≠ b) → bx'[i]? = bx[i]?) (hn : bx'[bx.length]? = some (rowBox l)) : PST bx0 bx' q per T (nb.set r (some bx.length)) (ls.set r l) := by
 have hov := h.ov
 have hlt := h.lt
 have hg : ∀ i,i ≤ T + 4 → i ≠ T → bx'[i]? = bx[i]? := fun i hi h1 => ho i (by omega) h1 fun b hb => by have := h.far r b hb; omega
 refine ⟨fun i hi => ?_,by rw [hg _ (by omega) (by omega)]; exact h.od,h.lt,?_,h.rows.app hr (fun i b hi => by have := h.rows.lt hi; omega) hT (fun i b hi hb => ho b (h.rows.lt hb) (by have := h.far i b hb; omega) fun b' hb' e => hi (h.rows.inj i r b hb (e ▸ hb'))) hn,fun i b hi => ?_,?_⟩
 · rw [hg i (by omega) (by omega)]; exact h.pref i hi
 · rw [List.length_set]
   exact h.vars.keep (hg _ (by omega) (by omega)) (hg _ (by omega) (by omega)) (hg _ (by omega) (by omega)) (hg _ (by omega) (by omega))
 · rw [List.getElem?_set] at hi
   split at hi
   · split at hi
     · obtain rfl := Option.some.inj (Option.some.inj hi); exact hov
     · cases hi
   · exact h.far i b hi
 · obtain ⟨k,m,h1,h2,h3⟩ := h.mp
   refine ⟨k,m,by rw [hg _ (by omega) (by omega)]; exact h1,h2,h3.grow (by simp) fun j => ?_⟩
   simp only [List.getD,List.getElem?_set]
   by_cases hj : r = j
   · subst hj
     rw [if_pos rfl,if_pos hr]
     exact hl
   · rw [if_neg hj]; exact Nat.le_refl _
end Go.Ab
