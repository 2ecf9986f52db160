/- Plan,as a function of its arguments. -/
import Derived.Test.YtgcfdghbnpjpbaaLn
set_option linter.unusedSimpArgs false
set_option linter.unusedVariables false
set_option maxRecDepth 20000
set_option maxHeartbeats 4000000
namespace Go.Ab
open Go.Proofs Go.RowKit
noncomputable def planR (l : List DUE) (cy per : Int) : List ROW := if wrnM l cy per ≠ 0 then [] else rowsP (planN l cy per)
theorem RP.weak {G : Mem} {nl : Option Bool} {n : Nat} {cells cells' : List PD} (hl : cells'.length = cells.length) (hc : ∀ i u,i < cells.length → RP G (cells.getD i default) u → RP G (cells'.getD i default) u) {u : Value} (h : RP G (.sl nl n cells) u) :
   RP G (.sl none n cells') u := by
 cases h with
 | nil _ h =>
   obtain rfl : cells' = [] := List.eq_nil_of_length_eq_zero (by simpa using hl)
   exact .nil none (by simp)
 | sl' _ _ _ b o cap us sp h hcap hG hR hs => exact .sl' none n cells' b o cap us sp (by simp) hcap (fun i hi => hG i (by omega)) (fun i hi => hc i _ (by omega) (hR i (by omega))) hs
def rowV : Option Nat → List Int → PD
 | none,_ => .sl (some true) 0 []
 | some _,l => .sl (some false) l.length (l.map intP)
theorem optAll_some {l : List (Option PD)} {r : List PD} (h : l = r.map some) : optAll l = some r := by rw [h,optAll_map]
theorem rows_view {bx : List Box} {T : Nat} {nb : List (Option Nat)} {ls : List (List Int)} (h : ROWS bx T nb ls) : viewD bx 2 (.ms T 0 ls.length) = some (.sl (some false) ls.length (List.zipWith rowV nb ls)) := by
 have hrow : ∀ i (hi : i < ls.length),viewD bx 1 (cellOf (nb[i]'(by have := h.n; omega)) ls[i]) = some (rowV (nb[i]'(by have := h.n; omega)) ls[i]) := fun i hi => by
   have hn := h.n
   cases hb : nb[i]'(by omega) with
   | none => rfl
   | some b =>
     have hB := h.so i b ls[i] (by rw [List.getElem?_eq_getElem (by omega),hb]) (List.getElem?_eq_getElem hi)
     simp only [cellOf,viewD,hB,Option.bind_some,rowBox,List.drop_zero,rowV]
     rw [if_neg (by simp),optAll_some (r := ls[i].map intP)]
     · rfl
     · rw [List.map_map,List.map_map]
       apply List.map_congr_left
       intro x _
       exact view_p _ _ _
 simp only [viewD,h.tb,Option.bind_some,List.drop_zero]
 rw [if_neg (by simp),optAll_some (r := List.zipWith rowV nb ls)]
 · rfl
 · apply List.ext_getElem?
   intro i
   rw [List.getElem?_map,List.getElem?_map]
   by_cases hi : i < ls.length
   · have hn := h.n
     rw [zip_get h.n hi,List.getElem?_eq_getElem (by rw [List.length_zipWith]; omega),List.getElem_zipWith]
     simp only [Option.map_some]
     rw [hrow i hi]
   · rw [List.getElem?_eq_none (by rw [List.length_zipWith]; omega),List.getElem?_eq_none (by rw [List.length_zipWith]; omega)]
     rfl
theorem rowV_weak {G : Mem} {o : Option Nat} {l : List Int} (ho : o = none → l = []) {u : Value} (h : RP G (rowV o l) u) : RP G (rowPD l) u := by
 cases o with
 | none => rw [ho rfl]; exact RP.weak rfl (fun i u hi _ => absurd hi (Nat.not_lt_zero _)) h
 | some b => exact RP.weak rfl (fun _ _ _ h => h) h
theorem rowsV_weak {G : Mem} {bx : List Box} {T : Nat} {nb : List (Option Nat)} {ls : List (List Int)} (h : ROWS bx T nb ls) {u : Value} (hr : RP G (.sl (some false) ls.length (List.zipWith rowV nb ls)) u) : RP G (.sl none ls.length (ls.map rowPD)) u := by
 have hn := h.n
 refine RP.weak (by rw [List.length_map,List.length_zipWith]; omega) (fun i u hi hr => ?_) hr
 rw [List.length_zipWith] at hi
 rw [List.getD,List.getElem?_eq_getElem (by rw [List.length_zipWith]; omega),List.getElem_zipWith] at hr
 rw [List.getD,List.getElem?_eq_getElem (by rw [List.length_map]; omega),List.getElem_map]
 refine rowV_weak (fun ho => ?_) hr
 have := h.no i (by rw [List.getElem?_eq_getElem (by omega),ho])
 rw [List.getElem?_eq_getElem (by omega)] at this
 exact Option.some.inj this
theorem RP.tup2 {G : Mem} {a b : PD} {us : Array Value} (hs : us.size = 2) (h0 : RP G a (us.getD 0 undef)) (h1 : RP G b (us.getD 1 undef)) : RP G (.tup [a,b]) (.tuple us) := by
 refine .tup _ us hs fun i hi => ?_
 match i,hi with
 | 0,_ => exact h0
 | 1,_ => exact h1
theorem cPlan (nl : Option Bool) (l : List DUE) (cy per : Int) (h : Short 2000 l) : PurS Try.prog 11 [injT (.sl tDue) (nl,l),injT tI cy,injT tI per] (.tup [.tl none tRow (planR l cy per),.p (iv (wrnM l cy per))]) := by
 have hd : (DC.tup [.tl none tRow (planR l cy per),.p (iv (wrnM l cy per))]).conc = .p (.tup [.sl none (planR l cy per).length (tRow.rows (planR l cy per)),intP (wrnM l cy per)]) := rfl
 refine ⟨_,hd,PurFn.ofG hm15 Try.call11 Try.func11 (ac11_ok none) (by rw [Try.ntmps11]; show 3 ≤ _; decide) ?_⟩
 refine planW (nl := nl) h.h (fun hw st' _ _ E w u hg hB hr => ?_) fun hw st' T nb hp _ E w u hg hB hr => ?_
 · have h0 : planR l cy per = [] := if_pos hw
   rw [h0]
   have hr := hr.p_inv
   cases hr with
   | tup _ us hs hR =>
     refine RP.tup2 hs ?_ ?_
     · exact RP.weak rfl (fun i u hi _ => absurd hi (Nat.not_lt_zero _)) ((hR 0 (by simp)).flat rfl)
     · exact (hR 1 (by simp)).flat rfl
 · have h0 : planR l cy per = rowsP (planN l cy per) := if_neg (fun h => h hw)
   rw [h0,hw]
   erw [rows_tRow]
   rw [show (rowsP (planN l cy per)).length = (planN l cy per).length by simp [rowsP]]
   cases hr with
   | tup _ us hs hR =>
     refine RP.tup2 hs ?_ ?_
     · exact rowsV_weak hp.rows (viewD_RP hg hB 2 _ _ _ (rows_view hp.rows) (hR 0 (by simp)))
     · exact (hR 1 (by simp)).p_inv.flat rfl
end Go.Ab
