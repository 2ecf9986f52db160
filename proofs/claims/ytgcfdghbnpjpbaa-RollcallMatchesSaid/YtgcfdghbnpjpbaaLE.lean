/- RollcallMatches: what was returned is written to. -/
import Derived.Test.YtgcfdghbnpjpbaaLD
set_option linter.unusedSimpArgs false
set_option linter.unusedVariables false
set_option maxRecDepth 20000
set_option maxHeartbeats 8000000
namespace Go.Ab
open Go.Proofs Go.RowKit
theorem set_same {bx : List Box} {b : Nat} {B : Box} (h : bx[b]? = some B) : bx.set b B = bx := by
 apply List.ext_getElem?
 intro i
 by_cases e : b = i
 · subst e; rw [get_self h,h]
 · rw [List.getElem?_set_ne e]
theorem map_put {l : List Int} {i : Nat} (h : i < l.length) (x : Int) : putCells (l.map intB) i [intB x] = (l.set i x).map intB := by
 rw [put_set (by simpa using h),List.map_set]
theorem overI0 {st : St} {K : D → St → Prop} (hK : K (resOf []) st) : FnC Try.prog 36 [.p (.sl (some true) 0 [])] st K := by
 intro c
 refine CW.of_wpA hm15 Try.call36 Try.func36 (ac36_ok none) (.inl rfl) (by rw [Try.ntmps36]; show 1 ≤ _; decide) ?_
 show wpA _ _ (ac36 none) noH _ [(0,.p (.sl (some true) 0 []))] st
 unfold ac36
 refine wseq (fun ρ st' => ρ = [(2,intB 0),(0,.p (.sl (some true) 0 []))] ∧ st' = st) ?_ ?_
 · simp only [wpA,wpR,wpOp,ev,setD]
   exact ⟨rfl,rfl⟩
 rintro ρ1 st1 ⟨rfl,rfl⟩
 show wpA _ _ (.loop none _ _) noH (Ax.blk 0 _) _ _
 refine wloop (fun k ρ st' => ρ.get 0 = .p (.sl (some true) 0 []) ∧ ρ.get 2 = intB 0 ∧ st' = st1) 0 ⟨rfl,rfl,rfl⟩ ?_
 rintro k ρ st ⟨h0,h2,rfl⟩
 unfold ac36_L0
 refine wseq (fun _ _ => False) ?_ (fun _ _ h => h.elim)
 refine wseq (fun ρ' st' => st' = st ∧ ρ'.get 6 = .p (.v (.bool false))) ?_ ?_
 · simp only [wpA,wpR,wpOp,ev,setD,Env.get,Nat.reduceEqDiff,if_true,if_false,h0,h2,sBin]
   exact ⟨trivial,rfl,rfl⟩
 rintro ρ2 st2 ⟨rfl,h6⟩
 simp only [wpA,ev,h6]
 exact ⟨(fun h => by cases h),fun _ => hK⟩
theorem overI1 {st : St} {b : Nat} {l : List Int} (hl : l.length ≤ 64) (hb : st.box[b]? = some (rowBox l)) {K : D → St → Prop} (hK : ∀ l' : List Int,l'.length = l.length → K (resOf []) { st with box := st.box.set b (rowBox l') }) :
   FnC Try.prog 36 [.ms b 0 l.length] st K := by
 intro c
 refine CW.of_wpA hm15 Try.call36 Try.func36 (ac36_ok none) (.inl rfl) (by rw [Try.ntmps36]; show 1 ≤ _; decide) ?_
 show wpA _ _ (ac36 none) noH _ [(0,.ms b 0 l.length)] st
 unfold ac36
 refine wseq (fun ρ st' => ρ = [(2,intB 0),(0,.ms b 0 l.length)] ∧ st' = st) ?_ ?_
 · simp only [wpA,wpR,wpOp,ev,setD]
   exact ⟨rfl,rfl⟩
 rintro ρ1 st1 ⟨rfl,rfl⟩
 show wpA _ _ (.loop none _ _) noH (Ax.blk 0 _) _ _
 refine wloop (fun k ρ st' => ∃ (i : Nat) (l' : List Int),i + k = l.length ∧ l'.length = l.length ∧ ρ.get 0 = .ms b 0 l.length ∧ ρ.get 2 = intB i ∧ st' = { st1 with box := st1.box.set b (rowBox l') }) l.length ⟨0,l,by omega,rfl,rfl,rfl,by rw [set_same hb]⟩ ?_
 rintro k ρ st ⟨i,l',hi,hl',h0,h2,rfl⟩
 unfold ac36_L0
 refine wseq (fun ρ' st' => st' = { st1 with box := st1.box.set b (rowBox l') } ∧ ρ'.get 0 = .ms b 0 l.length ∧ ρ'.get 2 = intB i ∧ i < l.length) ?_ ?_
 · refine wseq (fun ρ' st' => st' = { st1 with box := st1.box.set b (rowBox l') } ∧ ρ'.get 0 = .ms b 0 l.length ∧ ρ'.get 2 = intB i ∧ ρ'.get 6 = .p (.v (.bool (decide ((i : Int) < l.length))))) ?_ ?_
   · simp only [wpA,wpR,wpOp,ev,setD,Env.get,Nat.reduceEqDiff,if_true,if_false,h0,h2,sBin]
     refine ⟨trivial,rfl,?_⟩
     simp only [Env.get,Nat.reduceEqDiff,if_true,if_false]
     exact ⟨h0,h2,trivial⟩
   rintro ρ2 st2 ⟨rfl,h0,h2,h6⟩
   simp only [wpA,ev,h6]
   refine ⟨fun h => ⟨rfl,h0,h2,by have := of_decide_eq_true h; omega⟩,fun _ => ?_⟩
   exact hK l' hl'
 clear h0 h2 ρ
 rintro ρ st ⟨rfl,h0,h2,hil⟩
 have hbs : (st1.box.set b (rowBox l'))[b]? = some (rowBox l') := get_self hb _
 refine wseq (fun ρ' st' => st' = { st1 with box := st1.box.set b (rowBox (l'.set i 77)) } ∧ ρ'.get 0 = .ms b 0 l.length ∧ ρ'.get 2 = intB i) ?_ ?_
 · show wpA (FnC Try.prog) (CPo Try.prog) (.rg _) noH (Ax.blk 1 _) _ _
   simp only [wpA,wpR,wpOp,ev,setD,Env.get,Nat.reduceEqDiff,if_true,if_false,h0,h2,hbs,Int.toNat_natCast,Nat.zero_add,Nat.mul_one,cstP]
   refine ⟨by omega,by omega,rfl,rfl,?_,rfl,?_⟩
   · show i + 1 ≤ (l'.map intB).length
     rw [List.length_map]; omega
   · refine ⟨?_,?_⟩
     · rw [List.set_set]
       show ({ box := st1.box.set b { cells := putCells (l'.map intB) i [intB 77],e := 3,fz := false,ap := true },grp := st1.grp } : St) = _
       rw [map_put (by omega)]
       rfl
     · simp only [Env.get,Nat.reduceEqDiff,if_true,if_false]
       exact ⟨h0,h2⟩
 clear h0 h2 ρ
 rintro ρ st ⟨rfl,h0,h2⟩
 simp only [wpA,wpR,wpOp,ev,setD,Env.get,Nat.reduceEqDiff,if_true,if_false,h2,cstP,sBin]
 refine ⟨trivial,k - 1,by omega,i + 1,l'.set i 77,by omega,by rw [List.length_set]; exact hl',?_⟩
 simp only [Env.keep,Env.get,Nat.reduceEqDiff,if_true,if_false]
 refine ⟨h0,?_,trivial⟩
 rw [wrap64 (n := (i : Int) + 1) (by omega) (by omega)]
 rfl
theorem ROWS.over {bx : List Box} {T i b : Nat} {nb : List (Option Nat)} {ls : List (List Int)} {l : List Int} (h : ROWS bx T nb ls) (hi : nb[i]? = some (some b)) (hl : l.length = (ls.getD i []).length) : ROWS (bx.set b (rowBox l)) T nb (ls.set i l) := by
 have hn := h.n
 have hin : i < nb.length := (List.getElem?_eq_some_iff.1 hi).1
 have hil : i < ls.length := by omega
 have hls : ls[i]? = some ls[i] := List.getElem?_eq_getElem hil
 rw [List.getD,hls,Option.getD_some] at hl
 have hB := h.so i b ls[i] hi hls
 have hTb : b ≠ T := fun e => by
   have := h.tb
   rw [← e,hB] at this
   simp only [rowBox,Option.some.injEq,Box.mk.injEq] at this
   exact absurd this.2.1 (by decide)
 refine ⟨by rw [List.length_set]; exact hn,?_,fun j hj => ?_,fun j b' l' hj hl' => ?_,h.inj⟩
 · rw [List.getElem?_set_ne hTb,h.tb]
   congr 2
   apply List.ext_getElem?
   intro j
   by_cases hj : j < ls.length
   · rw [zip_get hn hj,zip_get (by rw [List.length_set]; exact hn) (by rw [List.length_set]; exact hj)]
     by_cases e : i = j
     · subst e
       have hnb : nb[i] = some b := by rw [List.getElem?_eq_getElem hin] at hi; exact Option.some.inj hi
       rw [List.getElem_set_self,hnb]
       simp only [cellOf,hl]
     · rw [List.getElem_set_ne e]
   · rw [List.getElem?_eq_none (by rw [List.length_zipWith]; omega),List.getElem?_eq_none (by rw [List.length_zipWith,List.length_set]; omega)]
 · have e : i ≠ j := fun e => by subst e; rw [hi] at hj; cases hj
   rw [List.getElem?_set_ne e]; exact h.no j hj
 · by_cases e : i = j
   · subst e
     rw [hi] at hj
     obtain rfl := Option.some.inj (Option.some.inj hj)
     rw [List.getElem?_set_self hil] at hl'
     obtain rfl := Option.some.inj hl'
     exact get_self hB _
   · rw [List.getElem?_set_ne e] at hl'
     have hbb : b ≠ b' := fun e2 => by subst e2; exact e (h.inj i j b hi hj)
     rw [List.getElem?_set_ne hbb]
     exact h.so j b' l' hj hl'
theorem overR0 {st : St} {K : D → St → Prop} (hK : K (resOf []) st) : FnC Try.prog 18 [.p (.sl (some true) 0 [])] st K := by
 intro c
 refine CW.of_wpA hm15 Try.call18 Try.func18 (ac18_ok none) (.inl rfl) (by rw [Try.ntmps18]; show 1 ≤ _; decide) ?_
 show wpA _ _ (ac18 none) noH _ [(0,.p (.sl (some true) 0 []))] st
 unfold ac18
 refine wseq (fun ρ st' => ρ = [(2,intB 0),(0,.p (.sl (some true) 0 []))] ∧ st' = st) ?_ ?_
 · simp only [wpA,wpR,wpOp,ev,setD]
   exact ⟨rfl,rfl⟩
 rintro ρ1 st1 ⟨rfl,rfl⟩
 show wpA _ _ (.loop none _ _) noH (Ax.blk 0 _) _ _
 refine wloop (fun k ρ st' => ρ.get 0 = .p (.sl (some true) 0 []) ∧ ρ.get 2 = intB 0 ∧ st' = st1) 0 ⟨rfl,rfl,rfl⟩ ?_
 rintro k ρ st ⟨h0,h2,rfl⟩
 unfold ac18_L0
 refine wseq (fun _ _ => False) ?_ (fun _ _ h => h.elim)
 refine wseq (fun ρ' st' => st' = st ∧ ρ'.get 6 = .p (.v (.bool false))) ?_ ?_
 · simp only [wpA,wpR,wpOp,ev,setD,Env.get,Nat.reduceEqDiff,if_true,if_false,h0,h2,sBin]
   exact ⟨trivial,rfl,rfl⟩
 rintro ρ2 st2 ⟨rfl,h6⟩
 simp only [wpA,ev,h6]
 exact ⟨(fun h => by cases h),fun _ => hK⟩
theorem overR {st : St} {T : Nat} {nb : List (Option Nat)} {ls : List (List Int)} (hR : ROWS st.box T nb ls) (hn : ls.length ≤ 64) (hr : ∀ r ∈ ls,r.length ≤ 64) {K : D → St → Prop} (hK : ∀ st',K (resOf []) st') : FnC Try.prog 18 [.ms T 0 ls.length] st K := by
 intro c
 refine CW.of_wpA hm15 Try.call18 Try.func18 (ac18_ok none) (.inl rfl) (by rw [Try.ntmps18]; show 1 ≤ _; decide) ?_
 show wpA _ _ (ac18 none) noH _ [(0,.ms T 0 ls.length)] st
 unfold ac18
 refine wseq (fun ρ st' => ρ = [(2,intB 0),(0,.ms T 0 ls.length)] ∧ st' = st) ?_ ?_
 · simp only [wpA,wpR,wpOp,ev,setD]
   exact ⟨rfl,rfl⟩
 rintro ρ1 st1 ⟨rfl,rfl⟩
 show wpA _ _ (.loop none _ _) noH (Ax.blk 0 _) _ _
 refine wloop (fun k ρ st' => ∃ (i : Nat) (ls' : List (List Int)),i + k = ls.length ∧ ls'.length = ls.length ∧ ρ.get 0 = .ms T 0 ls.length ∧ ρ.get 2 = intB i ∧ ROWS st'.box T nb ls' ∧ ∀ r ∈ ls',r.length ≤ 64) ls.length ⟨0,ls,by omega,rfl,rfl,rfl,hR,hr⟩ ?_
 rintro k ρ st ⟨i,ls',hi,hl',h0,h2,hR',hr'⟩
 unfold ac18_L0
 refine wseq (fun ρ' st' => st' = st ∧ ρ'.get 0 = .ms T 0 ls.length ∧ ρ'.get 2 = intB i ∧ i < ls.length) ?_ ?_
 · refine wseq (fun ρ' st' => st' = st ∧ ρ'.get 0 = .ms T 0 ls.length ∧ ρ'.get 2 = intB i ∧ ρ'.get 6 = .p (.v (.bool (decide ((i : Int) < ls.length))))) ?_ ?_
   · simp only [wpA,wpR,wpOp,ev,setD,Env.get,Nat.reduceEqDiff,if_true,if_false,h0,h2,sBin]
     refine ⟨trivial,rfl,?_⟩
     simp only [Env.get,Nat.reduceEqDiff,if_true,if_false]
     exact ⟨h0,h2,trivial⟩
   rintro ρ2 st2 ⟨rfl,h0,h2,h6⟩
   simp only [wpA,ev,h6]
   exact ⟨fun h => ⟨rfl,h0,h2,by have := of_decide_eq_true h; omega⟩,fun _ => hK _⟩
 clear h0 h2 ρ
 rintro ρ st2 ⟨rfl,h0,h2,hil⟩
 have hn' := hR'.n
 have hzg := zip_get hn' (r := i) (by omega)
 refine wseq (fun ρ' st' => (∃ ls2 : List (List Int),ls2.length = ls.length ∧ ROWS st'.box T nb ls2 ∧ ∀ r ∈ ls2,r.length ≤ 64) ∧ ρ'.get 0 = .ms T 0 ls.length ∧ ρ'.get 2 = intB i) ?_ ?_
 · show wpA (FnC Try.prog) (CPo Try.prog) (.rg _) noH (Ax.blk 1 _) _ _
   simp only [wpA,wpR,wpOp,ev,setD,Env.get,Nat.reduceEqDiff,if_true,if_false,h0,h2,hR'.tb,Int.toNat_natCast,Nat.zero_add,Nat.mul_one,hzg,List.map_cons,List.map_nil]
   refine ⟨by omega,by omega,trivial,_,rfl,?_⟩
   cases hb : nb[i]'(by omega) with
   | none =>
     refine overI0 ⟨⟨ls',hl',hR',hr'⟩,?_⟩
     simp only [Env.get,Nat.reduceEqDiff,if_true,if_false]
     exact ⟨h0,h2⟩
   | some b =>
     have hnb : nb[i]? = some (some b) := by rw [List.getElem?_eq_getElem (by omega),hb]
     have hli : ls'[i]? = some (ls'[i]'(by omega)) := List.getElem?_eq_getElem (by omega)
     refine overI1 (hr' _ (List.getElem_mem _)) (hR'.so i b _ hnb hli) fun l2 h2l => ⟨⟨ls'.set i l2,by rw [List.length_set]; exact hl',hR'.over hnb (by rw [List.getD,hli]; exact h2l),fun r hr2 => ?_⟩,?_⟩
     · rcases List.mem_or_eq_of_mem_set hr2 with h | h
       · exact hr' r h
       · rw [h,h2l]; exact hr' _ (List.getElem_mem _)
     · simp only [Env.get,Nat.reduceEqDiff,if_true,if_false]
       exact ⟨h0,h2⟩
 clear h0 h2 ρ
 rintro ρ st3 ⟨⟨ls2,hl2,hR2,hr2⟩,h0,h2⟩
 simp only [wpA,wpR,wpOp,ev,setD,Env.get,Nat.reduceEqDiff,if_true,if_false,h2,cstP,sBin]
 refine ⟨trivial,k - 1,by omega,i + 1,ls2,by omega,hl2,?_⟩
 simp only [Env.keep,Env.get,Nat.reduceEqDiff,if_true,if_false]
 refine ⟨h0,?_,hR2,hr2⟩
 rw [wrap64 (n := (i : Int) + 1) (by omega) (by omega)]
 rfl
end Go.Ab
