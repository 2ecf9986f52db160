/- All assignments of the garbled places. -/
import Derived.Test.YtjepihoacohboaaLo
set_option linter.unusedSimpArgs false
set_option linter.unusedVariables false
set_option maxRecDepth 20000
set_option maxHeartbeats 4000000
namespace Go.Ab
def allB : List Int → List Nat → List (List Int)
 | b,[] => [b]
 | b,p :: l => allB b l ++ allB (b.set p 1) l
theorem allB_len : ∀ (l : List Nat) (b : List Int),(allB b l).length = 2 ^ l.length
 | [],b => rfl
 | p :: l,b => by
   rw [allB,List.length_append,allB_len l,allB_len l,List.length_cons,Nat.pow_succ]; omega
theorem solB_all : ∀ (l : List Nat) (b : List Int) (over : Nat),solB b l over = (allB b l).filter fun c => decide (ovN c = over)
 | [],b,over => by
   simp only [solB,allB,List.filter_cons,List.filter_nil]
   by_cases h : ovN b = over <;> simp [h]
 | p :: l,b,over => by
   simp only [solB,allB,List.filter_append,solB_all l]
def wrB : List Int → List Nat → Nat → List Int
 | c,[],_ => c
 | c,p :: l,x => wrB (c.set p (if x.testBit l.length then 1 else 0)) l x
theorem wrB_len : ∀ (l : List Nat) (c : List Int) (x : Nat),(wrB c l x).length = c.length
 | [],c,x => rfl
 | p :: l,c,x => by rw [wrB,wrB_len l,List.length_set]
theorem wrB_congr : ∀ (l : List Nat) (c d : List Int) (x : Nat),c.length = d.length → (∀ i,i ∉ l → c.getD i 0 = d.getD i 0) → wrB c l x = wrB d l x
 | [],c,d,x,hl,h => by
   apply List.ext_getElem hl
   intro i h1 h2
   have := h i (by simp)
   simpa [List.getD,h1,h2] using this
 | p :: l,c,d,x,hl,h => by
   simp only [wrB]
   refine wrB_congr l _ _ x (by simp [hl]) fun i hi => ?_
   by_cases e : p = i
   · subst e
     by_cases hp : p < c.length
     · rw [getD_set_eq hp,getD_set_eq (by omega)]
     · rw [List.getD_eq_getElem?_getD,List.getElem?_eq_none (by simp; omega),List.getD_eq_getElem?_getD,List.getElem?_eq_none (by simp; omega)]
   · rw [getD_set_ne e,getD_set_ne e]
     exact h i (by simp only [List.mem_cons,not_or]; exact ⟨fun h => e h.symm,hi⟩)
theorem wrB_mod : ∀ (l : List Nat) (c : List Int) (x n : Nat),l.length ≤ n → wrB c l (x % 2 ^ n) = wrB c l x
 | [],c,x,n,h => rfl
 | p :: l,c,x,n,h => by
   simp only [List.length_cons] at h
   simp only [wrB,Nat.testBit_mod_two_pow,decide_eq_true (show l.length < n by omega),Bool.true_and]
   exact wrB_mod l _ x n (by omega)
theorem set_same {c : List Int} {p : Nat} {v : Int} (h : c.getD p 0 = v) : c.set p v = c := by
 by_cases hp : p < c.length
 · rw [List.getD_eq_getElem?_getD,List.getElem?_eq_getElem hp] at h
   simp only [Option.getD_some] at h
   rw [← h]; exact List.set_getElem_self hp
 · exact List.set_eq_of_length_le (by omega)
theorem allB_get : ∀ {l : List Nat} {b : List Int} {x : Nat},OPN b l → x < 2 ^ l.length → (allB b l)[x]? = some (wrB b l x)
 | [],b,x,h,hx => by
   have : x = 0 := by simpa using hx
   subst this; rfl
 | p :: l,b,x,h,hx => by
   have hp := h.op p (by simp)
   rw [List.length_cons] at hx
   simp only [allB,wrB]
   by_cases hlt : x < 2 ^ l.length
   · rw [List.getElem?_append_left (by rw [allB_len]; exact hlt),allB_get h.tl hlt,Nat.testBit_lt_two_pow hlt,if_neg (by decide),set_same hp.2]
   · have hm : x - 2 ^ l.length = x % 2 ^ l.length := by
       rw [Nat.mod_eq_sub_mod (by omega),Nat.mod_eq_of_lt]
       rw [Nat.pow_succ] at hx; omega
     have hb : x.testBit l.length = true := by
       rw [Nat.testBit_eq_decide_div_mod_eq,decide_eq_true_eq]
       have : x / 2 ^ l.length = 1 := by
         apply Nat.div_eq_of_lt_le
         · omega
         · rw [Nat.pow_succ] at hx; omega
       rw [this]
     rw [List.getElem?_append_right (by rw [allB_len]; omega),allB_len,hm,allB_get h.tl1 (Nat.mod_lt _ (Nat.two_pow_pos _)),hb,if_pos rfl,wrB_mod l _ x _ (Nat.le_refl _)]
def fndB (b : List Int) (l : List Nat) (over x : Nat) : List (List Int) := ((allB b l).take x).filter fun c => decide (ovN c = over)
theorem fndB_zero (b : List Int) (l : List Nat) (over : Nat) : fndB b l over 0 = [] := by simp [fndB]
theorem fndB_full (b : List Int) (l : List Nat) (over : Nat) : fndB b l over (2 ^ l.length) = solB b l over := by
 unfold fndB; rw [solB_all,List.take_of_length_le (by rw [allB_len]; omega)]
theorem fndB_succ {b : List Int} {l : List Nat} {over x : Nat} (h : OPN b l) (hx : x < 2 ^ l.length) : fndB b l over (x + 1) = fndB b l over x ++ if ovN (wrB b l x) = over then [wrB b l x] else [] := by
 unfold fndB
 rw [List.take_add_one,allB_get h hx,List.filter_append]
 congr 1
 by_cases e : ovN (wrB b l x) = over <;> simp [e]
theorem fndB_pre (b : List Int) (l : List Nat) (over x : Nat) : ∃ r,solB b l over = fndB b l over x ++ r := by
 refine ⟨((allB b l).drop x).filter fun c => decide (ovN c = over),?_⟩
 unfold fndB
 rw [← List.filter_append,List.take_append_drop,solB_all]
theorem fndB_next {b : List Int} {l : List Nat} {over x : Nat} (h : OPN b l) (hx : x < 2 ^ l.length) (ho : ovN (wrB b l x) = over) : (solB b l over)[(fndB b l over x).length]? = some (wrB b l x) := by
 obtain ⟨r,hr⟩ := fndB_pre b l over (x + 1)
 rw [fndB_succ h hx,if_pos ho] at hr
 rw [hr,List.append_assoc,List.getElem?_append_right (Nat.le_refl _),Nat.sub_self]; rfl
end Go.Ab
