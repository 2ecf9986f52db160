/- GarbleTail,GarbleTruth: plain part. -/
import Derived.Test.YtjepihoacohboaaLk
set_option linter.unusedSimpArgs false
set_option linter.unusedVariables false
set_option maxRecDepth 20000
set_option maxHeartbeats 8000000
namespace Go.Ab
open Go.Proofs
theorem remN_zero : ∀ (k : Nat),remN 0 (List.replicate k 0) = 0
 | 0 => rfl
 | k + 1 => by
   rw [List.replicate_succ]
   show remN (shN 0 (0 : Int).toNat) _ = 0
   exact remN_zero k
theorem col_tail {n p : Nat} (h24 : 24 ≤ n) (hp : p < n) (ht : n - 24 ≤ p) : col n p = 2 ^ (n - 1 - p) := by
 have hl : (unitL n p).length = n := by simp [unitL]
 have e1 : (unitL n p).take (n - 24) = List.replicate (n - 24) 0 := by
   apply List.ext_getElem (by simp [unitL])
   intro i h1 h2
   simp only [unitL,List.getElem_take,List.getElem_replicate]
   rw [List.getElem_set_ne (by simp [unitL] at h1; omega)]
   simp
 have e2 : (unitL n p).drop (n - 24) = (List.replicate 24 (0 : Int)).set (p - (n - 24)) 1 := by
   apply List.ext_getElem (by simp [unitL]; omega)
   intro i h1 h2
   simp only [unitL,List.getElem_drop,List.getElem_set,List.getElem_replicate]
   by_cases e : p = n - 24 + i
   · rw [if_pos e,if_pos (by omega)]
   · rw [if_neg e,if_neg (by omega)]
 have key : ∀ q,q < 24 → numN 0 ((List.replicate 24 (0 : Int)).set q 1) = 2 ^ (23 - q) := by decide +kernel
 unfold col ovN
 rw [hl,e1,e2,remN_zero,Nat.zero_xor,key _ (by omega)]
 congr 1; omega
theorem inS_pow : ∀ {es : List Nat} {t : Nat},inS (es.map (2 ^ ·)) t → ∀ j,t.testBit j = true → j ∈ es
 | [],t,h,j,hj => by
   rw [List.map_nil,inS_nil] at h; subst h; simp at hj
 | e :: es,t,h,j,hj => by
   rw [List.map_cons,inS_cons] at h
   rcases h with h | h
   · exact List.mem_cons_of_mem _ (inS_pow h j hj)
   · by_cases e' : j = e
     · subst e'; exact List.mem_cons_self ..
     · refine List.mem_cons_of_mem _ (inS_pow h j ?_)
       rw [Nat.testBit_xor,hj,Nat.testBit_two_pow]
       simp; omega
theorem cnt_le1 : ∀ {es : List Nat},es.Nodup → ∀ t,cnt (es.map (2 ^ ·)) t ≤ 1
 | [],_,t => by simp only [List.map_nil,cnt]; split <;> omega
 | e :: es,h,t => by
   obtain ⟨h1,h2⟩ := List.nodup_cons.1 h
   simp only [List.map_cons,cnt]
   have i1 := cnt_le1 h2 t
   have i2 := cnt_le1 h2 (t ^^^ 2 ^ e)
   by_cases hz : cnt (es.map (2 ^ ·)) t = 0
   · omega
   · by_cases hz2 : cnt (es.map (2 ^ ·)) (t ^^^ 2 ^ e) = 0
     · omega
     · exfalso
       have s1 : inS (es.map (2 ^ ·)) t := by unfold inS; omega
       have s2 : inS (es.map (2 ^ ·)) (t ^^^ 2 ^ e) := by unfold inS; omega
       have n1 : t.testBit e = false := Bool.eq_false_iff.2 fun h => h1 (inS_pow s1 e h)
       have n2 : (t ^^^ 2 ^ e).testBit e = false := Bool.eq_false_iff.2 fun h => h1 (inS_pow s2 e h)
       rw [Nat.testBit_xor,n1,Nat.testBit_two_pow_self] at n2
       cases n2
theorem inS_of_mem : ∀ {cs : List Nat} {c : Nat},c ∈ cs → inS cs c
 | a :: cs,c,h => by
   rw [inS_cons]
   rcases List.mem_cons.1 h with rfl | h
   · right; rw [Nat.xor_self]; exact inS_zero cs
   · exact .inl (inS_of_mem h)
theorem inS_full {cs : List Nat} : ∀ (n : Nat),(∀ i,i < n → 2 ^ i ∈ cs) → ∀ t,t < 2 ^ n → inS cs t
 | 0,_,t,ht => by
   have : t = 0 := by simpa using ht
   subst this; exact inS_zero cs
 | n + 1,h,t,ht => by
   by_cases hb : t.testBit n = true
   · have hlt : t ^^^ 2 ^ n < 2 ^ n := by
       refine Nat.lt_pow_two_of_testBit _ fun i hi => ?_
       rw [Nat.testBit_xor]
       by_cases e : i = n
       · subst e; rw [hb,Nat.testBit_two_pow_self]; rfl
       · rw [Nat.testBit_lt_two_pow (Nat.lt_of_lt_of_le ht (Nat.pow_le_pow_right (by decide) (by omega))),Nat.testBit_two_pow]; simp; omega
     have h1 := inS_full n (fun i hi => h i (by omega)) _ hlt
     have h2 := inS_xor h1 (inS_of_mem (h n (by omega)))
     rwa [xor_xor_self] at h2
   · refine inS_full n (fun i hi => h i (by omega)) t ?_
     refine Nat.lt_pow_two_of_testBit _ fun i hi => ?_
     by_cases e : i = n
     · subst e; simpa using hb
     · exact Nat.testBit_lt_two_pow (Nat.lt_of_lt_of_le ht (Nat.pow_le_pow_right (by decide) (by omega)))
theorem tail_one {b : List Int} {over : Nat} (h : GOOD b over) (ht : ∀ i,b.getD i 0 = 2 → b.length - 24 ≤ i) : (elimG b).2.length = 0 := by
 have hc : colsG b = ((gplaces b 0).map fun p => b.length - 1 - p).map (2 ^ ·) := by
   unfold colsG
   rw [List.map_map]
   refine List.map_congr_left fun p hp => ?_
   have hp' := gmem.1 hp
   exact col_tail h.l hp'.1 (ht p hp'.2)
 have hn : ((gplaces b 0).map fun p => b.length - 1 - p).Nodup := by
   rw [List.nodup_iff_pairwise_ne,List.pairwise_map]
   refine (gplaces_as b 0).imp_of_mem fun {p q} hp hq hlt => ?_
   have h1 := (gmem.1 hp).1; have h2 := (gmem.1 hq).1
   omega
 have hk := h.ei.kd 0
 have h1 : cnt (colsG b) 0 ≤ 1 := by rw [hc]; exact cnt_le1 hn 0
 rw [if_pos (show 0 < cnt (colsG b) 0 from inS_zero _)] at hk
 refine Decidable.byContradiction fun hne => ?_
 have : 2 ^ 1 ≤ 2 ^ (elimG b).2.length := Nat.pow_le_pow_right (by decide) (by omega)
 omega
theorem tail_all {b : List Int} {over : Nat} (h : GOOD b over) (ht : ∀ i,b.length - 24 ≤ i → i < b.length → b.getD i 0 = 2) : isG b over = true := by
 rw [h.is]
 refine inS_full 24 (fun i hi => ?_) _ h.tlt
 have hl := h.l
 unfold colsG
 refine List.mem_map.2 ⟨b.length - 1 - i,gmem.2 ⟨by omega,ht _ (by omega) (by omega)⟩,?_⟩
 rw [col_tail h.l (by omega) (by omega)]
 congr 1; omega
end Go.Ab
