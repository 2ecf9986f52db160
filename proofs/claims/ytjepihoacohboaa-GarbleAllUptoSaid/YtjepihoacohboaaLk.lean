/- GarbleCertain. -/
import Derived.Test.YtjepihoacohboaaLj
set_option linter.unusedSimpArgs false
set_option linter.unusedVariables false
set_option maxRecDepth 20000
set_option maxHeartbeats 8000000
namespace Go.Ab
open Go.Proofs
section
variable {b : List Int} {over : Nat}
theorem places_of {i : Nat} (hi : i < b.length) (h2 : b.getD i 0 = 2) : ∃ k,k < (gplaces b 0).length ∧ (gplaces b 0).getD k 0 = i := by
 obtain ⟨k,hk,he⟩ := List.getElem_of_mem (gmem.2 ⟨hi,h2⟩)
 exact ⟨k,hk,by rw [List.getD_eq_getElem?_getD,List.getElem?_eq_getElem hk]; exact he⟩
theorem cerL_len (b : List Int) (over : Int) : (cerL b over).length = b.length := by
 unfold cerL; split
 · exact cerA_len _ _ _ _
 · rfl
theorem cerL_ne {o : Int} {i : Nat} (h : b.getD i 0 ≠ 2) : (cerL b o).getD i 0 = b.getD i 0 := by
 unfold cerL; split
 · refine cerA_later (Nat.le_refl _) fun j hj e => ?_
   have := (places_lt hj).2
   rw [e] at this; exact h this
 · rfl
theorem cerL_2 (h : GOOD b over) (hi : isG b over = true) {i : Nat} (hl : i < b.length) (h2 : b.getD i 0 = 2) :
   ((cerL b over).getD i 0 = 2 → ∀ y,y = 0 ∨ y = 1 → ∃ c ∈ solG b over,c.getD i 0 = y) ∧ ((cerL b over).getD i 0 ≠ 2 → ∀ c ∈ solG b over,c.getD i 0 = (cerL b over).getD i 0) := by
 obtain ⟨k,hk,rfl⟩ := places_of hl h2
 have e : (cerL b over).getD ((gplaces b 0).getD k 0) 0 = certV (elimG b) (slv (elimG b) (tgt b over)).2 k := by
   unfold cerL
   rw [Int.toNat_natCast,if_pos hi]
   exact cerA_at (Nat.le_refl _) hk
 rw [e]
 exact ⟨fun hc => h.cert2 hi hk hc,fun hc => h.cert1 hi hk hc⟩
theorem cerL_none (hi : ¬ isG b over = true) : cerL b over = b := by
 unfold cerL; rw [Int.toNat_natCast,if_neg hi]
end
theorem wrnG_of {b : List Int} {over : Int} (h : gchk b = 0) (h0 : 0 ≤ over) (h1 : over ≤ 16777215) : wrnG b over = 0 := by
 unfold wrnG; rw [if_neg (fun h' => h' h),if_neg (by omega)]
theorem gchk_len {b : List Int} (h : gchk b = 0) : b.length = 56 ∨ b.length = 112 := by
 unfold gchk at h
 split at h
 · cases h
 · omega
def grbL (b : List Int) : List Int := plD (gplaces b 0)
theorem wf_arg {g : tG.den} (h : wfT tG g) : ARG g.2.2 := by
 obtain ⟨_,h1,_,h3⟩ := h
 exact ⟨h1,fun y hy => (wf_u8 (h3 y hy)).1⟩
end Go.Ab
