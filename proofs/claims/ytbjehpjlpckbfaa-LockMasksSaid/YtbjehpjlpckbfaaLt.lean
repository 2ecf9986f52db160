/- LockOrder. -/
import Derived.Test.YtbjehpjlpckbfaaLs
set_option linter.unusedSimpArgs false
set_option linter.unusedVariables false
set_option maxRecDepth 20000
set_option maxHeartbeats 8000000
namespace Go.Ab
open Go.Proofs
theorem cAwake : PurS Try.prog 11 [] (.p (.v (.bool true))) := ⟨_, rfl, s32_awake⟩
structure AFX (L : List tChoice.den) : Prop where
  h : ∃ nums, L = nums.map chO ∧ nums ≠ [] ∧ nums.length ≤ 12 ∧ ∀ x ∈ nums, 1 ≤ x ∧ x ≤ 65536
def maxC (L : List tChoice.den) : Int := maxN (L.map fun c => (c.2.2.2 : Int))
theorem map_chO (nums : List Int) : ((nums.map chO).map fun c : tChoice.den => (c.2.2.2 : Int)) = nums := by
  rw [List.map_map]
  exact List.map_id' nums
theorem maxN_le {l : List Int} {x : Int} (h : x ∈ l) : x ≤ maxN l := by
  have key : ∀ (l : List Int) (a : Int), a ≤ l.foldl max a ∧ ∀ x ∈ l, x ≤ l.foldl max a := by
    intro l
    induction l with
    | nil => intro a; exact ⟨Int.le_refl _, by simp⟩
    | cons y l ih =>
      intro a
      obtain ⟨h1, h2⟩ := ih (max a y)
      refine ⟨by simp only [List.foldl_cons]; omega, fun x hx => ?_⟩
      rcases List.mem_cons.1 hx with rfl | hx
      · simp only [List.foldl_cons]; omega
      · exact h2 x hx
  exact (key l 0).2 x h
theorem maxN_mem {l : List Int} (h : l ≠ []) (hp : ∀ x ∈ l, 1 ≤ x) : maxN l ∈ l := by
  have key : ∀ (l : List Int) (a : Int), l.foldl max a = a ∨ l.foldl max a ∈ l := by
    intro l
    induction l with
    | nil => intro a; exact .inl rfl
    | cons y l ih =>
      intro a
      rcases ih (max a y) with h | h
      · simp only [List.foldl_cons, h]
        by_cases hay : a ≤ y
        · right; rw [show max a y = y by omega]; simp
        · left; omega
      · right; exact List.mem_cons_of_mem _ h
  rcases key l 0 with h' | h'
  · cases l with
    | nil => exact absurd rfl h
    | cons x l =>
      have h1 := maxN_le (l := x :: l) (x := x) (by simp)
      have h2 := hp x (by simp)
      unfold maxN at h1
      omega
  · exact h'
theorem maxN_same {a b : List Int} (h : ∀ x, x ∈ a ↔ x ∈ b) (ha : ∀ x ∈ a, 1 ≤ x) : maxN a = maxN b := by
  by_cases he : a = []
  · subst he
    have : b = [] := List.eq_nil_iff_forall_not_mem.2 fun x hx => by have := (h x).2 hx; cases this
    rw [this]
  · have hb : b ≠ [] := fun e => by
      obtain ⟨x, hx⟩ := List.exists_mem_of_ne_nil a he
      have := (h x).1 hx
      rw [e] at this; cases this
    have h1 := maxN_mem he ha
    have h2 := maxN_mem hb fun x hx => ha x ((h x).2 hx)
    have := maxN_le ((h _).1 h1)
    have := maxN_le ((h _).2 h2)
    omega
theorem AFX.get {L : List tChoice.den} (h : AFX L) (back : Bool) : ∃ nums, AFT nums L ∧ maxC L = maxN (seqO nums back) ∧ maxC L ≠ 0 := by
  obtain ⟨nums, rfl, hne, hl, hb⟩ := h.h
  have hm : maxC (nums.map chO) = maxN nums := by unfold maxC; rw [map_chO]
  refine ⟨nums, ⟨by simp, hl, fun i h0 h1 => ?_, hb⟩, ?_, ?_⟩
  · have hi : i.toNat < nums.length := by omega
    simp [gtR, hi]
  · rw [hm]
    exact maxN_same (fun x => by unfold seqO; split <;> simp) fun x hx => (hb x hx).1
  · rw [hm]
    have := (hb _ (maxN_mem hne fun x hx => (hb x hx).1)).1
    omega
end Go.Ab
