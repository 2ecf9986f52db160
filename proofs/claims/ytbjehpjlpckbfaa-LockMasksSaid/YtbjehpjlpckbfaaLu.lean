/- LockRenewal. -/
import Derived.Test.YtbjehpjlpckbfaaLt
set_option linter.unusedSimpArgs false
set_option linter.unusedVariables false
set_option maxRecDepth 20000
set_option maxHeartbeats 8000000
namespace Go.Ab
open Go.Proofs
def RN (k w : Int) (l : LE) : Prop := ∃ b, l = [(7, ((7 : Int), ((1 : Int), ((8 : Int), w + k))), b)]
theorem atE_ok {w t : Int} (h0 : 0 ≤ t) (h1 : t ≤ 1099511627776) (h2 : w ≤ t) : atE w t = 0 := by unfold atE; rw [if_neg (by omega), if_neg (by omega)]
theorem RN.first {k e w' c' : Int} {l' : LE} (hR : SETR k 0 0 [] 0 (7, (9, (1, 8))) e w' l' c') : e = 0 ∧ w' = 0 ∧ RN k 0 l' ∧ TAB c' l'.length l' := by
  obtain ⟨h1, h2, hS⟩ := hR.good (atE_ok (by omega) (by omega) (by omega)) (by decide) (by simp [liveL])
  refine ⟨h1, h2, ?_, TAB.empty.set hR (by decide)⟩
  rcases hS.no (fun e he => by cases he) with ⟨l1, v0, b, l2, e, _⟩ | ⟨_, rfl, rfl⟩
  · simp [liveL] at e
  · exact ⟨0, rfl⟩
theorem RN.live {k w t : Int} {l : LE} (h : RN k w l) (ht : t ≤ w + k) : liveL t l = l := by
  obtain ⟨b, rfl⟩ := h
  have : deadB t ((7 : Int), ((1 : Int), ((8 : Int), w + k))) = false := decide_eq_false (by show ¬ w + k < t; omega)
  simp [liveL, this]
theorem RN.over {k w t : Int} {l : LE} (h : RN k w l) (ht : w + k < t) : liveL t l = [] := by
  obtain ⟨b, rfl⟩ := h
  have : deadB t ((7 : Int), ((1 : Int), ((8 : Int), w + k))) = true := decide_eq_true (by show w + k < t; omega)
  simp [liveL, this]
theorem RN.step {k w t c : Int} {n : Nat} {l : LE} {e w' c' : Int} {l' : LE} (h : RN k w l) (hT : TAB c n l) (h0 : 0 ≤ w) (h1 : w ≤ t) (h2 : t ≤ w + k) (h3 : t ≤ 1099511627776) (hR : SETR k w c l t (7, (9, (2, 8))) e w' l' c') :
    e = 0 ∧ w' = t ∧ RN k t l' ∧ TAB c' l'.length l' := by
  have hl := h.live h2
  have hT' := hT.set hR (by decide)
  obtain ⟨b, rfl⟩ := h
  obtain ⟨h1, h2, hS⟩ := hR.good (atE_ok (by omega) h3 h1) (by decide) (by rw [hl]; simp)
  rw [hl] at hS
  refine ⟨h1, h2, ?_, hT'⟩
  have hh : MHas [((7 : Int), ((7 : Int), ((1 : Int), ((8 : Int), w + k))), b)] 7 ((7 : Int), ((1 : Int), ((8 : Int), w + k))) b := ⟨[], [], rfl, fun e he => by cases he⟩
  have hp := hS.le hT.ok hh (by show (8 : Int) ≤ 8; decide)
  rcases hp with ⟨l1, v0, b', l2, e, h1, rfl, rfl⟩ | ⟨hn, _⟩
  · cases l1 with
    | nil =>
      simp only [List.nil_append, List.cons.injEq] at e
      obtain ⟨e1, rfl⟩ := e
      exact ⟨b', rfl⟩
    | cons x l1 => simp at e
  · exact absurd rfl (hn _ (List.mem_singleton.2 rfl))
theorem SENS.none {a x : Int} (hs : SENS [] a x) : x = 0 := by
  rcases hs with ⟨v, b', ⟨l1, l2, e, _⟩, _⟩ | ⟨_, h⟩
  · simp at e
  · exact h
theorem TICKR.tab {tw c : Int} {n : Nat} {l : LE} {t e tw' : Int} {l' : LE} (h : TAB c n l) (hR : TICKR tw l t e tw' l') : TAB c l'.length l' := by
  cases hR with
  | «at» => rw [h.nl]; exact h
  | ok => exact h.live t
end Go.Ab
