/- LockOrder: equal, after. -/
import Derived.Test.YtbjehpjlpckbfaaLr
set_option linter.unusedSimpArgs false
set_option linter.unusedVariables false
set_option maxRecDepth 20000
set_option maxHeartbeats 8000000
namespace Go.Ab
open Go.Proofs
def maxN (l : List Int) : Int := l.foldl max 0
def chO (n : Int) : Int × Int × Int × Int := (7, (9, (n % 3, n)))
def lkO (g : Int) : LKV := (7, (g % 3, (g, 9)))
def ONE (g c : Int) (l : LE) : Prop := (g = 0 ∧ l = []) ∨ (0 < g ∧ ∃ b, l = [(7, lkO g, b)])
theorem ONE.step {g w c : Int} {n : Nat} {l : LE} {m : Int} {e w' c' : Int} {l' : LE} (h : ONE g c l) (hT : TAB c n l) (hg : 0 ≤ g ∧ g ≤ 65536) (hw : w ≤ 5) (hm : 1 ≤ m ∧ m ≤ 65536) (hR : SETR 4 w c l 5 (chO m) e w' l' c') :
    e = 0 ∧ w' = 5 ∧ ONE (max g m) c' l' ∧ TAB c' l'.length l' := by
  have hat : atE w 5 = 0 := by unfold atE; rw [if_neg (by omega), if_neg (by omega)]
  have hc : lcheckM (chO m) = 0 := by
    unfold lcheckM chO
    dsimp only [Ty.den]
    rw [if_neg (by omega), if_neg (by omega), if_neg (by omega)]
  have hlive : liveL 5 l = l := by
    rcases h with ⟨_, rfl⟩ | ⟨_, b, rfl⟩
    · rfl
    · rfl
  have hT' := hT.set hR (by show 0 ≤ m % 3; omega)
  have hn16 : ¬ (MNot (liveL 5 l) (chO m).1 ∧ (liveL 5 l).length = 16) := by
    rw [hlive]
    rcases h with ⟨_, rfl⟩ | ⟨_, b, rfl⟩ <;> simp
  obtain ⟨he, hw', hS⟩ := hR.good hat hc hn16
  refine ⟨he, hw', ?_, hT'⟩
  rw [hlive] at hS
  rcases h with ⟨rfl, rfl⟩ | ⟨hg0, b, rfl⟩
  · have hp := hS.no (ch := chO m) (fun e he => by cases he)
    rcases hp with ⟨l1, v0, b, l2, e, _⟩ | ⟨_, rfl, rfl⟩
    · simp at e
    · rw [show max 0 m = m by omega]
      exact .inr ⟨by omega, c, rfl⟩
  · have hh : MHas [((7 : Int), lkO g, b)] (chO m).1 (lkO g) b := ⟨[], [], rfl, fun e he => by cases he⟩
    by_cases hgm : g > m
    · obtain ⟨rfl, rfl⟩ := hS.gt hT.ok hh hgm
      rw [show max g m = g by omega]
      exact .inr ⟨hg0, b, rfl⟩
    · have hp := hS.le hT.ok hh (by show g ≤ m; omega)
      have hv : newV 4 5 (chO m) (lkO g) = lkO (max g m) := by
        unfold newV
        by_cases hlt : (lkO g).2.2.1 < (chO m).2.2.2
        · rw [if_pos hlt]
          have : g < m := hlt
          rw [show max g m = m by omega]; rfl
        · rw [if_neg hlt]
          have : ¬ g < m := hlt
          rw [show max g m = g by omega]; rfl
      rw [hv] at hp
      rcases hp with ⟨l1, v0, b', l2, e, h1, rfl, rfl⟩ | ⟨hn, _⟩
      · cases l1 with
        | nil =>
          simp only [List.nil_append, List.cons.injEq] at e
          obtain ⟨e1, rfl⟩ := e
          exact .inr ⟨by omega, b', rfl⟩
        | cons x l1 => simp at e
      · exact absurd rfl (hn (7, lkO g, b) (by simp))
def seqO (nums : List Int) (back : Bool) : List Int := if back then nums.reverse else nums
structure AFT (nums : List Int) (L : List tChoice.den) : Prop where
  l : L.length = nums.length
  n : nums.length ≤ 12
  g : ∀ i : Int, 0 ≤ i → i < nums.length → gtR tChoice L i = chO (gtR tI nums i)
  b : ∀ x ∈ nums, 1 ≤ x ∧ x ≤ 65536
end Go.Ab
