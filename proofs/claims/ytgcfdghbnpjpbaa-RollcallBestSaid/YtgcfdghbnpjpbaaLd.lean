/- The reference's Worth. -/
import Derived.Test.YtgcfdghbnpjpbaaLc
set_option linter.unusedSimpArgs false
set_option linter.unusedVariables false
set_option maxRecDepth 20000
set_option maxHeartbeats 4000000
namespace Go.Ab
open Go.Proofs
theorem fndM_spec (b : Int) : ∀ (l : List DUE) (i : Int), (l.find? (fun x => decide (x.1 = b)) = none ∧ fndM b l i = -1) ∨ ∃ (k : Nat) (hk : k < l.length), fndM b l i = i + k ∧ l.find? (fun x => decide (x.1 = b)) = some l[k] ∧ l[k].1 = b
 | [], i => .inl ⟨rfl, rfl⟩
 | x :: l, i => by
   rw [List.find?_cons, fndM]
   by_cases h : x.1 = b
   · rw [decide_eq_true h, if_pos h]
     exact .inr ⟨0, by simp, by simp, rfl, h⟩
   · rw [decide_eq_false h, if_neg h]
     rcases fndM_spec b l (i + 1) with ⟨h1, h2⟩ | ⟨k, hk, h1, h2, h3⟩
     · exact .inl ⟨h1, h2⟩
     · exact .inr ⟨k + 1, by simp; omega, by rw [h1]; push_cast; omega, by simpa using h2, by simpa using h3⟩
structure FLG (F : List Bool) (l : List DUE) (dn : List Int) : Prop where
 n : F.length = l.length
 f : ∀ (k : Nat) (hk : k < l.length), F.getD k false = decide (l[k].1 ∈ dn)
end Go.Ab
