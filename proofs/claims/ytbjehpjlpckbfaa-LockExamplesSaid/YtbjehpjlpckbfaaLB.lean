/- The reference's table as contracts; calls in free order. -/
import Derived.Test.YtbjehpjlpckbfaaLA
set_option linter.unusedSimpArgs false
set_option linter.unusedVariables false
set_option maxRecDepth 20000
set_option maxHeartbeats 8000000
namespace Go.Ab
open Go.Proofs
def spRNew : OpsS → CallS := fun _ _ ds st K => match ds with
 | [.p (.v (.int .i64 k))] => NEWK k (frS [] [] [.p (iv k)] ⟨[], []⟩ (.tup [.ptr 0 0, .p (iv 0)]) (rtS k 0 []) ds st K) (frS [] [] [.p (iv k)] ⟨[], []⟩ (.tup [.p (.v (.pointer none)), .p (iv 1)]) ⟨[], []⟩ ds st K)
 | _ => False
structure RSTK (k tw : Int) (L : List LKV) (t : Int) (ch : Int × Int × Int × Int) (K : Int → Int → List LKV → Prop) : Prop where
 l : L.length ≤ 16
 kp : 1 ≤ k ∧ k ≤ 60
 se : 0 ≤ ch.2.2.1
 h : ∀ e tw' L', RSET k tw L t ch e tw' L' → K e tw' L'
def spRSet : OpsS → CallS := fun _ _ ds st K => match ds with
 | [.ptr a 0, .p (.v (.int .i64 t)), x] => (match getT tChoice x with
   | some ch => rtAt a st fun k w L => RSTK k w L t (ch.1, (ch.2.1, (ch.2.2.1, ch.2.2.2))) fun e w' L' => frS [a] [] [.ptr 0 0, .p (iv t), injT tChoice ch] (rtS k w L) (.p (iv e)) (rtS k w' L') ds st K
   | none => False)
 | _ => False
structure RTKK (tw : Int) (L : List LKV) (t : Int) (K : Int → Int → List LKV → Prop) : Prop where
 l : L.length ≤ 16
 h : ∀ e tw' L', RTICK tw L t e tw' L' → K e tw' L'
structure RSNK (L : List LKV) (a : Int) (K : Int → Prop) : Prop where
 l : L.length ≤ 16
 h : ∀ s, s = senR L a → K s
structure RMKK (L : List LKV) (B : List BND) (A : List Bool → Prop) (A' : Int → Prop) : Prop where
 l : L.length ≤ 16
 sh : B.length ≤ 2000
 t : ∀ M, achk B = 0 → M = mskR L B → A M
 f : ∀ e, e = achk B → e ≠ 0 → A' e
def spSetU : OpsS → List Nat → CallS := fun _ pl _ ds st K => match ds with
 | [.ptr a 0, .p (.v (.int .i64 t)), x] => (match getT tChoice x with
   | some ch => tabAt a st fun b k w c n l => SETK k w c n l t (ch.1, (ch.2.1, (ch.2.2.1, ch.2.2.2))) fun e w' c' n' l' => frST pl [a, b] [] [.ptr 0 0, .p (iv t), injT tChoice ch] (tabS k w c n l) (.p (iv e)) (tabE k w' c' n' l') ds st K
   | none => False)
 | _ => False
theorem uSet : ∀ pl ds st K, spSetU OpsS.real pl 14 ds st K → CT Try.prog pl 14 (concL ds) st.conc (KP K) := fun pl ds st K h => by
 unfold spSetU at h
 split at h
 · split at h
   · rename_i t x _ ch _
     obtain ⟨b, k, w, c, n, l, h⟩ := tabAt_some h
     obtain ⟨h1, h2, h3, h4⟩ := h
     obtain ⟨a', to, se, m⟩ := ch
     obtain ⟨e, w', l', c', hR⟩ := SETR_ex k w c l t (a', (to, (se, m)))
     exact frST_ok (cSet k w c n l t a' to se m e w' c' _ l' hR rfl h1.ok h1.c0 h1.nl h1.n1 h2 h3) (h4 _ _ _ _ _ hR rfl)
   · exact h.elim
 · exact h.elim
end Go.Ab
