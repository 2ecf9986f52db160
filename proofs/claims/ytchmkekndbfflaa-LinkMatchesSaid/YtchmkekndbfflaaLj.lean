/- The channel's functions as calls of a bigger state. -/
import Derived.Test.YtchmkekndbfflaaLi
set_option linter.unusedSimpArgs false
set_option linter.unusedVariables false
set_option maxRecDepth 20000
namespace Go.Ab
open Go.Proofs
/-- The channel behind a pointer. -/
def linkAt (a : Nat) (st : StS) (K : Nat → Nat → List Int → Int → Int → Nat → Nat → List tPar.den → Prop) : Prop := match nthD st.box a with
  | some B => (match B.cells with
    | [.arr 256 t F, .p (.v (.int .i64 now)), .p (.v (.int .i64 sent)), .ptr b 0] => (match castL tI t F with
      | some F => (match nthD st.box b with
        | some B => (match B.cells with
          | [.ms c 0 6 none n] => (match nthD st.box c with
            | some B => (match B.cells with
              | [.arr N t q] => (match castL tPar t q with | some q => K b c F now sent N n q | none => False)
              | _ => False)
            | none => False)
          | _ => False)
        | none => False)
      | none => False)
    | _ => False)
  | none => False
theorem linkAt_some {a : Nat} {st : StS} {K : Nat → Nat → List Int → Int → Int → Nat → Nat → List tPar.den → Prop} (h : linkAt a st K) : ∃ b c F now sent N n q, K b c F now sent N n q := by
  unfold linkAt at h
  repeat' split at h
  all_goals first | exact ⟨_, _, _, _, _, _, _, _, h⟩ | exact h.elim
structure SENDK (F : List Int) (sent : Int) (N n : Nat) (q : List tPar.den) : Prop where
  h : q.length = N ∧ n ≤ N ∧ n ≤ 64 ∧ 0 ≤ sent ∧ sent < 1000000 ∧ ∀ i, -1 ≤ gtR tI F i ∧ gtR tI F i ≤ 8
def spSend (mE : List Int → Int → Int → Nat → Int → tChoice.den → Int) (mNow mSent : List Int → Int → Int → Nat → Int → tChoice.den → Int) (mCap : List Int → Int → Int → Nat → Nat → Int → tChoice.den → Nat) (mN : List Int → Int → Int → Nat → Int → tChoice.den → Nat)
    (mQ : List Int → Int → Int → Nat → List tPar.den → Int → tChoice.den → List tPar.den) : OpsS → CallS := fun _ _ ds st K => match ds with
  | [.ptr a 0, .p (.v (.int .i64 t)), x] => (match getT tChoice x with
    | some x => linkAt a st fun b c F now sent N n q => SENDK F sent N n q ∧ frS [a, b, c] [] [.ptr 0 0, .p (iv t), injT tChoice x] (linkS F now sent N n q) (.p (iv (mE F now sent n t x)))
        (linkE F (mNow F now sent n t x) (mSent F now sent n t x) (mCap F now sent N n t x) (mN F now sent n t x) (mQ F now sent n q t x)) ds st K
    | none => False)
  | _ => False
theorem cSendT : ∀ ds st K, spSend sendE sendNow sendSent sendCap sendN sendQ OpsS.real 13 ds st K → FnS Try.prog 13 ds st K := fun ds st K h => by
  unfold spSend at h
  split at h
  · split at h
    · obtain ⟨b, c, F, now, sent, N, n, q, hu, h⟩ := linkAt_some h
      obtain ⟨h1, h2, h3, h4, h5, h6⟩ := hu.h
      exact frS_ok (cSend F now sent N n q _ _ h1 h2 h3 h4 h5 h6) h
    · exact h.elim
  · exact h.elim
def hearN (t : Int) (n : Nat) (q : List tPar.den) : Nat := (hearM t n q []).1
def hearQ (t : Int) (n : Nat) (q : List tPar.den) : List tPar.den := (hearM t n q []).2.1
def hearO (t : Int) (n : Nat) (q : List tPar.den) : List tChoice.den := (hearM t n q []).2.2
structure HEARK (now t : Int) (N n : Nat) (q : List tPar.den) : Prop where
  h : atM now t = 0 ∧ q.length = N ∧ n ≤ N ∧ n ≤ 64
def spHear (mN : Int → Nat → List tPar.den → Nat) (mQ : Int → Nat → List tPar.den → List tPar.den) (mO : Int → Nat → List tPar.den → List tChoice.den) : OpsS → CallS := fun o _ ds st K => match ds with
  | [.ptr a 0, .p (.v (.int .i64 t))] => linkAt a st fun b c F now sent N n q => HEARK now t N n q ∧ frS [a, b, c] [] [.ptr 0 0, .p (iv t)] (linkS F now sent N n q) (.tup [.og 0 tChoice (mO t n q), .p (iv 0)])
      (linkG F t sent N (mN t n q) (mQ t n q) [(o.ml (o.ln tChoice (mO t n q)) 4, 33)]) ds st K
  | _ => False
theorem cHearT : ∀ ds st K, spHear hearN hearQ hearO OpsS.real 15 ds st K → FnS Try.prog 15 ds st K := fun ds st K h => by
  unfold spHear at h
  split at h
  · obtain ⟨b, c, F, now, sent, N, n, q, hu, h⟩ := linkAt_some h
    obtain ⟨h1, h2, h3, h4⟩ := hu.h
    exact frS_ok (cHear F now sent N n _ q _ _ _ _ rfl rfl h1 h2 h3 h4) h
  · exact h.elim
end Go.Ab

