/- The reference's table as contracts; calls in free order. -/
import Derived.Test.YtbjehpjlpckbfaaLA
set_option linter.unusedSimpArgs false
set_option linter.unusedVariables false
set_option maxRecDepth 20000
set_option maxHeartbeats 8000000
namespace Go.Ab
open Go.Proofs
theorem rMaskX (k tw : Int) (L : List LKV) (nb : Option Bool) (B : List BND) (e : Int) (h : Short 2000 B) (hE : e = achk B) (h0 : e ≠ 0) : FnS Try.prog 20 ([.ptr 0 0, injT (.sl tBnd) (nb, B)]) (rtS k tw L ) fun x_ s_ => x_ = (.tup [.p (.sl (some true) 0 []), .p (iv e)]) ∧ s_ = (rtS k tw L) := by
 refine FnS.of (S := [(47, _)]) (T := []) (U := []) (tbl := []) (n := 62) hm32 cfg (.cons (spT1.ok (a := (.sl (.pair (.int .u8) (.pair (.int .i64) (.int .i64))))) fun x0 h => cRAchk x0.1 x0.2 h) .nil) .nil .nil .nil 0 Try.call20 Try.func20 (ac20_ok (some (1, 0))) (by rw [Try.ntmps20]; exact Nat.le_refl _) rfl _ _ _ (by rfl) ?_
 intro cmp ar cv tn ic ai mx an ad ml sb mn ln em gt up ap sc vw cp rp p1 p2 s1 s2 X Y hX hY r0 r1 r2 r3 r4 r5 r6 r7 r8 r9 r10 r11 r12 r13 r14 r15 r16 r17 r18 r19 r20 r21 r22 r23 r24
 generalize hg0 : achk = g0
 cbv
 have hE : e = g0 B := by rw [hE, ← hg0]
 refine ⟨h, BR.neq r0 (fun hc => ?_) fun hc => absurd hE.symm (fun e1 => hc (by show g0 B ≠ 0; omega))⟩
 refine RET.mk ⟨[some 0], [], ?_⟩
 rw [SIM_iff]; cbv
 simp [lstEq, nlLe_none, nlLe_self, hE]
def spRNew : OpsS → CallS := fun _ _ ds st K => match ds with
 | [.p (.v (.int .i64 k))] => NEWK k (frS [] [] [.p (iv k)] ⟨[], []⟩ (.tup [.ptr 0 0, .p (iv 0)]) (rtS k 0 []) ds st K) (frS [] [] [.p (iv k)] ⟨[], []⟩ (.tup [.p (.v (.pointer none)), .p (iv 1)]) ⟨[], []⟩ ds st K)
 | _ => False
theorem tRNew : ∀ ds st K, spRNew OpsS.real 13 ds st K → FnS Try.prog 13 ds st K := fun ds st K h => by
 unfold spRNew at h
 split at h
 · rename_i k
   by_cases hk : 1 ≤ k ∧ k ≤ 60
   · exact frS_ok (rNew k hk) (h.t hk)
   · exact frS_ok (rNewX k hk) (h.f hk)
 · exact h.elim
structure RSTK (k tw : Int) (L : List LKV) (t : Int) (ch : Int × Int × Int × Int) (K : Int → Int → List LKV → Prop) : Prop where
 l : L.length ≤ 16
 kp : 1 ≤ k ∧ k ≤ 60
 se : 0 ≤ ch.2.2.1
 h : ∀ e tw' L', RSET k tw L t ch e tw' L' → K e tw' L'
def spRSet : OpsS → CallS := fun _ _ ds st K => match ds with
 | [.ptr a 0, .p (.v (.int .i64 t)), x] => (match getT tChoice x with
   | some ch => rtAt a st fun k w L => RSTK k w L t (ch.1, (ch.2.1, (ch.2.2.1, ch.2.2.2))) fun e w' L' => frS [a] [] [.ptr 0 0, .p (iv t), injT tChoice ch] (rtS k w L) (.p (iv e)) (rtS k w' L') ds st K
   | none => False)
 | _ => False
theorem tRSet : ∀ ds st K, spRSet OpsS.real 15 ds st K → FnS Try.prog 15 ds st K := fun ds st K h => by
 unfold spRSet at h
 split at h
 · split at h
   · rename_i t x _ ch _
     obtain ⟨k, w, L, h⟩ := rtAt_some h
     obtain ⟨h1, h2, h3, h4⟩ := h
     obtain ⟨a', to, se, m⟩ := ch
     obtain ⟨e, w', L', hR⟩ := RSET_ex k w L t (a', (to, (se, m)))
     exact frS_ok (rSet k w L t a' to se m e w' L' hR h1 h2 h3) (h4 _ _ _ hR)
   · exact h.elim
 · exact h.elim
structure RTKK (tw : Int) (L : List LKV) (t : Int) (K : Int → Int → List LKV → Prop) : Prop where
 l : L.length ≤ 16
 h : ∀ e tw' L', RTICK tw L t e tw' L' → K e tw' L'
def spRTick : OpsS → CallS := fun _ _ ds st K => match ds with
 | [.ptr a 0, .p (.v (.int .i64 t))] => rtAt a st fun k w L => RTKK w L t fun e w' L' => frS [a] [] [.ptr 0 0, .p (iv t)] (rtS k w L) (.p (iv e)) (rtS k w' L') ds st K
 | _ => False
theorem tRTick : ∀ ds st K, spRTick OpsS.real 17 ds st K → FnS Try.prog 17 ds st K := fun ds st K h => by
 unfold spRTick at h
 split at h
 · rename_i t
   obtain ⟨k, w, L, h⟩ := rtAt_some h
   obtain ⟨h1, h4⟩ := h
   obtain ⟨e, w', L', hR⟩ := RTICK_ex w L t
   exact frS_ok (rTick k w L t e w' L' hR h1) (h4 _ _ _ hR)
 · exact h.elim
structure RSNK (L : List LKV) (a : Int) (K : Int → Prop) : Prop where
 l : L.length ≤ 16
 h : ∀ s, s = senR L a → K s
def spRSense : OpsS → CallS := fun _ _ ds st K => match ds with
 | [.ptr a 0, .p (.v (.int .i64 x))] => rtAt a st fun k w L => RSNK L x fun s => frS [a] [] [.ptr 0 0, .p (iv x)] (rtS k w L) (.p (uv s)) (rtS k w L) ds st K
 | _ => False
theorem tRSense : ∀ ds st K, spRSense OpsS.real 24 ds st K → FnS Try.prog 24 ds st K := fun ds st K h => by
 unfold spRSense at h
 split at h
 · rename_i x
   obtain ⟨k, w, L, h⟩ := rtAt_some h
   exact frS_ok (rSense k w L x _ rfl h.l) (h.h _ rfl)
 · exact h.elim
structure RMKK (L : List LKV) (B : List BND) (A : List Bool → Prop) (A' : Int → Prop) : Prop where
 l : L.length ≤ 16
 sh : B.length ≤ 2000
 t : ∀ M, achk B = 0 → M = mskR L B → A M
 f : ∀ e, e = achk B → e ≠ 0 → A' e
def spRMask : OpsS → CallS := fun _ _ ds st K => match ds with
 | [.ptr a 0, x] => (match getT (.sl tBnd) x with
   | some B => rtAt a st fun k w L => RMKK L B.2
       (fun M => frS [a] [] [.ptr 0 0, injT (.sl tBnd) (B.1, B.2)] (rtS k w L) (.tup [.tl none .bool M, .p (iv 0)]) (rtS k w L) ds st K)
       (fun e => frS [a] [] [.ptr 0 0, injT (.sl tBnd) (B.1, B.2)] (rtS k w L) (.tup [.p (.sl (some true) 0 []), .p (iv e)]) (rtS k w L) ds st K)
   | none => False)
 | _ => False
theorem tRMask : ∀ ds st K, spRMask OpsS.real 20 ds st K → FnS Try.prog 20 ds st K := fun ds st K h => by
 unfold spRMask at h
 split at h
 · split at h
   · rename_i B _
     obtain ⟨k, w, L, h⟩ := rtAt_some h
     obtain ⟨nb, B⟩ := B
     obtain ⟨h1, h2, h3, h4⟩ := h
     by_cases h0 : achk B = 0
     · exact frS_ok (rMask k w L nb B _ ⟨h2⟩ h0 rfl h1) (h3 _ h0 rfl)
     · exact frS_ok (rMaskX k w L nb B _ ⟨h2⟩ rfl h0) (h4 _ rfl h0)
   · exact h.elim
 · exact h.elim
def spSetU : OpsS → List Nat → CallS := fun _ pl _ ds st K => match ds with
 | [.ptr a 0, .p (.v (.int .i64 t)), x] => (match getT tChoice x with
   | some ch => tabAt a st fun b k w c n l => SETK k w c n l t (ch.1, (ch.2.1, (ch.2.2.1, ch.2.2.2))) fun e w' c' n' l' => frST pl [a, b] [] [.ptr 0 0, .p (iv t), injT tChoice ch] (tabS k w c n l) (.p (iv e)) (tabE k w' c' n' l') ds st K
   | none => False)
 | _ => False
theorem uSet : ∀ pl ds st K, spSetU OpsS.real pl 14 ds st K → CT Try.prog pl 14 (concL ds) st.conc (KP K) := fun pl ds st K h => by
 unfold spSetU at h
 split at h
 · split at h
   · rename_i t x _ ch _
     obtain ⟨b, k, w, c, n, l, h⟩ := tabAt_some h
     obtain ⟨h1, h2, h3, h4⟩ := h
     obtain ⟨a', to, se, m⟩ := ch
     obtain ⟨e, w', l', c', hR⟩ := SETR_ex k w c l t (a', (to, (se, m)))
     exact frST_ok (cSet k w c n l t a' to se m e w' c' _ l' hR rfl h1.ok h1.c0 h1.nl h1.n1 h2 h3) (h4 _ _ _ _ _ hR rfl)
   · exact h.elim
 · exact h.elim
def spTickU : OpsS → List Nat → CallS := fun _ pl _ ds st K => match ds with
 | [.ptr a 0, .p (.v (.int .i64 t))] => tabAt a st fun b k w c n l => TICKK w c n l t fun e w' n' l' => frST pl [a, b] [] [.ptr 0 0, .p (iv t)] (tabS k w c n l) (.p (iv e)) (tabE k w' c n' l') ds st K
 | _ => False
theorem uTick : ∀ pl ds st K, spTickU OpsS.real pl 16 ds st K → CT Try.prog pl 16 (concL ds) st.conc (KP K) := fun pl ds st K h => by
 unfold spTickU at h
 split at h
 · rename_i t
   obtain ⟨b, k, w, c, n, l, h⟩ := tabAt_some h
   obtain ⟨h1, h3, h4⟩ := h
   obtain ⟨e, w', l', hR⟩ := TICKR_ex w l t
   exact frST_ok (cTick k w c n l t e w' _ l' hR rfl h1.ok h1.c0 h1.nl h1.n1 h3) (h4 _ _ _ _ hR rfl)
 · exact h.elim
def spSenseU : OpsS → List Nat → CallS := fun _ pl _ ds st K => match ds with
 | [.ptr a 0, .p (.v (.int .i64 x))] => tabAt a st fun b k w c n l => SENK c n l x fun s => frST pl [a, b] [] [.ptr 0 0, .p (iv x)] (tabS k w c n l) (.p (uv s)) (tabS k w c n l) ds st K
 | _ => False
theorem uSense : ∀ pl ds st K, spSenseU OpsS.real pl 23 ds st K → CT Try.prog pl 23 (concL ds) st.conc (KP K) := fun pl ds st K h => by
 unfold spSenseU at h
 split at h
 · rename_i x
   obtain ⟨b, k, w, c, n, l, h⟩ := tabAt_some h
   obtain ⟨h1, h4⟩ := h
   obtain ⟨s, hR⟩ := SENS_ex l x
   exact frST_ok (cSense k w c n l x s hR h1.ok h1.nl) (h4 _ hR)
 · exact h.elim
def spLocksU : OpsS → List Nat → CallS := fun _ pl _ ds st K => match ds with
 | [.ptr a 0] => tabAt a st fun b k w c n l => LOKK c n l fun R r => frST pl [a, b] [] [.ptr 0 0] (tabS k w c n l) (.og 0 tLock R) ⟨(tabS k w c n l).box, [(r, 50)]⟩ ds st K
 | _ => False
theorem uLocks : ∀ pl ds st K, spLocksU OpsS.real pl 18 ds st K → CT Try.prog pl 18 (concL ds) st.conc (KP K) := fun pl ds st K h => by
 unfold spLocksU at h
 split at h
 · obtain ⟨b, k, w, c, n, l, h⟩ := tabAt_some h
   obtain ⟨h1, h4⟩ := h
   exact frST_ok (cLocks k w c n l _ _ rfl rfl h1.ok h1.c0 h1.nl (by have := h1.n1; omega) (fun e he => by have := h1.v e he; omega)) (h4 _ _ rfl rfl)
 · exact h.elim
end Go.Ab
