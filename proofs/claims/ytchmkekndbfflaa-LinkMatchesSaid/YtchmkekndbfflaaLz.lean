/- LinkExamples. -/
import Derived.Test.YtchmkekndbfflaaLx
import Derived.Test.YtchmkekndbfflaaLb
import Derived.Test.YtchmkekndbfflaaLy
set_option linter.unusedSimpArgs false
set_option linter.unusedVariables false
set_option maxRecDepth 20000
set_option maxHeartbeats 8000000
namespace Go.Ab
open Go.Proofs
theorem cNewE (nl : Option Bool) (l : List Int) (hs : Short 300 l) (r : Int) (hr : r = wrongM l) (hl : r ≠ 0) : FnS Try.prog 11 ([injT (.sl tI) (nl, l)]) (⟨[], []⟩) fun x_ s_ => x_ = (.tup [.p (.v (.pointer none)), .p (iv r)]) ∧ s_ = (⟨[], []⟩) := by
  refine FnS.of (S := [(30, _)]) (T := []) (U := []) (tbl := []) (n := 22) hm33 cfg (.cons (spT1.ok (a := (.sl (.int .i64))) fun x0 h => c30 x0.1 x0.2 h) .nil) .nil .nil .nil 0 Try.call11 Try.func11 (ac11_ok (some (0, 0))) (by rw [Try.ntmps11]; exact Nat.le_refl _) rfl _ _ _ (by rfl) ?_
  intro cmp ar cv tn ic ai mx an ad ml sb mn ln em gt up ap sc vw cp rp p1 p2 s1 s2 X Y hX hY r0 r1 r2 r3 r4 r5 r6 r7 r8 r9 r10 r11 r12 r13 r14 r15 r16 r17 r18 r19 r20 r21 r22 r23 r24
  generalize hg0 : wrongM = g0
  cbv
  rw [show g0 (nl, l).snd = r by rw [← hg0]; exact hr.symm]
  refine ⟨hs, BR.neq r0 (fun _ => ?_) (fun h => absurd hl h)⟩
  refine RET.mk ⟨[], [], ?_⟩; rw [SIM_iff]; cbv
  try simp [lstEq]
theorem cNewB (n : Nat) (l : List Int) (hn : l.length = n) (aq : Bool) (hl : wrongM l = 0) : FnS Try.prog 11 ([.ms 0 0 1 none n]) (⟨[{ cells := [.arr n tI l], e := 3, fz := false, ap := aq }], []⟩ ) fun x_ s_ => x_ = (.tup [.ptr 1 0, .p (iv 0)]) ∧ s_ = (⟨{ cells := [.arr n tI l], e := 3, fz := false, ap := aq } :: [{ cells := [.arr 256 tI (fatesM l), .p (iv 0), .p (iv 0), .ptr 2 0], e := 73, fz := false }, { cells := [.ms 3 0 6 none 0], e := 70, fz := false }, { cells := [.arr 0 tPar []], e := 49, fz := false, ap := true }], []⟩) := by
  refine FnS.of (S := [(30, _)]) (T := []) (U := []) (tbl := []) (n := 22) hm33 cfg (.cons (spT1.ok (a := (.sl (.int .i64))) fun x0 h => c30 x0.1 x0.2 h) .nil) .nil .nil .nil 0 Try.call11 Try.func11 (ac11_ok (some (1, 0))) (by rw [Try.ntmps11]; exact Nat.le_refl _) rfl _ _ _ (by rfl) ?_
  intro cmp ar cv tn ic ai mx an ad ml sb mn ln em gt up ap sc vw cp rp p1 p2 s1 s2 X Y hX hY r0 r1 r2 r3 r4 r5 r6 r7 r8 r9 r10 r11 r12 r13 r14 r15 r16 r17 r18 r19 r20 r21 r22 r23 r24
  generalize hg0 : wrongM = g0
  generalize hg1 : fatesM = g1
  cbv
  have hv : vw tI n l 0 n = l := by rw [r18]; exact vw_allT (t := tI) hn
  have hl2 : g0 l = 0 := by rw [← hg0]; exact hl
  have hl3 := wrong_len hl
  have hlen : ln tI l = n := by rw [r12]; exact hn
  have hmn : mn n 256 = min n 256 := by rw [r11]
  have had : ∀ x y, ad x y = x + y := fun x y => by rw [r8]
  rw [hv, show g0 (some false, l).snd = 0 from hl2, hlen, hmn, had, had]
  refine ⟨⟨⟨by omega⟩, trivial⟩, Short_iff.2 (by omega), BR.neq r0 (fun h => absurd rfl h) fun _ => ?_⟩
  refine ⟨⟨by omega⟩, ⟨by omega⟩, ?_⟩
  refine RET.mk ⟨[some 0, some 3, some 2, some 1], [], ?_⟩; rw [SIM_iff]; cbv
  rw [r19, ← hg1]; exact ⟨⟨⟨by subst hn; exact cp_fates hl3 _ rfl, trivial⟩, trivial⟩, trivial⟩
theorem cNewBe (n : Nat) (l : List Int) (hn : l.length = n) (aq : Bool) (hs : n ≤ 300) (r : Int) (hr : r = wrongM l) (hl : r ≠ 0) : FnS Try.prog 11 ([.ms 0 0 1 none n]) (⟨[{ cells := [.arr n tI l], e := 3, fz := false, ap := aq }], []⟩ ) fun x_ s_ => x_ = (.tup [.p (.v (.pointer none)), .p (iv r)]) ∧ s_ = (⟨[{ cells := [.arr n tI l], e := 3, fz := false, ap := aq }], []⟩) := by
  refine FnS.of (S := [(30, _)]) (T := []) (U := []) (tbl := []) (n := 22) hm33 cfg (.cons (spT1.ok (a := (.sl (.int .i64))) fun x0 h => c30 x0.1 x0.2 h) .nil) .nil .nil .nil 0 Try.call11 Try.func11 (ac11_ok (some (1, 0))) (by rw [Try.ntmps11]; exact Nat.le_refl _) rfl _ _ _ (by rfl) ?_
  intro cmp ar cv tn ic ai mx an ad ml sb mn ln em gt up ap sc vw cp rp p1 p2 s1 s2 X Y hX hY r0 r1 r2 r3 r4 r5 r6 r7 r8 r9 r10 r11 r12 r13 r14 r15 r16 r17 r18 r19 r20 r21 r22 r23 r24
  generalize hg0 : wrongM = g0
  cbv
  have hv : vw tI n l 0 n = l := by rw [r18]; exact vw_allT (t := tI) hn
  have had : ∀ x y, ad x y = x + y := fun x y => by rw [r8]
  rw [hv, show g0 (some false, l).snd = r by rw [← hg0]; exact hr.symm, had]
  refine ⟨⟨⟨by omega⟩, trivial⟩, Short_iff.2 (by omega), BR.neq r0 (fun _ => ?_) (fun h => absurd hl h)⟩
  refine RET.mk ⟨[some 0], [], ?_⟩; rw [SIM_iff]; cbv
  try simp [lstEq]
/-- New: with what it returns, by cases of its error. -/
structure NB (l : List Int) (A : Prop) (B : Int → Prop) : Prop where
  h : (wrongM l = 0 ∧ A) ∨ ∃ r, r = wrongM l ∧ r ≠ 0 ∧ l.length ≤ 300 ∧ B r
theorem NB.ok {l : List Int} {A : Prop} {B : Int → Prop} (h : wrongM l = 0) (a : A) : NB l A B := ⟨.inl ⟨h, a⟩⟩
theorem NB.err {l : List Int} {A : Prop} {B : Int → Prop} (r : Int) (h : r = wrongM l) (h0 : r ≠ 0) (hl : l.length ≤ 300) (b : B r) : NB l A B := ⟨.inr ⟨r, h, h0, hl, b⟩⟩
structure NBL (n m : Nat) (l : List Int) : Prop where
  h : m = n
  l : l.length = n
def spNewX (mF : List Int → List Int) : OpsS → CallS := fun _ _ ds st K => match ds with
  | [.ms a 0 1 none n] => (match nthD st.box a with
    | some B => (match B.cells with
      | [.arr m t l] => (match castL tI t l with
        | some l => NBL n m l ∧ NB l (frS [a] [] [.ms 0 0 1 none n] ⟨[{ cells := [.arr n tI l], e := 3, fz := false, ap := B.ap }], []⟩ (.tup [.ptr 1 0, .p (iv 0)]) ⟨{ cells := [.arr n tI l], e := 3, fz := false, ap := B.ap } :: [{ cells := [.arr 256 tI (mF l), .p (iv 0), .p (iv 0), .ptr 2 0], e := 73, fz := false }, { cells := [.ms 3 0 6 none 0], e := 70, fz := false }, { cells := [.arr 0 tPar []], e := 49, fz := false, ap := true }], []⟩ ds st K)
          fun r => frS [a] [] [.ms 0 0 1 none n] ⟨[{ cells := [.arr n tI l], e := 3, fz := false, ap := B.ap }], []⟩ (.tup [.p (.v (.pointer none)), .p (iv r)]) ⟨[{ cells := [.arr n tI l], e := 3, fz := false, ap := B.ap }], []⟩ ds st K
        | none => False)
      | _ => False)
    | none => False)
  | [x] => (match asL tI x with
    | some l => NB l (frS [] [] [.tl none tI l] ⟨[], []⟩ (.tup [.ptr 0 0, .p (iv 0)]) (linkS (mF l) 0 0 0 0 []) ds st K)
        fun r => frS [] [] [.tl none tI l] ⟨[], []⟩ (.tup [.p (.v (.pointer none)), .p (iv r)]) ⟨[], []⟩ ds st K
    | none => False)
  | _ => False
theorem cNewX : ∀ ds st K, spNewX fatesM OpsS.real 11 ds st K → FnS Try.prog 11 ds st K := fun ds st K h => by
  unfold spNewX at h
  split at h
  · repeat' split at h
    all_goals first | exact h.elim | skip
    obtain ⟨⟨rfl, h2⟩, h3 | ⟨r, k1, k2, k3, h3⟩⟩ := h
    · exact frS_ok (cNewB _ _ h2 _ h3.1) h3.2
    · exact frS_ok (cNewBe _ _ h2 _ (by omega) r k1 k2) h3
  · split at h
    · obtain ⟨h3 | ⟨r, k1, k2, k3, h3⟩⟩ := h
      · exact frS_ok (cNew none _ h3.1) h3.2
      · exact frS_ok (cNewE none _ (Short_iff.2 (by omega)) r k1 k2) h3
    · exact h.elim
  · exact h.elim
theorem cHearE (F : List Int) (now sent : Int) (N n : Nat) (q : List tPar.den) (t e : Int) (he : e = atM now t) (h0 : e ≠ 0) : FnS Try.prog 15 ([.ptr 0 0, .p (iv t)]) (linkS F now sent N n q ) fun x_ s_ => x_ = (.tup [.p (.sl (some true) 0 []), .p (iv e)]) ∧ s_ = (linkS F now sent N n q) := by
  refine FnS.of (S := []) (T := [(38, _)]) (U := []) (tbl := [(32, ac32 none, [.tmp 4], 29), (34, ac34 none, [.tmp 2], 5)]) (n := 57) hm33 cfg .nil (.cons cPopT .nil) .nil (.cons Try.call32 Try.func32 (ac32_ok none) (by rw [Try.ntmps32]; exact Nat.le_refl _) (.cons Try.call34 Try.func34 (ac34_ok none) (by rw [Try.ntmps34]; exact Nat.le_refl _) .nil)) 6 Try.call15 Try.func15 (ac15_ok (some (3, 0))) (by rw [Try.ntmps15]; exact Nat.le_refl _) rfl _ _ _ (by rfl) ?_
  intro cmp ar cv tn ic ai mx an ad ml sb mn ln em gt up ap sc vw cp rp p1 p2 s1 s2 X Y hX hY r0 r1 r2 r3 r4 r5 r6 r7 r8 r9 r10 r11 r12 r13 r14 r15 r16 r17 r18 r19 r20 r21 r22 r23 r24
  cbv
  unfold atM at he
  repeat' (first | exact True.intro | refine And.intro ?_ ?_ | (refine BR.nn r0 ?_) | (refine BR.lss r0 ?_ ?_ <;> intro _) | (refine BR.neq r0 ?_ ?_ <;> intro _) | (refine BR.eql r0 ?_ ?_ <;> intro _) | (refine BR.leq r0 ?_ ?_ <;> intro _) | (refine BR.gtr r0 ?_ ?_ <;> intro _) | (refine BR.geq r0 ?_ ?_ <;> intro _) | (refine BR.mk ?_ ?_ <;> intro _) | (refine CASE.mk ?_; intro _))
  all_goals try (refine RET.mk ⟨[some 0, some 1, some 2], [], ?_⟩; rw [SIM_iff]; cbv)
  all_goals first
    | (exfalso; omega)
    | (refine ⟨⟨(by simp [nlLe_self]), ?_, trivial⟩, trivial⟩; grind)
    | (exfalso; grind)
/-- Hear: by cases of its error. -/
structure HE2 (now t : Int) (A : Prop) (B : Int → Prop) : Prop where
  h : A ∨ ∃ e, e = atM now t ∧ e ≠ 0 ∧ B e
theorem SENTR.bad {F : List Int} {now sent t : Int} {N n : Nat} {q : List PT} {x : tChoice.den} {e now' sent' : Int} {N' n' : Nat} {q' : List tPar.den} (r : SENTR F now sent N n q t x e now' sent' N' n' q')
    (E : Int) (hE : sendE F now sent n t x = E) (h : E ≠ 0) : e = E ∧ now' = now ∧ sent' = sent ∧ N' = N ∧ n' = n ∧ q' = q := by
  subst hE
  obtain ⟨rfl, rfl, rfl, rfl, rfl, rfl⟩ := r
  simp [sendNow, sendSent, sendCap, sendN, sendQ, h]
theorem SENTR.gone {F : List Int} {now sent t : Int} {N n : Nat} {q : List PT} {x : tChoice.den} {e now' sent' : Int} {N' n' : Nat} {q' : List tPar.den} (r : SENTR F now sent N n q t x e now' sent' N' n' q')
    (hf : fateM F sent = -1) (ht : atM now t = 0) (hc : lcheckM x = 0) : e = 0 ∧ now' = t ∧ sent' = sent + 1 ∧ N' = N ∧ n' = n ∧ q' = q := by
  have hE : sendE F now sent n t x = 0 := by simp [sendE, hf, ht, hc]
  obtain ⟨rfl, rfl, rfl, rfl, rfl, rfl⟩ := r
  simp [sendNow, sendSent, sendCap, sendN, sendQ, hE, hf]
end Go.Ab

