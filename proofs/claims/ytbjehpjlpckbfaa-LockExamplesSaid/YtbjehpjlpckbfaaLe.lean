/- lock.Pack: the result is the caller's own. -/
import Derived.Test.YtbjehpjlpckbfaaLd
set_option linter.unusedSimpArgs false
set_option linter.unusedVariables false
set_option maxRecDepth 20000
set_option maxHeartbeats 4000000
namespace Go.Ab
open Go.Proofs
def argT4 (a b c d : Ty) : List DC → Option (a.den × b.den × c.den × d.den)
 | [x, y, z, w] => match getT a x, getT b y, getT c z, getT d w with | some x, some y, some z, some w => some (x, y, z, w) | _, _, _, _ => none
 | _ => none
theorem argT4.ok {a b c d : Ty} {Q : List DC → a.den × b.den × c.den × d.den → Prop} (hc : ∀ xs ys x, concL xs = concL ys → Q ys x → Q xs x) (h : ∀ x y z w, Q [injT a x, injT b y, injT c z, injT d w] (x, y, z, w)) : ∀ xs x, argT4 a b c d xs = some x → Q xs x := fun xs x hx => by
 unfold argT4 at hx
 split at hx
 · split at hx
   · rename_i h1 h2 h3 h4
     obtain rfl := Option.some.inj hx
     exact hc _ _ _ (by simp only [concL, getT_conc h1, getT_conc h2, getT_conc h3, getT_conc h4]) (h _ _ _ _)
   · cases hx
 · cases hx
structure PUTP (nb : Option Bool) (b : List Int) (at' n v : Int) : Prop where
 nb : nb = some false
 g : GETP b at' n
 l1 : 1 ≤ b.length
 v0 : 0 ≤ v
 v1 : v < 2 ^ n.toNat
theorem tPut : ∀ ds st K, spOwn (argT4 (.sl tB) tI tI tV) (fun x => PUTP x.1.1 x.1.2 x.2.1 x.2.2.1 x.2.2.2) tB 5 (fun x => putB x.1.2 x.2.1 x.2.2.1 x.2.2.2) (fun x => shT (iv 0)) OpsS.real 52 ds st K → FnS Try.prog 52 ds st K :=
 spOwn.ok (fun _ => shT.ok _ _) (argT4.ok (a := .sl tB) (b := tI) (c := tI) (d := tV) (Q := fun xs x => PUTP x.1.1 x.1.2 x.2.1 x.2.2.1 x.2.2.2 → OwnL Try.prog 52 xs tB 5 (putB x.1.2 x.2.1 x.2.2.1 x.2.2.2) (shT (iv 0))) (fun _ _ _ he h hp => (h hp).cong he) fun x y z w h => by
   obtain ⟨nb, b⟩ := x
   obtain ⟨h1, h2, h3, h4, h5⟩ := h
   obtain rfl : nb = some false := h1
   exact cPut b y z w _ rfl h2 h3 h4 h5)
def packL (c : tChoice.den) : List Int := encM c.1 24 ++ encM c.2.2.1 2 ++ encM c.2.2.2 20 ++ List.replicate 10 0
def packM (c : tChoice.den) : List Int := if lcheckM c = 0 then packL c else []
theorem putB_bit {b : List Int} (h : BIT b) (at' n v : Int) : BIT (putB b at' n v) := fun x hx => by
 unfold putB at hx
 rcases List.mem_append.1 hx with hx | hx
 · rcases List.mem_append.1 hx with hx | hx
   · exact h x (List.mem_of_mem_take hx)
   · exact encM_bit v _ x hx
 · exact h x (List.mem_of_mem_drop hx)
theorem putB_len {b : List Int} {at' n : Int} (v : Int) (h0 : 0 ≤ at') (hn : 0 ≤ n) (h1 : at' + n ≤ b.length) : (putB b at' n v).length = b.length := by
 unfold putB
 simp only [List.length_append, List.length_take, encM_len, List.length_drop]; omega
theorem pack_law (a se m : Int) : putB (putB (putB (List.replicate 56 0) 0 24 a) 24 2 se) 26 20 m = encM a 24 ++ encM se 2 ++ encM m 20 ++ List.replicate 10 0 := by rfl
theorem rep_bit (n : Nat) : BIT (List.replicate n 0) := fun x hx => .inl (List.eq_of_mem_replicate hx)
structure B56 (b : List Int) : Prop where
 l : b.length = 56
 b : BIT b
theorem B56.zero : B56 (List.replicate 56 0) := ⟨by simp, rep_bit 56⟩
theorem B56.put {b : List Int} (h : B56 b) {at' n v : Int} (h0 : 0 ≤ at') (hn : 0 ≤ n) (h1 : at' + n ≤ 56) : B56 (putB b at' n v) := ⟨by rw [putB_len v h0 hn (by rw [h.l]; exact h1), h.l], putB_bit h.b _ _ _⟩
theorem B56.ne {b : List Int} (h : B56 b) : b ≠ [] := fun e => by have := h.l; rw [e] at this; cases this
theorem B56.pre {b : List Int} (h : B56 b) {at' n v : Int} (h0 : 0 ≤ at') (hn : 0 ≤ n) (hn2 : n ≤ 62) (h1 : at' + n ≤ 56) (v0 : 0 ≤ v) (v1 : v < 2 ^ n.toNat) : PUTP (some false) b at' n v :=
 ⟨rfl, ⟨h.b, by rw [h.l]; decide, h0, hn, hn2, by rw [h.l]; exact h1⟩, by rw [h.l]; decide, v0, v1⟩
theorem lchk_ok {a t se m : Int} (h : lcheckM (a, (t, (se, m))) = 0) : 0 ≤ a ∧ a ≤ 16777215 ∧ 0 ≤ t ∧ t ≤ 16777215 ∧ a ≠ t ∧ se ≤ 2 ∧ 1 ≤ m ∧ m ≤ 1048575 := by
 unfold lcheckM at h
 dsimp only at h
 split at h
 · cases h
 · rename_i q1
   split at h
   · cases h
   · rename_i q2
     split at h
     · cases h
     · rename_i q3
       dsimp only [Ty.den] at *
       omega
theorem cPack (a t se m : Int) (R : List Int) (hse : 0 ≤ se) (hR : R = packM (a, (t, (se, m)))) : OwnL Try.prog 29 ([injT tChoice (a, (t, (se, m)))]) (tB) 5 (R) (shT (iv (lcheckM (a, (t, (se, m)))))) := by
 refine OwnL.of fun d bs hD => OwnS.of (S := [(31, _)]) (T := [(52, _)]) (U := []) (tbl := [(51, ac51 none, [], 18)]) (n := 29) hm32 cfg (.cons (spT1.ok (a := (.pair (.int .i64) (.pair (.int .i64) (.pair (.int .u8) (.int .i64))))) (pre := fun _ => True) fun x0 _ => cLChk x0.1 x0.2.1 x0.2.2.1 x0.2.2.2) .nil) (.cons tPut .nil) .nil (.cons Try.call51 Try.func51 (ac51_ok none) (by rw [Try.ntmps51]; exact Nat.le_refl _) .nil) 6 Try.call29 Try.func29 (ac29_ok (some (0, 0))) (by rw [Try.ntmps29]; exact Nat.le_refl _) rfl _ _ ?_
 intro cmp ar cv tn ic ai mx an ad ml sb mn ln em gt up ap sc vw cp rp p1 p2 s1 s2 X Y hX hY r0 r1 r2 r3 r4 r5 r6 r7 r8 r9 r10 r11 r12 r13 r14 r15 r16 r17 r18 r19 r20 r21 r22 r23 r24
 generalize hg0 : lcheckM = g0
 generalize hg1 : putB = g1
 cbv
 dsimp only
 have hE : lcheckM (a, (t, (se, m))) = g0 (a, (t, (se, m))) := by rw [hg0]
 have hR2 : R = if g0 (a, (t, (se, m))) = 0 then packL (a, (t, (se, m))) else [] := by rw [hR, ← hg0]; rfl
 obtain ⟨e, he⟩ : ∃ e, e = g0 (a, (t, (se, m))) := ⟨_, rfl⟩
 rw [← he] at hE hR2 ⊢
 clear he
 refine BR.neq r0 (fun hc => ?_) (fun hc => ?_)
 · exact hD.nilT' (by rw [hR2, if_neg hc]) rfl rfl rfl
 obtain rfl : e = 0 := Classical.not_not.1 hc
 obtain ⟨h1, h2, h3, h4, h5, h6, h7, h8⟩ := lchk_ok hE
 have htn : tn 56 = 56 := by rw [r3]; rfl
 have hrp : rp tB 56 0 = List.replicate 56 0 := by rw [r20]
 have hcva : cv .u64 a = a := by rw [r2]; exact wrap_u64 (by omega) (by omega)
 have hcvs : cv .i64 se = se := by rw [r2]; exact wrap64 (by omega) (by omega)
 have hcvs2 : cv .u64 se = se := by rw [r2]; exact wrap_u64 (by omega) (by omega)
 have hcvm : cv .u64 m = m := by rw [r2]; exact wrap_u64 (by omega) (by omega)
 have hvw : ∀ (N : Nat) (L : List Int), L.length = N → vw tB N L 0 N = L := fun N L h => by rw [r18]; exact vw_all (t := tB) h
 have ha1 : ar .add .i64 0 24 = 24 := by rw [r1]; rfl
 have ha2 : ar .add .i64 24 2 = 26 := by rw [r1]; rfl
 have hz := B56.zero
 obtain ⟨Z, hZ⟩ : ∃ Z : List Int, Z = List.replicate 56 0 := ⟨_, rfl⟩
 rw [← hZ] at hrp hz
 rw [htn, hrp, hvw 56 Z hz.l, hcva]
 obtain ⟨B1, hB1⟩ : ∃ B, B = g1 Z 0 24 a := ⟨_, rfl⟩
 have hb1 : B56 B1 := by rw [hB1, ← hg1]; exact hz.put (by decide) (by decide) (by decide)
 refine ⟨⟨by decide, by decide, by decide, by decide⟩, ⟨⟨by rw [r8]; decide⟩, trivial⟩, hz.pre (by decide) (by decide) (by decide) (by decide) h1 (by show a < 2 ^ 24; omega), OWNK.mk (fun h0 => absurd h0 (by rw [← hB1]; exact hb1.ne)) fun N hne hN => ?_⟩
 rw [← hB1] at hN ⊢
 cbv
 dsimp only
 rw [hvw N B1 hN.symm, ha1, hcvs, hcvs2]
 obtain ⟨B2, hB2⟩ : ∃ B, B = g1 B1 24 2 se := ⟨_, rfl⟩
 have hb2 : B56 B2 := by rw [hB2, ← hg1]; exact hb1.put (by decide) (by decide) (by decide)
 refine ⟨⟨⟨by rw [r8]; show 0 + N ≤ N; omega⟩, trivial⟩, hb1.pre (by decide) (by decide) (by decide) (by decide) hse (by show se < 2 ^ 2; omega), OWNK.mk (fun h0 => absurd h0 (by rw [← hB2]; exact hb2.ne)) fun N2 hne2 hN2 => ?_⟩
 rw [← hB2] at hN2 ⊢
 cbv
 dsimp only
 rw [hvw N2 B2 hN2.symm, ha2, hcvm]
 obtain ⟨B3, hB3⟩ : ∃ B, B = g1 B2 26 20 m := ⟨_, rfl⟩
 have hb3 : B56 B3 := by rw [hB3, ← hg1]; exact hb2.put (by decide) (by decide) (by decide)
 refine ⟨⟨⟨by rw [r8]; show 0 + N2 ≤ N2; omega⟩, trivial⟩, hb2.pre (by decide) (by decide) (by decide) (by decide) (by omega) (by show m < 2 ^ 20; omega), OWNK.mk (fun h0 => absurd h0 (by rw [← hB3]; exact hb3.ne)) fun N3 hne3 hN3 => ?_⟩
 rw [← hB3] at hN3 ⊢
 cbv
 refine hD.msT' (t := tB) (m := B3) ?_ rfl hb3.ne hN3 hN3 rfl rfl (rows_int _) rfl
 rw [hR2, if_pos rfl, hB3, hB2, hB1, hZ, ← hg1]
 exact (pack_law a se m).symm
end Go.Ab
