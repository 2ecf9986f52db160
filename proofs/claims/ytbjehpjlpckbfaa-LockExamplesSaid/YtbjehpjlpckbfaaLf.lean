/- lock.Unpack. -/
import Derived.Test.YtbjehpjlpckbfaaLe
set_option linter.unusedSimpArgs false
set_option linter.unusedVariables false
set_option maxRecDepth 20000
set_option maxHeartbeats 4000000
namespace Go.Ab
open Go.Proofs
def getM (b : List Int) (at' n : Int) : Int := numM ((b.drop at'.toNat).take n.toNat)
theorem cGetT (nb : Option Bool) (b : List Int) (at' n : Int) (h : GETP b at' n) : PurS Try.prog 55 [injT (.sl tB) (nb, b), injT tI at', injT tI n] (.tup [.p (.v (.int .u64 (getM b at' n))), .p (iv 0)]) := cGet nb b at' n _ rfl h
def unpF (b : List Int) (to : Int) : tChoice.den := (getM b 0 24, (to, (getM b 24 2, getM b 26 20)))
def unpE (b : List Int) (to : Int) : Int := if b.length < 56 then 3 else if b.length > 56 then 4 else if bitsE b ≠ 0 then 2 else if getM b 46 10 ≠ 0 then 2 else lcheckM (unpF b to)
def unpC (b : List Int) (to : Int) : tChoice.den := if unpE b to = 0 then unpF b to else (0, (0, (0, 0)))
theorem BIT.of {b : List Int} (h0 : ∀ x ∈ b, 0 ≤ x) (h : bitsE b = 0) : BIT b := by
 unfold bitsE at h
 split at h
 · cases h
 · split at h
   · cases h
   · rename_i hb
     have key : ∀ l : List Int, (∀ x ∈ l, 0 ≤ x) → bigB l ≠ true → BIT l := by
       intro l
       induction l with
       | nil => intro _ _ x hx; cases hx
       | cons y l ih =>
         intro h0 hb
         simp only [bigB, ne_eq, Bool.or_eq_true, decide_eq_true_eq, not_or] at hb
         intro x hx
         rcases List.mem_cons.1 hx with rfl | hx
         · have := h0 x (by simp); omega
         · exact ih (fun z hz => h0 z (by simp [hz])) hb.2 x hx
     exact key b h0 hb
theorem getM_lt {b : List Int} (h : BIT b) {at' n : Int} : 0 ≤ getM b at' n ∧ getM b at' n < 2 ^ n.toNat := by
 have h1 := numM_lt (l := (b.drop at'.toNat).take n.toNat) fun x hx => h x (List.mem_of_mem_drop (List.mem_of_mem_take hx))
 have h2 : ((b.drop at'.toNat).take n.toNat).length ≤ n.toNat := by rw [List.length_take]; omega
 have h3 : (2 : Int) ^ ((b.drop at'.toNat).take n.toNat).length ≤ 2 ^ n.toNat := by
   have := Nat.pow_le_pow_right (n := 2) (by decide) h2
   have e1 : ((2 ^ ((b.drop at'.toNat).take n.toNat).length : Nat) : Int) = 2 ^ ((b.drop at'.toNat).take n.toNat).length := by rw [Int.natCast_pow]; rfl
   have e2 : ((2 ^ n.toNat : Nat) : Int) = 2 ^ n.toNat := by rw [Int.natCast_pow]; rfl
   omega
 unfold getM
 exact ⟨h1.1, by omega⟩
theorem cUnpack (nb : Option Bool) (b : List Int) (to e : Int) (c : tChoice.den) (hc : c = unpC b to) (he : e = unpE b to) (h0 : ∀ x ∈ b, 0 ≤ x) (hto : -9223372036854775808 ≤ to ∧ to ≤ 9223372036854775807) (hbl : b.length ≤ maxLen) : PurS Try.prog 30 [injT (.sl tB) (nb, b), injT tI to] (.tup [.agg [.p (iv c.1), .p (iv c.2.1), .p (uv c.2.2.1), .p (iv c.2.2.2)], .p (iv e)]) := by
 refine PurS.of (S := [(31, _), (53, _), (55, _)]) (T := []) (U := []) (tbl := [(54, ac54 none, [.tmp 4], 19)]) (n := 51) hm32 cfg (.cons (spT1.ok (a := (.pair (.int .i64) (.pair (.int .i64) (.pair (.int .u8) (.int .i64))))) (pre := fun _ => True) fun x0 _ => cLChk x0.1 x0.2.1 x0.2.2.1 x0.2.2.2) (.cons (spT1.ok (a := (.sl (.int .u8))) (pre := fun _ => True) fun x0 _ => cBits x0.1 x0.2) (.cons (spT3.ok (a := (.sl (.int .u8))) (b := (.int .i64)) (c := (.int .i64)) fun x0 x1 x2 h => cGetT x0.1 x0.2 x1 x2 h) .nil))) .nil .nil (.cons Try.call54 Try.func54 (ac54_ok none) (by rw [Try.ntmps54]; exact Nat.le_refl _) .nil) 6 Try.call30 Try.func30 (ac30_ok (some (0, 0))) (by rw [Try.ntmps30]; exact Nat.le_refl _) rfl ⟨_, rfl⟩ ?_
 intro cmp ar cv tn ic ai mx an ad ml sb mn ln em gt up ap sc vw cp rp p1 p2 s1 s2 X Y hX hY r0 r1 r2 r3 r4 r5 r6 r7 r8 r9 r10 r11 r12 r13 r14 r15 r16 r17 r18 r19 r20 r21 r22 r23 r24
 generalize hg0 : lcheckM = g0
 generalize hg1 : bitsE = g1
 generalize hg2 : getM = g2
 cbv
 obtain ⟨c1, c2, c3, c4⟩ : Int × Int × Int × Int := c
 simp only [maxLen] at hbl
 have hE : e = if b.length < 56 then 3 else if b.length > 56 then 4 else if g1 b ≠ 0 then 2 else if g2 b 46 10 ≠ 0 then 2 else g0 (unpF b to) := by rw [he, ← hg0, ← hg1, ← hg2]; rfl
 have hC : (c1, c2, c3, c4) = if e = 0 then (g2 b 0 24, to, g2 b 24 2, g2 b 26 20) else ((0 : Int), (0 : Int), (0 : Int), (0 : Int)) := by rw [hc, he, ← hg2]; rfl
 have hU : unpF b to = (g2 b 0 24, to, g2 b 24 2, g2 b 26 20) := by rw [← hg2]; rfl
 rw [hU] at hE
 have hlb : ∀ {x y : Int} {z w : Int}, (c1, c2, c3, c4) = (x, y, z, w) → c1 = x ∧ c2 = y ∧ c3 = z ∧ c4 = w := fun h => by simpa using h
 obtain ⟨q, hq⟩ : ∃ q : Int, q = b.length := ⟨_, rfl⟩
 have hln : ic (ln tB b) = q := by rw [r4, r12, hq]
 dsimp only
 rw [hln]
 have fin : ∀ x, e = x → x ≠ 0 → (0 = c1 ∧ 0 = c2 ∧ 0 = c3 ∧ 0 = c4 ∧ True) ∧ x = e ∧ True := fun x hx h => by
   rw [hx, if_neg h] at hC
   obtain ⟨h1, h2, h3, h4⟩ := hlb hC
   exact ⟨⟨h1.symm, h2.symm, h3.symm, h4.symm, trivial⟩, hx.symm, trivial⟩
 refine BR.lss r0 (fun hl => fin 3 (by rw [hE, if_pos (by omega)]) (by decide)) (fun hl => ?_)
 refine BR.gtr r0 (fun hl2 => fin 4 (by rw [hE, if_neg (by omega), if_pos (by omega)]) (by decide)) (fun hl2 => ?_)
 refine BR.neq r0 (fun hb => fin 2 (by rw [hE, if_neg (by omega), if_neg (by omega), if_pos hb]) (by decide)) (fun hb => ?_)
 have hb := Classical.not_not.1 hb
 have hbit : BIT b := BIT.of h0 (by rw [← hg1] at hb; exact hb)
 have ha1 : ar .add .i64 0 24 = 24 := by rw [r1]; rfl
 have ha2 : ar .add .i64 24 2 = 26 := by rw [r1]; rfl
 have ha3 : ar .add .i64 26 20 = 46 := by rw [r1]; rfl
 have ha4 : ar .sub .i64 56 46 = 10 := by rw [r1]; rfl
 have k1 : 0 ≤ g2 b 0 24 ∧ g2 b 0 24 < 16777216 := by rw [← hg2]; exact getM_lt hbit
 have k2 : 0 ≤ g2 b 24 2 ∧ g2 b 24 2 < 4 := by rw [← hg2]; exact getM_lt hbit
 have k3 : 0 ≤ g2 b 26 20 ∧ g2 b 26 20 < 1048576 := by rw [← hg2]; exact getM_lt hbit
 have k4 : 0 ≤ g2 b 46 10 ∧ g2 b 46 10 < 1024 := by rw [← hg2]; exact getM_lt hbit
 have hcv : ∀ x, 0 ≤ x → x < 16777216 → cv .i64 x = x := fun x h0 h1 => by rw [r2]; exact wrap64 (by omega) (by omega)
 have hcv8 : ∀ x, 0 ≤ x → x < 4 → cv .u8 x = x := fun x h0 h1 => by
   rw [r2]
   simp [IntKind.wrap, IntKind.signed, IntKind.bits]
   omega
 rw [ha1, ha2, ha3, ha4, hcv _ k1.1 k1.2, hcv _ k2.1 (by omega), hcv8 _ k2.1 k2.2, hcv _ k3.1 (by omega), hcv _ k4.1 (by omega)]
 refine ⟨⟨hbit, by omega, by decide, by decide, by decide, by omega⟩, ⟨hbit, by omega, by decide, by decide, by decide, by omega⟩, ⟨hbit, by omega, by decide, by decide, by decide, by omega⟩, ⟨hbit, by omega, by decide, by decide, by decide, by omega⟩, ?_⟩
 rw [if_neg (by omega), if_neg (by omega), if_neg (by rw [hb]; simp)] at hE
 refine BR.neq r0 (fun h => fin 2 (by rw [hE, if_pos h]) (by decide)) (fun h => ?_)
 rw [if_neg h] at hE
 refine BR.neq r0 (fun h => fin _ hE h) (fun h => ?_)
 have h := Classical.not_not.1 h
 rw [h] at hE
 rw [hE, if_pos rfl] at hC
 obtain ⟨q1, q2, q3, q4⟩ := hlb hC
 exact ⟨⟨q1.symm, q2.symm, q3.symm, q4.symm, trivial⟩, hE.symm, trivial⟩
end Go.Ab
