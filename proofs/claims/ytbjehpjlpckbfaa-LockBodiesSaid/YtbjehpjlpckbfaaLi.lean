/- The reference's Unpack. -/
import Derived.Test.YtbjehpjlpckbfaaLh
set_option linter.unusedSimpArgs false
set_option linter.unusedVariables false
set_option maxRecDepth 20000
set_option maxHeartbeats 4000000
namespace Go.Ab
open Go.Proofs
theorem numM_app : ∀ (l : List Int) (x : Int), numM (l ++ [x]) = 2 * numM l + x
  | [], x => by simp [numM]
  | y :: l, x => by
    have h : y * (2 * 2 ^ l.length) = 2 * (y * 2 ^ l.length) := by rw [← Int.mul_assoc, Int.mul_comm y 2, Int.mul_assoc]
    simp only [List.cons_append, numM, numM_app l x, List.length_append, List.length_singleton, Int.pow_succ, Int.mul_comm _ (2 : Int), h]
    omega
theorem getM_zero (b : List Int) (f : Int) : getM b f 0 = 0 := by simp [getM, numM]
theorem getM_succ {b : List Int} {f k : Int} (h0 : 0 ≤ f) (hk : 0 ≤ k) (h1 : f + k < b.length) : getM b f (k + 1) = 2 * getM b f k + gtR tB b (f + k) := by
  unfold getM
  have hlt : k.toNat < (b.drop f.toNat).length := by rw [List.length_drop]; omega
  rw [show (k + 1).toNat = k.toNat + 1 by omega, List.take_add_one, List.getElem?_eq_getElem hlt]
  simp only [Option.toList_some]
  rw [numM_app]
  congr 1
  have h2 : (f + k).toNat < b.length := by omega
  simp only [List.getElem_drop, gtR, List.getD, List.getElem?_eq_getElem h2, Option.getD_some]
  congr 1
  omega
structure NUMP (b : List Int) (f t : Int) : Prop where
  bt : BIT b
  f0 : 0 ≤ f
  ft : f ≤ t
  t1 : t ≤ b.length
  n : t - f ≤ 60
  l : b.length ≤ 1000
theorem cNum (nb : Option Bool) (b : List Int) (f t v : Int) (hv : v = getM b f (t - f)) (h : NUMP b f t) : PurS Try.prog 50 [injT (.sl tB) (nb, b), injT tI f, injT tI t] (.p (iv v)) := by
  refine PurS.of (S := []) (T := []) (U := []) (tbl := []) (n := 24) hm32 cfg .nil .nil .nil .nil 0 Try.call50 Try.func50 (ac50_ok (some (0, 0))) (by rw [Try.ntmps50]; exact Nat.le_refl _) rfl ⟨_, rfl⟩ ?_
  intro cmp ar cv tn ic ai mx an ad ml sb mn ln em gt up ap sc vw cp rp p1 p2 s1 s2 X Y hX hY r0 r1 r2 r3 r4 r5 r6 r7 r8 r9 r10 r11 r12 r13 r14 r15 r16 r17 r18 r19 r20 r21 r22 r23 r24
  cbv
  obtain ⟨hbt, hf0, hft, ht1, hn, hl⟩ := h
  refine LOOP.ind (σ := Int × Int) (fun (w, i) => [(0, .tl nb tB b), (2, .p (iv t)), (7, .p (iv w)), (8, .p (iv i))]) (fun _ => ⟨[], []⟩) (fun (w, i) => (t - i).toNat) (fun (w, i) => f ≤ i ∧ i ≤ t ∧ w = getM b f (i - f)) (0, f) (by dsimp only; rw [show f - f = 0 by omega, getM_zero]; exact ⟨by omega, hft, rfl⟩) (.inl ⟨rfl, rfl⟩) ?_
  intro ⟨w, i⟩ hI X' hX
  dsimp only at hI
  obtain ⟨hI1, hI2, hI3⟩ := hI
  have hw := getM_lt hbt (at' := f) (n := i - f)
  have hpw : (2 : Int) ^ (i - f).toNat ≤ 1152921504606846976 := by
    have := Nat.pow_le_pow_right (n := 2) (by decide) (show (i - f).toNat ≤ 60 by omega)
    have e2 : ((2 ^ (i - f).toNat : Nat) : Int) = 2 ^ (i - f).toNat := by rw [Int.natCast_pow]; rfl
    omega
  obtain ⟨x, hx⟩ : ∃ x : Int, x = gt tB b i := ⟨_, rfl⟩
  have hx01 : i < t → x = 0 ∨ x = 1 := fun h => by rw [hx, r14]; exact hbt _ (gtR_mem (t := tB) (by omega) (by omega))
  have hst : i < t → ar .add .i64 (ar .mul .i64 2 w) (cv .i64 x) = getM b f (i + 1 - f) := fun h => by
    have := hx01 h
    rw [show i + 1 - f = i - f + 1 by omega, getM_succ hf0 (by omega) (by omega), ← hI3, show f + (i - f) = i by omega]
    rw [← hI3] at hw
    rw [r1, r2]
    simp only [arR]
    rw [wrap64 (n := 2 * w) (by omega) (by omega), wrap64 (n := x) (by omega) (by omega), wrap64 (by omega) (by omega), hx, r14]
  have hend : ¬ i < t → w = v := fun h => by
    obtain rfl : i = t := by omega
    rw [hI3, hv]
  have hadd : i < t → ar .add .i64 i 1 = i + 1 := fun h => by rw [r1]; exact wrap64 (n := i + 1) (by omega) (by omega)
  have hln : ic (ln tB b) = b.length := by rw [r4, r12]
  cbv
  try simp only [nc_eq] at *
  refine BR.lss r0 (fun hc => ?_) (fun hc => hend hc)
  rw [← hx, hst hc, hadd hc, hln]
  have hnI : f ≤ i + 1 ∧ i + 1 ≤ t ∧ getM b f (i + 1 - f) = getM b f (i + 1 - f) := ⟨by omega, by omega, rfl⟩
  exact ⟨⟨by omega, by omega⟩, ⟨by omega, by omega⟩, NEXT.mk (hX (_, _) _ _ hnI (by show (t - (i + 1)).toNat < (t - i).toNat; omega) (.inl ⟨rfl, rfl⟩))⟩
end Go.Ab

