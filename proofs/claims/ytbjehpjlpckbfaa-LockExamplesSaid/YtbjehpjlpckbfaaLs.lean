/- LockOrder: equal, after. -/
import Derived.Test.YtbjehpjlpckbfaaLr
set_option linter.unusedSimpArgs false
set_option linter.unusedVariables false
set_option maxRecDepth 20000
set_option maxHeartbeats 8000000
namespace Go.Ab
open Go.Proofs
def eqK (a b : List LKV) : Bool := decide (a = b)
theorem cEqK (na : Option Bool) (a : List LKV) (nb : Option Bool) (b : List LKV) (h : Short 2000 a) : PurS Try.prog 21 [injT (.sl tLock) (na, a), injT (.sl tLock) (nb, b)] (.sb (eqK a b)) := by
 refine PurS.of (S := []) (T := []) (U := []) (tbl := []) (n := 26) hm32 cfg .nil .nil .nil .nil 0 Try.call21 Try.func21 (ac21_ok (some (0, 0))) (by rw [Try.ntmps21]; exact Nat.le_refl _) rfl ⟨_, rfl⟩ ?_
 intro cmp ar cv tn ic ai mx an ad ml sb mn ln em gt up ap sc vw cp rp p1 p2 s1 s2 X Y hX hY r0 r1 r2 r3 r4 r5 r6 r7 r8 r9 r10 r11 r12 r13 r14 r15 r16 r17 r18 r19 r20 r21 r22 r23 r24
 generalize hg0 : eqK = g0
 cbv
 have h := h.h
 have he0 : ∀ b, a.length ≠ b.length → g0 a b = false := fun b h => by rw [← hg0]; exact decide_eq_false (fun e => h (by rw [e]))
 have he1 : (a.drop 0 = b.drop 0 ↔ g0 a b = true) := by rw [← hg0]; simp [eqK]
 have hla : ic (ln tLock a) = a.length := by rw [r4, r12]
 have hlb : ic (ln tLock b) = b.length := by rw [r4, r12]
 rw [hla, hlb]
 refine BR.neq r0 (fun hc => (he0 b (by omega)).symm) (fun hc => ?_)
 have hab : a.length = b.length := by omega
 refine LOOP.ind (σ := Int) (fun i => [(0, .tl na tLock a), (1, .tl nb tLock b), (5, .p (iv i))]) (fun _ => ⟨[], []⟩) (fun i => (a.length - i).toNat) (fun i => 0 ≤ i ∧ i ≤ a.length ∧ (a.drop i.toNat = b.drop i.toNat ↔ g0 a b = true)) 0 ⟨by omega, by omega, he1⟩ (.inl ⟨rfl, rfl⟩) ?_
 intro i hI X' hX
 obtain ⟨hI1, hI2, hI3⟩ := hI
 have hd := fun h => drop_eq (t := tLock) (a := a) (b := b) (i := i) hI1 h hab
 have hend : ¬ i < a.length → g0 a b = true := fun h => hI3.1 (by rw [gtR_end h, gtR_end (by omega)])
 obtain ⟨⟨x1, x2, x3, x4⟩, hx⟩ : ∃ x : LKV, x = gt tLock a i := ⟨_, rfl⟩
 obtain ⟨⟨y1, y2, y3, y4⟩, hy⟩ : ∃ x : LKV, x = gt tLock b i := ⟨_, rfl⟩
 have hxy : gtR tLock a i = gtR tLock b i ↔ (x1 = y1 ∧ x2 = y2 ∧ x3 = y3 ∧ x4 = y4) := by
   rw [← r14, ← hx, ← hy]; simp
 have heq : ∀ x y z w x' y' z' w' : Int, an (cmp .eql x x') (an (cmp .eql y y') (an (cmp .eql z z') (an (cmp .eql w w') true))) = decide (x = x' ∧ y = y' ∧ z = z' ∧ w = w') := fun x y z w x' y' z' w' => by
   rw [r7, r0]; simp [cmpR]
 have hadd : i < a.length → ar .add .i64 i 1 = i + 1 := fun h => by rw [r1]; exact wrap64 (n := i + 1) (by omega) (by omega)
 have hf : ∀ q, q ≠ true → q = false := fun q h => by simpa using h
 have q : ∀ z1 z2 z3 z4 : Int, p1 tI (.pair tU (.pair tI tI)) (z1, z2, z3, z4) = z1 ∧ p1 tU (.pair tI tI) (p2 tI (.pair tU (.pair tI tI)) (z1, z2, z3, z4)) = z2 ∧ p1 tI tI (p2 tU (.pair tI tI) (p2 tI (.pair tU (.pair tI tI)) (z1, z2, z3, z4))) = z3 ∧ p2 tI tI (p2 tU (.pair tI tI) (p2 tI (.pair tU (.pair tI tI)) (z1, z2, z3, z4))) = z4 := fun _ _ _ _ => by rw [r21, r22]; exact ⟨rfl, rfl, rfl, rfl⟩
 obtain ⟨a1, a2, a3, a4⟩ := q x1 x2 x3 x4
 obtain ⟨b1, b2, b3, b4⟩ := q y1 y2 y3 y4
 clear q
 cbv
 try simp only [nc_eq] at *
 rw [← hx, ← hy, a1, a2, a3, a4, b1, b2, b3, b4, heq, hla, hlb]
 refine BR.lss r0 (fun hc => ⟨⟨hI1, hc⟩, ⟨hI1, hc⟩, ⟨hI1, by omega⟩, ⟨hI1, by omega⟩, BR.mk (fun h2 => ?_) (fun h2 => ?_)⟩) (fun hc => (hend hc).symm)
 · rw [hadd hc]
   exact NEXT.mk (hX _ _ _ ⟨by omega, by omega, by rw [← hI3, hd hc, hxy]; exact (and_iff_right (of_decide_eq_true h2)).symm⟩ (by show ((a.length : Int) - (i + 1)).toNat < ((a.length : Int) - i).toNat; omega) (.inl ⟨rfl, rfl⟩))
 · exact (hf _ fun h => (of_decide_eq_false h2) (hxy.1 ((hd hc).1 (hI3.2 h)).1)).symm
def chO (n : Int) : Int × Int × Int × Int := (7, (9, (n % 3, n)))
structure AFT (nums : List Int) (L : List tChoice.den) : Prop where
 l : L.length = nums.length
 n : nums.length ≤ 12
 g : ∀ i : Int, 0 ≤ i → i < nums.length → gtR tChoice L i = chO (gtR tI nums i)
 b : ∀ x ∈ nums, 1 ≤ x ∧ x ≤ 65536
end Go.Ab
