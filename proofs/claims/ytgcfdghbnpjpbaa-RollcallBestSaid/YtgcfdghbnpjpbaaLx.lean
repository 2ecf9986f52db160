/- fits and grows. -/
import Derived.Test.YtgcfdghbnpjpbaaLw
set_option linter.unusedSimpArgs false
set_option linter.unusedVariables false
set_option maxRecDepth 20000
set_option maxHeartbeats 8000000
namespace Go.Ab
open Go.Proofs
theorem wrapU {n : Int} (h0 : 0 ≤ n) (h1 : n < 18446744073709551616) : IntKind.u64.wrap n = n := by
 show n % 18446744073709551616 = n
 omega
theorem cFits (nl : Option Bool) (l : List DUE) (s cy per : Int) (h : Short 2000 l) (hb : 0 ≤ s ∧ (0 ≤ cy ∧ cy ≤ 64) ∧ 0 ≤ per ∧ per ≤ 64) : PurS Try.prog 23 [injT (.sl tDue) (nl, l), injT tI s, injT tI cy, injT tI per] (.sb (fitM l s cy per)) := by
 refine PurS.of (S := []) (T := []) (U := []) (tbl := []) (n := 49) hm15 cfg .nil .nil .nil .nil 0 Try.call23 Try.func23 (ac23_ok (some (0, 0))) (by rw [Try.ntmps23]; exact Nat.le_refl _) rfl ⟨_, rfl⟩ ?_
 intro cmp ar cv tn ic ai mx an ad ml sb mn ln em gt up ap sc vw cp rp p1 p2 s1 s2 X Y hX hY r0 r1 r2 r3 r4 r5 r6 r7 r8 r9 r10 r11 r12 r13 r14 r15 r16 r17 r18 r19 r20 r21 r22 r23 r24
 generalize hg0 : fitM = g0
 cbv
 have h' := h.h
 obtain ⟨z, hz⟩ : ∃ z, z = g0 l s cy per := ⟨_, rfl⟩
 rw [← hz]
 obtain ⟨L, hL⟩ : ∃ L : Int, L = l.length := ⟨_, rfl⟩
 have hla : ic (ln tDue l) = L := by rw [r4, r12, hL]
 refine LOOP.ind (σ := Int) (fun c => [(0, .tl nl tDue l), (1, .p (iv s)), (2, .p (iv cy)), (3, .p (iv per)), (9, .p (iv c))]) (fun _ => ⟨[], []⟩) (fun c => (cy - c).toNat)
   (fun c => (-1 ≤ c ∧ c ≤ cy) ∧ ∀ k : Nat, (k : Int) ≤ c → cntZ s cy ((k : Int) - 1) 0 l ≤ k * per) (-1) ⟨⟨by omega, by omega⟩, fun k hk => by omega⟩ (.inl ⟨rfl, rfl⟩) ?_
 intro c hI X' hX
 obtain ⟨⟨hc1, hc2⟩, hI⟩ := hI
 cbv
 try simp only [nc_eq] at *
 refine BR.lss r0 (fun hc => ?_) fun hc => by
   rw [hz, ← hg0]
   exact ((fitM_iff l s cy per).2 fun k hk => hI k (by omega)).symm
 obtain ⟨n0, hn0⟩ : ∃ n0, n0 = cntZ s cy c 0 l := ⟨_, rfl⟩
 have hbad : n0 > (c + 1) * per → false = z := fun hgt => by
   rw [hz, ← hg0, eq_comm, Bool.eq_false_iff]
   intro ht
   have := (fitM_iff l s cy per).1 ht (c + 1).toNat (by omega)
   rw [show (((c + 1).toNat : Nat) : Int) = c + 1 by omega, show c + 1 - 1 = c by omega, ← hn0] at this
   omega
 have hadc : ar .add .i64 c 1 = c + 1 := by rw [r1]; exact wrap64 (n := c + 1) (by omega) (by omega)
 have hmul : ar .mul .i64 (c + 1) per = (c + 1) * per := by
   have h1 : 0 ≤ (c + 1) * per := Int.mul_nonneg (by omega) (by omega)
   have h2 : (c + 1) * per ≤ 64 * 64 := Int.mul_le_mul (by omega) (by omega) (by omega) (by omega)
   rw [r1]; exact wrap64 (n := (c + 1) * per) (by omega) (by omega)
 have hsub : ar .sub .i64 cy 1 = cy - 1 := by rw [r1]; exact wrap64 (n := cy - 1) (by omega) (by omega)
 have hgo : ¬ n0 > (c + 1) * per → NEXT X' [(0, .tl nl tDue l), (1, .p (iv s)), (2, .p (iv cy)), (3, .p (iv per)), (9, .p (iv (c + 1)))] ⟨[], []⟩ := fun hle => by
   refine NEXT.mk (hX (c + 1) _ _ ⟨⟨by omega, by omega⟩, fun k hk => ?_⟩ (by omega) (.inl ⟨rfl, rfl⟩))
   by_cases hk' : (k : Int) ≤ c
   · exact hI k hk'
   · rw [show (k : Int) = c + 1 by omega, show c + 1 - 1 = c by omega, ← hn0]; omega
 clear hI hX
 refine LOOP.ind (σ := Int × Int) (fun (i, d) => [(0, .tl nl tDue l), (1, .p (iv s)), (2, .p (iv cy)), (3, .p (iv per)), (9, .p (iv c)), (10, .p (iv d)), (11, .p (iv i))]) (fun _ => ⟨[], []⟩) (fun (i, d) => (L - i).toNat)
   (fun (i, d) => (0 ≤ i ∧ i ≤ L) ∧ (0 ≤ d ∧ d ≤ i) ∧ d + cntZ s cy c i.toNat (l.drop i.toNat) = n0) (0, 0) ⟨⟨by omega, by omega⟩, ⟨by omega, by omega⟩, by rw [hn0]; show 0 + cntZ s cy c (0 : Int).toNat (l.drop (0 : Int).toNat) = _; simp⟩ (.inl ⟨rfl, rfl⟩) ?_
 intro ⟨i, d⟩ hJ X2 hX2
 dsimp only at hJ
 obtain ⟨⟨hi1, hi2⟩, ⟨hd1, hd2⟩, hJ⟩ := hJ
 obtain ⟨⟨a, la, w⟩, hx⟩ : ∃ x : DUE, x = gt tDue l i := ⟨_, rfl⟩
 have hst : i < L → l.drop i.toNat = (a, la, w) :: l.drop (i + 1).toNat := fun h => by rw [hx, r14]; exact gtR_drop (t := tDue) hi1 (by omega)
 have hend : ¬ i < L → d = n0 := fun h => by
   rw [← hJ, gtR_end (by omega)]; exact (Int.add_zero d).symm
 have q2 : p1 tI tI (p2 tI (.pair tI tI) (a, la, w)) = la := by rw [r21, r22]
 have hcv : i < L → cv .u64 i = i := fun h => by rw [r2]; exact wrapU (by omega) (by omega)
 obtain ⟨bt, hbt⟩ : ∃ bt, bt = bitZ s i.toNat := ⟨_, rfl⟩
 have hbit : ar .rem .i64 (ar .shr .i64 s i) 2 = bt := by rw [r1, hbt]; rfl
 have hmx : mx false la (cy - 1) = capI la cy := by rw [r6]; rfl
 obtain ⟨ca, hca⟩ : ∃ ca, ca = capI la cy := ⟨_, rfl⟩
 rw [← hca] at hmx
 have hadi : i < L → ar .add .i64 i 1 = i + 1 := fun h => by rw [r1]; exact wrap64 (n := i + 1) (by omega) (by omega)
 have hadd : i < L → ar .add .i64 d 1 = d + 1 := fun h => by rw [r1]; exact wrap64 (n := d + 1) (by omega) (by omega)
 have hnx : ∀ d' : Int, i < L → d' = d + (if bt = 1 ∧ ca ≤ c then 1 else 0) → NEXT X2 [(0, .tl nl tDue l), (1, .p (iv s)), (2, .p (iv cy)), (3, .p (iv per)), (9, .p (iv c)), (10, .p (iv d')), (11, .p (iv (i + 1)))] ⟨[], []⟩ := fun d' h e => by
   refine NEXT.mk (hX2 (i + 1, d') _ _ ⟨⟨by show 0 ≤ i + 1; omega, by show i + 1 ≤ L; omega⟩, ⟨?_, ?_⟩, ?_⟩ (by show (L - (i + 1)).toNat < (L - i).toNat; omega) (.inl ⟨rfl, rfl⟩))
   · show 0 ≤ d'
     rw [e]; split <;> omega
   · show d' ≤ i + 1
     rw [e]; split <;> omega
   · show d' + cntZ s cy c (i + 1).toNat (l.drop (i + 1).toNat) = n0
     rw [← hJ, hst h, cntZ, ← hbt, ← hca, show (i + 1).toNat = i.toNat + 1 by omega, e, Int.add_assoc]
 clear hX2 hJ hst
 cbv
 try simp only [nc_eq] at *
 rw [hla, ← hx, q2]
 refine BR.lss r0 (fun hil => ?_) fun hil => ?_
 · have hnx := fun d' => hnx d' hil
   rw [hcv hil, hbit, hsub, hmx, hadd hil, hadi hil]
   have hin : INB i L := ⟨hi1, hil⟩
   refine ⟨⟨hi1⟩, ⟨by decide⟩, BR.eql r0 (fun h1 => ⟨hin, hin, BR.leq r0 (fun h2 => hnx _ ?_) fun h2 => hnx _ ?_⟩) fun h1 => hnx _ ?_⟩
   · rw [if_pos ⟨h1, h2⟩]
   · rw [if_neg fun h => h2 h.2]; exact (Int.add_zero d).symm
   · rw [if_neg fun h => h1 h.1]; exact (Int.add_zero d).symm
 · rw [hend hil, hadc, hmul]
   exact BR.gtr r0 hbad hgo
end Go.Ab
