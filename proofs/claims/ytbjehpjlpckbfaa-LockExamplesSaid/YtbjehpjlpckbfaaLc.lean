/- bits.Get and bits.Put. -/
import Derived.Test.YtbjehpjlpckbfaaLb
set_option linter.unusedSimpArgs false
set_option linter.unusedVariables false
set_option maxRecDepth 20000
set_option maxHeartbeats 4000000
namespace Go.Ab
open Go.Proofs
def numM : List Int → Int
 | [] => 0
 | x :: l => x * 2 ^ l.length + numM l
def BIT (b : List Int) : Prop := ∀ x ∈ b, x = 0 ∨ x = 1
theorem numM_lt : ∀ {l : List Int}, BIT l → 0 ≤ numM l ∧ numM l < 2 ^ l.length
 | [], _ => by simp [numM]
 | x :: l, h => by
   have ih := numM_lt (l := l) fun y hy => h y (by simp [hy])
   have hp : (2 : Int) ^ (l.length + 1) = 2 * 2 ^ l.length := by rw [Int.pow_succ]; omega
   simp only [numM, List.length_cons, hp]
   rcases h x (by simp) with rfl | rfl <;> omega
def slc (b : List Int) (at' n a : Int) : List Int := (b.drop (at' + n - a).toNat).take a.toNat
theorem slc_zero (b : List Int) (at' n : Int) : slc b at' n 0 = [] := by simp [slc]
theorem slc_succ {b : List Int} {at' n a : Int} (h0 : 0 ≤ at') (h1 : at' + n ≤ b.length) (ha : 0 ≤ a) (hn : a < n) : slc b at' n (a + 1) = gtR tB b (at' + n - 1 - a) :: slc b at' n a := by
 unfold slc
 rw [show at' + n - (a + 1) = at' + n - 1 - a by omega, show (a + 1).toNat = a.toNat + 1 by omega, gtR_drop (t := tB) (l := b) (i := at' + n - 1 - a) (by omega) (by omega), List.take_succ_cons, show at' + n - 1 - a + 1 = at' + n - a by omega]
theorem slc_len {b : List Int} {at' n a : Int} (h0 : 0 ≤ at') (h1 : at' + n ≤ b.length) (ha : 0 ≤ a) (hn : a ≤ n) : (slc b at' n a).length = a.toNat := by
 unfold slc
 rw [List.length_take, List.length_drop]; omega
theorem slc_bit {b : List Int} (h : BIT b) (at' n a : Int) : BIT (slc b at' n a) := fun x hx => h x (List.mem_of_mem_drop (List.mem_of_mem_take hx))
theorem slc_all (b : List Int) (at' n : Int) : slc b at' n n = (b.drop at'.toNat).take n.toNat := by unfold slc; rw [show at' + n - n = at' by omega]
theorem or_nat {m a : Nat} {x : Nat} (hm : m < 2 ^ a) : (m ||| x * 2 ^ a) = m + x * 2 ^ a := by
 rw [Nat.mul_comm x, Nat.or_comm, ← Nat.two_pow_add_eq_or_of_lt hm, Nat.add_comm]
theorem pow_le {a : Nat} (h : a ≤ 62) : 2 ^ a ≤ 4611686018427387904 := Nat.pow_le_pow_right (by decide) h (n := 2)
theorem wrap_u64 {x : Int} (h0 : 0 ≤ x) (h1 : x < 18446744073709551616) : IntKind.wrap .u64 x = x := by
 simp [IntKind.wrap, IntKind.signed, IntKind.bits]
 exact Int.emod_eq_of_lt h0 h1
theorem orShl {v x a : Int} (ha : 0 ≤ a) (h62 : a ≤ 62) (hx : x = 0 ∨ x = 1) (h0 : 0 ≤ v) (h1 : v < 2 ^ a.toNat) : arR .or .u64 v (arR .shl .u64 (IntKind.wrap .u64 x) a) = v + x * 2 ^ a.toNat := by
 obtain ⟨k, rfl⟩ : ∃ k : Nat, a = k := ⟨a.toNat, by omega⟩
 obtain ⟨m, rfl⟩ : ∃ m : Nat, v = m := ⟨v.toNat, by omega⟩
 obtain ⟨y, rfl, hy⟩ : ∃ y : Nat, x = y ∧ y ≤ 1 := ⟨x.toNat, by omega, by omega⟩
 have hk : k ≤ 62 := by omega
 have hp := pow_le hk
 have h1' : m < 2 ^ k := by
   have : ((m : Nat) : Int) < ((2 ^ k : Nat) : Int) := by rw [Int.natCast_pow]; simpa using h1
   omega
 have e1 : IntKind.wrap .u64 ((y : Nat) : Int) = y := wrap_u64 (by omega) (by omega)
 have hyk : y * 2 ^ k ≤ 2 ^ k := by rcases Nat.le_one_iff_eq_zero_or_eq_one.1 hy with rfl | rfl <;> simp
 have e2 : arR .shl .u64 ((y : Nat) : Int) (k : Nat) = ((y * 2 ^ k : Nat) : Int) := by
   have hmin : min ((k : Nat) : Int).toNat (IntKind.bits .u64) = k := by
     rw [Int.toNat_natCast]; exact Nat.min_eq_left (Nat.le_trans hk (by decide))
   show IntKind.wrap .u64 ((y : Int) * 2 ^ min ((k : Nat) : Int).toNat (IntKind.bits .u64)) = _
   rw [hmin, show ((y : Int) * 2 ^ k) = ((y * 2 ^ k : Nat) : Int) by rw [Int.natCast_mul, Int.natCast_pow]; rfl]
   exact wrap_u64 (by omega) (by omega)
 rw [e1, e2]
 show IntKind.wrap .u64 ((BitVec.ofInt 64 ((m : Nat) : Int) ||| BitVec.ofInt 64 ((y * 2 ^ k : Nat) : Int)).toNat : Int) = _
 rw [BitVec.ofInt_natCast, BitVec.ofInt_natCast, BitVec.toNat_or, BitVec.toNat_ofNat, BitVec.toNat_ofNat, Nat.mod_eq_of_lt (by omega), Nat.mod_eq_of_lt (by omega), or_nat h1']
 rw [wrap_u64 (by omega) (by omega)]
 rw [Int.natCast_add, Int.natCast_mul, Int.natCast_pow, Int.toNat_natCast]
 rfl
theorem shlOne {a : Int} (ha : 0 ≤ a) (h62 : a ≤ 62) : arR .shl .u64 1 a = 2 ^ a.toNat := by
 obtain ⟨k, rfl⟩ : ∃ k : Nat, a = k := ⟨a.toNat, by omega⟩
 have hk : k ≤ 62 := by omega
 have hp := pow_le hk
 have hmin : min ((k : Nat) : Int).toNat (IntKind.bits .u64) = k := by
   rw [Int.toNat_natCast]; exact Nat.min_eq_left (Nat.le_trans hk (by decide))
 show IntKind.wrap .u64 (1 * 2 ^ min ((k : Nat) : Int).toNat (IntKind.bits .u64)) = _
 rw [hmin, Int.one_mul, show ((2 : Int) ^ k) = ((2 ^ k : Nat) : Int) by rw [Int.natCast_pow]; rfl, wrap_u64 (Int.natCast_nonneg _) (by omega), Int.toNat_natCast, Int.natCast_pow]; rfl
theorem bigB_bit : ∀ {b : List Int}, BIT b → bigB b = false
 | [], _ => rfl
 | x :: l, h => by
   have := bigB_bit (b := l) fun y hy => h y (by simp [hy])
   simp only [bigB, this, Bool.or_false, decide_eq_false_iff_not]
   rcases h x (by simp) with rfl | rfl <;> omega
structure GETP (b : List Int) (at' n : Int) : Prop where
 bt : BIT b
 l : b.length ≤ 128
 a : 0 ≤ at'
 n0 : 0 ≤ n
 n1 : n ≤ 62
 e : at' + n ≤ b.length
theorem GETP.fld {b : List Int} {at' n : Int} (h : GETP b at' n) : fldE b at' n = 0 := by
 have hb : bitsE b = 0 := by
   unfold bitsE
   rw [if_neg (by have := h.l; omega), bigB_bit h.bt]; rfl
 unfold fldE
 have := h.a; have := h.n0; have := h.n1; have := h.e
 rw [hb, if_neg (by simp), if_neg (by omega), if_neg (by omega)]
theorem cFldP (nb : Option Bool) (b : List Int) (at' n : Int) (h : GETP b at' n) : PurS Try.prog 63 [injT (.sl tB) (nb, b), injT tI at', injT tI n] (.p (iv 0)) := by
 have := cFld nb b at' n (Nat.le_trans h.l (by decide))
 rwa [h.fld] at this
theorem cGet (nb : Option Bool) (b : List Int) (at' n v : Int) (hv : v = numM ((b.drop at'.toNat).take n.toNat)) (h : GETP b at' n) : PurS Try.prog 55 [injT (.sl tB) (nb, b), injT tI at', injT tI n] (.tup [.p (.v (.int .u64 v)), .p (iv 0)]) := by
 refine PurS.of (S := [(63, _)]) (T := []) (U := []) (tbl := [(65, ac65 none, [.tmp 4], 6), (73, ac73 none, [], 20)]) (n := 33) hm32 cfg (.cons (spT3.ok (a := (.sl (.int .u8))) (b := (.int .i64)) (c := (.int .i64)) fun x0 x1 x2 h => cFldP x0.1 x0.2 x1 x2 h) .nil) .nil .nil (.cons Try.call65 Try.func65 (ac65_ok none) (by rw [Try.ntmps65]; exact Nat.le_refl _) (.cons Try.call73 Try.func73 (ac73_ok none) (by rw [Try.ntmps73]; exact Nat.le_refl _) .nil)) 6 Try.call55 Try.func55 (ac55_ok (some (0, 0)) (some (4, 0))) (by rw [Try.ntmps55]; exact Nat.le_refl _) rfl ⟨_, rfl⟩ ?_
 intro cmp ar cv tn ic ai mx an ad ml sb mn ln em gt up ap sc vw cp rp p1 p2 s1 s2 X Y hX hY r0 r1 r2 r3 r4 r5 r6 r7 r8 r9 r10 r11 r12 r13 r14 r15 r16 r17 r18 r19 r20 r21 r22 r23 r24
 cbv
 refine ⟨h, BR.mk (fun hc => absurd hc (by rw [r0]; decide)) fun _ => ?_⟩
 refine ALLY.mk fun y => ?_
 cbv
 obtain ⟨hbt, hl, ha0, hn0, hn1, he⟩ := h
 refine LOOP.ind (σ := Int × Int) (fun (w, a) => [(0, .fn (.yield y) [] []), (1, .ptr 3 0), (2, .ptr 2 0), (5, .p (iv n)), (6, .p (iv a))]) (fun (w, a) => ⟨[{ cells := [.tl nb tB b], e := 54, fz := false }, { cells := [.p (.v (.int .u64 w))], e := 94, fz := false }, { cells := [.p (iv at')], e := 3, fz := false }, { cells := [.p (iv n)], e := 3, fz := false }], []⟩) (fun (w, a) => (n - a).toNat)
   (fun (w, a) => 0 ≤ a ∧ a ≤ n ∧ w = numM (slc b at' n a)) (0, 0) (by show (0 : Int) ≤ 0 ∧ 0 ≤ n ∧ (0 : Int) = numM (slc b at' n 0); rw [slc_zero]; exact ⟨by omega, hn0, rfl⟩) (.inl ⟨rfl, rfl⟩) ?_
 intro ⟨w, a⟩ hI X' hX
 dsimp only at hI
 obtain ⟨hI1, hI2, hI3⟩ := hI
 obtain ⟨i, hi⟩ : ∃ i, i = at' + n - 1 - a := ⟨_, rfl⟩
 have hidx : a < n → ar .sub .i64 (ar .sub .i64 (ar .add .i64 at' n) 1) a = i := fun h => by
   rw [r1, hi]; simp only [arR]; rw [wrap64 (n := at' + n) (by omega) (by omega), wrap64 (n := at' + n - 1) (by omega) (by omega), wrap64 (by omega) (by omega)]
 obtain ⟨x, hx⟩ : ∃ x, x = gt tB b i := ⟨_, rfl⟩
 have hx01 : a < n → x = 0 ∨ x = 1 := fun h => by rw [hx, r14]; exact hbt _ (gtR_mem (t := tB) (by omega) (by omega))
 have hst : a < n → ar .or .u64 w (ar .shl .u64 (cv .u64 x) a) = numM (slc b at' n (a + 1)) := fun h => by
   have hlt := numM_lt (slc_bit hbt at' n a)
   have hlen := slc_len (b := b) ha0 he hI1 hI2
   rw [hlen] at hlt
   rw [r1, r2, hI3, orShl hI1 (by omega) (hx01 h) hlt.1 hlt.2, slc_succ ha0 he hI1 h, ← hi]
   rw [hx, r14] at *
   simp only [numM, hlen]
   omega
 have hend : ¬ a < n → w = v := fun h => by
   obtain rfl : a = n := by omega
   rw [hI3, hv, slc_all]
 have hgx : gt tB b i = x := hx.symm
 have hib : a < n → 0 ≤ i ∧ i < b.length := fun h => by omega
 clear hx
 cbv
 refine BR.lss r0 ?_ ?_ <;> intro hc
 · have hadd : ar .add .i64 a 1 = a + 1 := by rw [r1]; exact wrap64 (n := a + 1) (by omega) (by omega)
   have hb := hib hc
   rw [hidx hc, hgx, hst hc, hadd, r4, r12]
   have hnI : 0 ≤ a + 1 ∧ a + 1 ≤ n ∧ numM (slc b at' n (a + 1)) = numM (slc b at' n (a + 1)) := ⟨by omega, by omega, rfl⟩
   exact ⟨⟨hb.1, hb.2⟩, ⟨hb.1, hb.2⟩, ⟨hI1⟩, NEXT.mk (hX (_, _) _ _ hnI (by show (n - (a + 1)).toNat < (n - a).toNat; omega) (.inl ⟨rfl, rfl⟩))⟩
 · exact ⟨hend hc, trivial⟩
def encM (v : Int) : Nat → List Int
 | 0 => []
 | n + 1 => v / 2 ^ n % 2 :: encM v n
theorem encM_len (v : Int) : ∀ n, (encM v n).length = n
 | 0 => rfl
 | n + 1 => by simp [encM, encM_len v n]
theorem encM_bit (v : Int) : ∀ n, BIT (encM v n)
 | 0 => fun _ h => by cases h
 | n + 1 => fun x h => by
   rcases List.mem_cons.1 h with rfl | h
   · omega
   · exact encM_bit v n x h
def putB (b : List Int) (at' n v : Int) : List Int := b.take at'.toNat ++ encM v n.toNat ++ b.drop (at' + n).toNat
def putA (b : List Int) (at' n v a : Int) : List Int := b.take (at' + n - a).toNat ++ encM v a.toNat ++ b.drop (at' + n).toNat
theorem putA_zero {b : List Int} {at' n : Int} (v : Int) : putA b at' n v 0 = b := by
 unfold putA; simp [encM]
theorem putA_all (b : List Int) (at' n v : Int) : putA b at' n v n = putB b at' n v := by unfold putA putB; rw [show at' + n - n = at' by omega]
theorem putA_len {b : List Int} {at' n v a : Int} (h0 : 0 ≤ at') (h1 : at' + n ≤ b.length) (ha : 0 ≤ a) (hn : a ≤ n) : (putA b at' n v a).length = b.length := by
 unfold putA
 simp only [List.length_append, List.length_take, encM_len, List.length_drop]; omega
theorem putA_succ {b : List Int} {at' n v a : Int} (h0 : 0 ≤ at') (h1 : at' + n ≤ b.length) (ha : 0 ≤ a) (hn : a < n) : (putA b at' n v a).set (at' + n - 1 - a).toNat (v / 2 ^ a.toNat % 2) = putA b at' n v (a + 1) := by
 unfold putA
 have e1 : (at' + n - a).toNat = (at' + n - (a + 1)).toNat + 1 := by omega
 have hlt : (at' + n - (a + 1)).toNat < b.length := by omega
 have e2 : b.take (at' + n - a).toNat = b.take (at' + n - (a + 1)).toNat ++ [b[(at' + n - (a + 1)).toNat]] := by rw [e1, List.take_add_one, List.getElem?_eq_getElem hlt]; rfl
 have e3 : (b.take (at' + n - (a + 1)).toNat).length = (at' + n - 1 - a).toNat := by rw [List.length_take]; omega
 rw [e2, show (a + 1).toNat = a.toNat + 1 by omega, encM]
 simp only [List.append_assoc, List.singleton_append, List.cons_append, List.nil_append]
 rw [List.set_append_right _ _ (by omega), e3, Nat.sub_self, List.set_cons_zero]
theorem shrAnd {v a : Int} (ha : 0 ≤ a) (h62 : a ≤ 62) (h0 : 0 ≤ v) (h1 : v < 4611686018427387904) : IntKind.wrap .u8 (arR .and .u64 (arR .shr .u64 v a) 1) = v / 2 ^ a.toNat % 2 := by
 obtain ⟨k, rfl⟩ : ∃ k : Nat, a = k := ⟨a.toNat, by omega⟩
 obtain ⟨m, rfl⟩ : ∃ m : Nat, v = m := ⟨v.toNat, by omega⟩
 have hk : k ≤ 62 := by omega
 have e2 : arR .shr .u64 ((m : Nat) : Int) (k : Nat) = ((m / 2 ^ k : Nat) : Int) := by
   have hmin : min ((k : Nat) : Int).toNat (IntKind.bits .u64) = k := by
     rw [Int.toNat_natCast]; exact Nat.min_eq_left (Nat.le_trans hk (by decide))
   show Int.fdiv ((m : Nat) : Int) (2 ^ min ((k : Nat) : Int).toNat (IntKind.bits .u64)) = _
   rw [hmin, show ((2 : Int) ^ k) = ((2 ^ k : Nat) : Int) by rw [Int.natCast_pow]; rfl]
   rw [Int.fdiv_eq_ediv_of_nonneg _ (Int.natCast_nonneg _)]; rfl
 have hle : m / 2 ^ k ≤ m := Nat.div_le_self _ _
 rw [e2]
 show IntKind.wrap .u8 (IntKind.wrap .u64 ((BitVec.ofInt 64 ((m / 2 ^ k : Nat) : Int) &&& BitVec.ofInt 64 (1 : Int)).toNat : Int)) = _
 rw [BitVec.ofInt_natCast, show BitVec.ofInt 64 (1 : Int) = BitVec.ofNat 64 1 from rfl, BitVec.toNat_and, BitVec.toNat_ofNat, BitVec.toNat_ofNat, Nat.mod_eq_of_lt (by omega), show 1 % 2 ^ 64 = 1 from rfl, Nat.and_one_is_mod]
 rw [wrap_u64 (by omega) (by omega)]
 have : ((m : Int) / 2 ^ k % 2) = ((m / 2 ^ k % 2 : Nat) : Int) := by
   rw [Int.natCast_emod, Int.natCast_ediv, Int.natCast_pow]; rfl
 rw [Int.toNat_natCast, this]
 simp [IntKind.wrap, IntKind.signed, IntKind.bits]
 omega
end Go.Ab
