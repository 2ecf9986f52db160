/- bits.Put: the result is the caller's own. -/
import Derived.Test.YtbjehpjlpckbfaaLc
set_option linter.unusedSimpArgs false
set_option linter.unusedVariables false
set_option maxRecDepth 20000
set_option maxHeartbeats 4000000
namespace Go.Ab
open Go.Proofs
theorem OWD.nilT' {t : Ty} {e : TypeId} {l : List t.den} {d : DC} {bs : List BoxS} {st : StS} {y z : PD} (h : OWD t e l d bs) (hl : l = []) (hyz : y = z) (hy : flatP y = true) {x : DC} (hx : x = .p (.sl (some true) 0 [])) : OWNF (.tup [d, .p y]) bs (.tup [x, .p z]) st := by
 subst hyz; exact h.nilT hl hy hx
theorem OWD.msT' {t : Ty} {e : TypeId} {l m : List t.den} {d : DC} {bs : List BoxS} {st : StS} {y z : PD} (h : OWD t e l d bs) (hl : l = m) (hyz : y = z) {b n N : Nat} {ap : Bool} (h0 : m ≠ []) (hn : n = m.length) (hN : N = m.length) (hb : nthD st.box b = some { cells := [.arr N t m], e := e, fz := false, ap := ap }) (hz : e = e) (hf : (t.rows l).all flatP = true) (hy : flatP y = true) : OWNF (.tup [d, .p y]) bs (.tup [.ms b 0 t.size none n, .p z]) st := by
 subst hl hyz hN; exact h.msT h0 hn hb rfl rfl rfl hf hy
theorem cPut (b : List Int) (at' n v : Int) (R : List Int) (hR : R = putB b at' n v) (h : GETP b at' n) (hb1 : 1 ≤ b.length) (hv0 : 0 ≤ v) (hv1 : v < 2 ^ n.toNat) : OwnL Try.prog 52 ([injT (.sl tB) (some false, b), injT tI at', injT tI n, injT tV v]) (tB) 5 (R) (shT (iv 0)) := by
 refine OwnL.of fun d bs hD => OwnS.of (S := [(63, _)]) (T := []) (U := []) (tbl := [(64, ac64 none, [.tmp 2], 8), (65, ac65 none, [.tmp 4], 6), (73, ac73 none, [], 20)]) (n := 44) hm32 cfg (.cons (spT3.ok (a := (.sl (.int .u8))) (b := (.int .i64)) (c := (.int .i64)) fun x0 x1 x2 h => cFldP x0.1 x0.2 x1 x2 h) .nil) .nil .nil (.cons Try.call64 Try.func64 (ac64_ok none) (by rw [Try.ntmps64]; exact Nat.le_refl _) (.cons Try.call65 Try.func65 (ac65_ok none) (by rw [Try.ntmps65]; exact Nat.le_refl _) (.cons Try.call73 Try.func73 (ac73_ok none) (by rw [Try.ntmps73]; exact Nat.le_refl _) .nil))) 6 Try.call52 Try.func52 (ac52_ok (some (0, 0)) (some (6, 0))) (by rw [Try.ntmps52]; exact Nat.le_refl _) rfl _ _ ?_
 intro cmp ar cv tn ic ai mx an ad ml sb mn ln em gt up ap sc vw cp rp p1 p2 s1 s2 X Y hX hY r0 r1 r2 r3 r4 r5 r6 r7 r8 r9 r10 r11 r12 r13 r14 r15 r16 r17 r18 r19 r20 r21 r22 r23 r24
 cbv
 have hap : ap tB (vw tB 0 [] 0 0) b = b := by rw [r16, r18]; rfl
 have hN : ad 0 (ln tB b) = b.length := by rw [r8, r12]; simp
 refine ⟨h, BR.mk (fun hc => absurd hc (by rw [r0]; decide)) fun _ => ?_⟩
 obtain ⟨hbt, hl, ha0, hn0, hn1, he⟩ := h
 have hsh : ar .shl .u64 1 n = 2 ^ n.toNat := by rw [r1]; exact shlOne hn0 hn1
 refine BR.lss r0 (fun _ => ⟨⟨hn0⟩, BR.mk (fun hc => absurd hc (by rw [r0, hsh]; simp [cmpR]; omega)) fun _ => BR.mk (fun h => by cases h) fun _ => ?_⟩) (fun h => absurd (by omega) h)
 refine ⟨⟨Nat.le_refl _⟩, ⟨by rw [hN]; omega, by rw [hN]; simp [maxLen]; omega⟩, ?_⟩
 refine ALLY.mk fun y => ?_
 cbv
 rw [hap, hN]
 try simp only [nc_eq] at *
 obtain ⟨N, hNe⟩ : ∃ N, N = b.length := ⟨_, rfl⟩
 rw [← hNe]
 refine LOOP.ind (σ := List Int × Int) (fun (L, a) => [(0, .fn (.yield y) [] []), (1, .ptr 5 0), (2, .ptr 4 0), (5, .p (iv n)), (6, .p (iv a))]) (fun (L, a) => ⟨[{ cells := [.ms 3 0 1 none N], e := 54, fz := false }, { cells := [.p (.v (.int .u64 v))], e := 94, fz := false }, { cells := [], e := 5, fz := true, ap := true }, { cells := [.arr N tB L], e := 5, fz := false, ap := true }, { cells := [.p (iv at')], e := 3, fz := false }, { cells := [.p (iv n)], e := 3, fz := false }], []⟩) (fun (L, a) => (n - a).toNat)
   (fun (L, a) => 0 ≤ a ∧ a ≤ n ∧ L = putA b at' n v a) (b, 0) (by show (0 : Int) ≤ 0 ∧ 0 ≤ n ∧ b = putA b at' n v 0; rw [putA_zero]; exact ⟨by omega, hn0, rfl⟩) (.inl ⟨rfl, rfl⟩) ?_
 intro ⟨L, a⟩ hI X' hX
 dsimp only at hI
 obtain ⟨hI1, hI2, hI3⟩ := hI
 obtain ⟨i, hi⟩ : ∃ i, i = at' + n - 1 - a := ⟨_, rfl⟩
 have hidx : a < n → ar .sub .i64 (ar .sub .i64 (ar .add .i64 at' n) 1) a = i := fun h => by
   rw [r1, hi]; simp only [arR]; rw [wrap64 (n := at' + n) (by omega) (by omega), wrap64 (n := at' + n - 1) (by omega) (by omega), wrap64 (by omega) (by omega)]
 have hpw : (2 : Int) ^ n.toNat ≤ 4611686018427387904 := by
   have := pow_le (a := n.toNat) (by omega)
   have e : ((2 ^ n.toNat : Nat) : Int) = 2 ^ n.toNat := by rw [Int.natCast_pow]; rfl
   omega
 have hLl : L.length = N := by rw [hI3, hNe]; exact putA_len ha0 he hI1 hI2
 have hst : a < n → up tB N L i (cv .u8 (ar .and .u64 (ar .shr .u64 v a) 1)) = putA b at' n v (a + 1) := fun h => by
   rw [r15, r1, r2]
   show upR tB N L i (IntKind.wrap .u8 (arR .and .u64 (arR .shr .u64 v a) 1)) = _
   rw [shrAnd hI1 (by omega) hv0 (by omega)]
   unfold upR
   rw [Ty.norm_eq tB hLl, hI3, hi]
   exact putA_succ ha0 he hI1 h
 have hend : ¬ a < n → L = R := fun h => by
   obtain rfl : a = n := by omega
   rw [hI3, hR, putA_all]
 have hib : a < n → 0 ≤ i ∧ i < N := fun h => by omega
 cbv
 refine BR.lss r0 ?_ ?_ <;> intro hc
 · have hadd : ar .add .i64 a 1 = a + 1 := by rw [r1]; exact wrap64 (n := a + 1) (by omega) (by omega)
   have hb := hib hc
   rw [hidx hc, hst hc, hadd, r4]
   have hnI : 0 ≤ a + 1 ∧ a + 1 ≤ n ∧ putA b at' n v (a + 1) = putA b at' n v (a + 1) := ⟨by omega, by omega, rfl⟩
   exact ⟨⟨hI1⟩, ⟨hb.1, hb.2⟩, ⟨hb.1, hb.2⟩, NEXT.mk (hX (_, _) _ _ hnI (by show (n - (a + 1)).toNat < (n - a).toNat; omega) (.inl ⟨rfl, rfl⟩))⟩
 · refine hD.msT' (t := tB) (m := L) (hend hc).symm rfl (by intro e; rw [e] at hLl; simp at hLl; omega) hLl.symm hLl.symm rfl rfl (rows_int _) rfl
end Go.Ab
