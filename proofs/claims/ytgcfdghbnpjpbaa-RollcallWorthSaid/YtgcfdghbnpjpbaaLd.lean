/- The reference's Worth. -/
import Derived.Test.YtgcfdghbnpjpbaaLc
set_option linter.unusedSimpArgs false
set_option linter.unusedVariables false
set_option maxRecDepth 20000
set_option maxHeartbeats 4000000
namespace Go.Ab
open Go.Proofs
theorem fndM_spec (b : Int) : ∀ (l : List DUE) (i : Int), (l.find? (fun x => decide (x.1 = b)) = none ∧ fndM b l i = -1) ∨ ∃ (k : Nat) (hk : k < l.length), fndM b l i = i + k ∧ l.find? (fun x => decide (x.1 = b)) = some l[k] ∧ l[k].1 = b
 | [], i => .inl ⟨rfl, rfl⟩
 | x :: l, i => by
   rw [List.find?_cons, fndM]
   by_cases h : x.1 = b
   · rw [decide_eq_true h, if_pos h]
     exact .inr ⟨0, by simp, by simp, rfl, h⟩
   · rw [decide_eq_false h, if_neg h]
     rcases fndM_spec b l (i + 1) with ⟨h1, h2⟩ | ⟨k, hk, h1, h2, h3⟩
     · exact .inl ⟨h1, h2⟩
     · exact .inr ⟨k + 1, by simp; omega, by rw [h1]; push_cast; omega, by simpa using h2, by simpa using h3⟩
structure FLG (F : List Bool) (l : List DUE) (dn : List Int) : Prop where
 n : F.length = l.length
 f : ∀ (k : Nat) (hk : k < l.length), F.getD k false = decide (l[k].1 ∈ dn)
def flgS (N : Nat) (F : List Bool) : StS := ⟨[{ cells := [.arr N .bool F], e := 4, fz := false, ap := true }], []⟩
theorem cRWorth (nl : Option Bool) (l : List DUE) (ns : Option Bool) (s : List ROW) (per sum e : Int) (hm : worM l s per = (sum, e)) (h : Short 2000 l) : PurS Try.prog 22 [injT (.sl tDue) (nl, l), injT (.sl tRow) (ns, s), injT tI per] (.tup [.p (iv sum), .p (iv e)]) := by
 refine PurS.of (S := [(16, _), (41, _)]) (T := []) (U := []) (tbl := []) (n := 86) hm15 cfg (.cons (spT1.ok (a := (.sl (.pair (.int .i64) (.pair (.int .i64) (.int .i64))))) fun x0 h => cRChk x0.1 x0.2 h) (.cons (spT2.ok (a := (.sl (.pair (.int .i64) (.pair (.int .i64) (.int .i64))))) (b := (.int .i64)) fun x0 x1 h => cFind x0.1 x0.2 x1 h) .nil)) .nil .nil .nil 0 Try.call22 Try.func22 (ac22_ok (some (0, 0))) (by rw [Try.ntmps22]; exact Nat.le_refl _) rfl ⟨_, rfl⟩ ?_
 intro cmp ar cv tn ic ai mx an ad ml sb mn ln em gt up ap sc vw cp rp p1 p2 s1 s2 X Y hX hY r0 r1 r2 r3 r4 r5 r6 r7 r8 r9 r10 r11 r12 r13 r14 r15 r16 r17 r18 r19 r20 r21 r22 r23 r24
 generalize hg0 : chkD = g0
 generalize hg1 : fndM = g1
 cbv
 have h' := h.h
 have hla : ic (ln tDue l) = l.length := by rw [r4, r12]
 have hls : ic (ln tRow s) = s.length := by rw [r4, r12]
 obtain ⟨N, hN⟩ : ∃ N : Int, N = l.length := ⟨_, rfl⟩
 obtain ⟨S, hS⟩ : ∃ S : Int, S = s.length := ⟨_, rfl⟩
 rw [hla, hls, ← hN, ← hS]
 have hck : ∀ z, z = g0 l → worM l s per = if z ≠ 0 then (0, z) else if per < 0 ∨ per > 64 then (0, 1) else if s.length > 64 then (0, 4) else worR l per s 0 [] 0 := fun z hz => by rw [hz, ← hg0]; rfl
 obtain ⟨ck, hck0⟩ : ∃ ck, ck = g0 l := ⟨_, rfl⟩
 have hck := hck ck hck0
 rw [hm] at hck
 show Short 2000 l ∧ BR (cmp BinOp.neq (g0 l) 0) (0 = sum ∧ g0 l = e ∧ True) _
 rw [← hck0]
 refine ⟨h, BR.neq r0 (fun h0 => ?_) fun h0 => ?_⟩
 · rw [if_pos h0] at hck
   injection hck with k1 k2
   exact ⟨k1.symm, k2.symm, trivial⟩
 rw [if_neg h0] at hck
 refine BR.lss r0 (fun h1 => ?_) fun h1 => BR.gtr r0 (fun h2 => ?_) fun h2 => BR.gtr r0 (fun h3 => ?_) fun h3 => ?_
 · rw [if_pos (by omega)] at hck
   injection hck with k1 k2
   exact ⟨k1.symm, k2.symm, trivial⟩
 · rw [if_pos (by omega)] at hck
   injection hck with k1 k2
   exact ⟨k1.symm, k2.symm, trivial⟩
 · rw [if_neg (by omega), if_pos (by omega)] at hck
   injection hck with k1 k2
   exact ⟨k1.symm, k2.symm, trivial⟩
 rw [if_neg (by omega), if_neg (by omega)] at hck
 have hD : DUES l := chkD_ok (by rw [hg0]; omega)
 clear hck0 h0 hm
 have hper : 0 ≤ per ∧ per ≤ 64 := by omega
 have hNb : 0 ≤ N ∧ N ≤ 64 := by have := hD.n; omega
 have hSb : 0 ≤ S ∧ S ≤ 64 := by omega
 have htn : tn N = l.length := by rw [r3, hN]; exact Int.toNat_natCast _
 refine ⟨MK_iff.2 (by omega), ?_⟩
 rw [htn]
 have hrp : (rp .bool l.length false : List Bool) = List.replicate l.length false := by rw [r20]
 have hFL : FLG (rp .bool l.length false) l [] := ⟨by rw [hrp]; simp, fun k hk => by rw [hrp]; simp [hk]⟩
 have hw : worR l per (s.drop (0 : Int).toNat) 0 [] 0 = (sum, e) := hck.symm
 clear hck ck
 obtain ⟨n, hn⟩ : ∃ n, n = l.length := ⟨_, rfl⟩
 obtain ⟨F, hF⟩ : ∃ F, F = rp .bool l.length false := ⟨_, rfl⟩
 rw [← hF] at hFL ⊢
 rw [← hn]
 clear hF hrp htn
 refine LOOP.ind (σ := Int × Int × List Bool × List Int) (fun (j, sm, F, dn) => [(0, .tl nl tDue l), (1, .tl ns tRow s), (2, .p (iv per)), (9, .p (iv sm)), (10, .ms 0 0 1 none n), (11, .p (iv j))])
   (fun (j, sm, F, dn) => flgS n F) (fun (j, sm, F, dn) => (S - j).toNat)
   (fun (j, sm, F, dn) => (0 ≤ j ∧ j ≤ S) ∧ (0 ≤ sm ∧ sm ≤ j * 67108864) ∧ FLG F l dn ∧ worR l per (s.drop j.toNat) j dn sm = (sum, e)) (0, 0, F, []) ⟨⟨by omega, by omega⟩, ⟨by omega, by omega⟩, hFL, hw⟩ (.inl ⟨rfl, rfl⟩) ?_
 clear hw hFL F
 intro ⟨j, sm, F, dn⟩ hI X' hX
 dsimp only at hI
 obtain ⟨⟨hI1, hI2⟩, ⟨hI3, hI4⟩, hL, hw⟩ := hI
 obtain ⟨⟨rn, r⟩, hx⟩ : ∃ x : ROW, x = gt tRow s j := ⟨_, rfl⟩
 have hgt : gtR tRow s j = (rn, r) := by rw [hx, r14]
 have q1 : s1 tI (rn, r) = rn := by rw [r23]
 have q2 : s2 tI (rn, r) = r := by rw [r24]
 have hlr : ic (ln tI r) = r.length := by rw [r4, r12]
 obtain ⟨R, hR⟩ : ∃ R : Int, R = r.length := ⟨_, rfl⟩
 have hR0 : 0 ≤ R := by omega
 rw [← hR] at hlr
 have hadd : j < S → ar .add .i64 j 1 = j + 1 := fun h => by rw [r1]; exact wrap64 (n := j + 1) (by omega) (by omega)
 obtain ⟨⟨We, Wd, Ws⟩, hW⟩ : ∃ W, worA l j r dn sm = W := ⟨_, rfl⟩
 have f1 : j < S → R > per → 0 = sum ∧ 17 = e := fun h h' => by
   rw [gtR_drop (t := tRow) hI1 (by omega), hgt, worR, if_pos (by show (r.length : Int) > per; omega)] at hw
   injection hw with k1 k2
   exact ⟨k1, k2⟩
 have f2 : j < S → ¬ R > per → We ≠ 0 → 0 = sum ∧ We = e := fun h h' h3 => by
   rw [gtR_drop (t := tRow) hI1 (by omega), hgt, worR, if_neg (by show ¬ (r.length : Int) > per; omega)] at hw
   dsimp only at hw
   rw [hW, if_pos h3] at hw
   injection hw with k1 k2
   exact ⟨k1, k2⟩
 have f3 : j < S → ¬ R > per → We = 0 → worR l per (s.drop (j + 1).toNat) (j + 1) Wd Ws = (sum, e) := fun h h' h3 => by
   rw [gtR_drop (t := tRow) hI1 (by omega), hgt, worR, if_neg (by show ¬ (r.length : Int) > per; omega)] at hw
   dsimp only at hw
   rw [hW, if_neg (by rw [h3]; exact fun h => h rfl)] at hw
   exact hw
 have f4 : ¬ j < S → sm = sum ∧ 0 = e := fun h => by
   rw [gtR_end (by omega), worR] at hw
   injection hw with k1 k2
   exact ⟨k1, k2⟩
 clear hw
 cbv
 try simp only [nc_eq] at *
 rw [hls, ← hS, ← hx, q2, hlr]
 refine BR.lss r0 (fun hc => ?_) fun hc => ?_
 rotate_left
 · obtain ⟨k1, k2⟩ := f4 hc
   exact ⟨k1, k2, trivial⟩
 have h1 : INB j S := ⟨hI1, hc⟩
 refine ⟨h1, h1, BR.gtr r0 (fun h => ?_) fun hper2 => ?_⟩
 · obtain ⟨k1, k2⟩ := f1 hc h
   exact ⟨k1, k2, trivial⟩
 have f2 := f2 hc hper2
 have f3 := f3 hc hper2
 clear f1 f4
 have hw : worA l j (r.drop (0 : Int).toNat) dn sm = (We, Wd, Ws) := hW
 have hX2 : ∀ F dn sm k, 0 ≤ k → k ≤ R → 0 ≤ sm → sm ≤ j * 67108864 + k * 1048576 → FLG F l dn → We = 0 → Wd = dn → Ws = sm → ∀ ρ st,
     SIMX 0 0 ρ st [(0, .tl nl tDue l), (1, .tl ns tRow s), (2, .p (iv per)), (9, .p (iv sm)), (10, .ms 0 0 1 none n), (11, .p (iv (j + 1)))] (flgS n F) → NEXT X' ρ st :=
   fun F dn sm k q1 q2 q3 q4 q6 q7 q8 q9 ρ st hs => by
     subst q8 q9
     exact NEXT.mk (hX (j + 1, Ws, F, Wd) _ _ ⟨⟨by show 0 ≤ j + 1; omega, by show j + 1 ≤ S; omega⟩, ⟨q3, by show Ws ≤ (j + 1) * 67108864; omega⟩, q6, f3 q7⟩ (by show (S - (j + 1)).toNat < (S - j).toNat; omega) hs)
 clear hX f3 hW
 refine LOOP.ind (σ := Int × Int × List Bool × List Int) (fun (k, sm, F, dn) => [(0, .tl nl tDue l), (1, .tl ns tRow s), (2, .p (iv per)), (9, .p (iv sm)), (10, .ms 0 0 1 none n), (11, .p (iv j)), (12, .p (iv k))])
   (fun (k, sm, F, dn) => flgS n F) (fun (k, sm, F, dn) => (R - k).toNat)
   (fun (k, sm, F, dn) => (0 ≤ k ∧ k ≤ R) ∧ (0 ≤ sm ∧ sm ≤ j * 67108864 + k * 1048576) ∧ FLG F l dn ∧ worA l j (r.drop k.toNat) dn sm = (We, Wd, Ws)) (0, sm, F, dn) ⟨⟨by omega, hR0⟩, ⟨hI3, by show sm ≤ j * 67108864 + 0 * 1048576; omega⟩, hL, hw⟩ (.inl ⟨rfl, rfl⟩) ?_
 clear hw hL hI3 hI4 sm dn F
 intro ⟨k, sm, F, dn⟩ hI X3 hX3
 dsimp only at hI
 obtain ⟨⟨hK1, hK2⟩, ⟨hI3, hI4⟩, hL, hw⟩ := hI
 obtain ⟨b, hb⟩ : ∃ x : Int, x = gt tI r k := ⟨_, rfl⟩
 have hgb : gtR tI r k = b := by rw [hb, r14]
 have haddk : k < R → ar .add .i64 k 1 = k + 1 := fun h => by rw [r1]; exact wrap64 (n := k + 1) (by omega) (by omega)
 have hadd := hadd hc
 have hrd : k < R → r.drop k.toNat = b :: r.drop (k + 1).toNat := fun h => by rw [← hgb]; exact gtR_drop (t := tI) hK1 (by omega)
 have g0' : ¬ k < R → We = 0 ∧ Wd = dn ∧ Ws = sm := fun h => by
   rw [gtR_end (by omega), worA] at hw
   injection hw with k1 k2
   injection k2 with k2 k3
   exact ⟨k1.symm, k2.symm, k3.symm⟩
 obtain ⟨p, hp⟩ : ∃ p, p = g1 b l 0 := ⟨_, rfl⟩
 obtain ⟨⟨v1, v2, v3⟩, hv⟩ : ∃ x : DUE, x = gt tDue l p := ⟨_, rfl⟩
 obtain ⟨fb, hfb⟩ : ∃ x : Bool, x = gt .bool F p := ⟨_, rfl⟩
 have hmk : ∀ ρ st, ¬ k < R → SIMX 0 0 ρ st [(0, .tl nl tDue l), (1, .tl ns tRow s), (2, .p (iv per)), (9, .p (iv sm)), (10, .ms 0 0 1 none n), (11, .p (iv (j + 1)))] (flgS n F) → NEXT X' ρ st := fun ρ st h hs => by
   obtain ⟨k1, k2, k3⟩ := g0' h
   exact hX2 F dn sm k hK1 hK2 hI3 hI4 hL k1 k2 k3 ρ st hs
 have key : k < R → (p < 0 ∧ We = 8) ∨ (0 ≤ p ∧ p < N ∧ (0 ≤ v3 ∧ v3 ≤ 1048576) ∧ (fb = true → We = 16) ∧ (fb = false → j > v2 → We = 12) ∧
     (fb = false → ¬ j > v2 → FLG (up .bool n F p true) l (b :: dn) ∧ worA l j (r.drop (k + 1).toNat) (b :: dn) (sm + v3) = (We, Wd, Ws))) := fun h => by
   rw [hrd h, worA] at hw
   rw [← hg1] at hp
   rcases fndM_spec b l 0 with ⟨h1, h2⟩ | ⟨q, hq, h1, h2, h3⟩
   · rw [h1] at hw
     injection hw with k1 k2
     exact .inl ⟨by omega, k1.symm⟩
   · rw [h2] at hw
     dsimp only at hw
     have hpq : p = (q : Int) := by omega
     have hlq : l[q] = (v1, v2, v3) := by rw [hv, r14, hpq]; simp [gtR, hq]
     have hnb := hD.b l[q] (List.getElem_mem hq)
     have hFq : fb = decide (b ∈ dn) := by
       rw [hfb, r14, hpq]
       have := hL.f q hq
       rw [h3] at this
       rw [← this]
       simp only [gtR, Int.toNat_natCast]
       rfl
     rw [hlq] at hw hnb h3
     dsimp only at hw h3
     unfold badD at hnb
     dsimp only at hnb
     refine .inr ⟨by omega, by omega, by omega, fun e1 => ?_, fun e1 e2 => ?_, fun e1 e2 => ?_⟩
     · rw [if_pos (of_decide_eq_true (hFq.symm.trans e1))] at hw
       injection hw with k1 k2
       exact k1.symm
     · rw [if_neg (of_decide_eq_false (hFq.symm.trans e1)), if_pos e2] at hw
       injection hw with k1 k2
       exact k1.symm
     · rw [if_neg (of_decide_eq_false (hFq.symm.trans e1)), if_neg e2] at hw
       refine ⟨⟨by rw [r15, upR, Ty.norm_eq _ (hL.n.trans hn.symm)]; simp [hL.n], fun i hi => ?_⟩, hw⟩
       rw [r15, hpq, upR, Ty.norm_eq _ (hL.n.trans hn.symm), Int.toNat_natCast]
       have hFn := hL.n
       by_cases e3 : i = q
       · subst e3
         rw [List.getD, List.getElem?_set_self (by omega), hlq]
         simp [h3]
       · rw [List.getD, List.getElem?_set_ne (by omega), ← List.getD, hL.f i hi]
         have : l[i].1 ≠ b := fun e4 => by
           rcases Nat.lt_or_gt_of_ne e3 with e5 | e5
           · exact nodup_idx hD.u e5 hq (by rw [e4, hlq, ← h3])
           · exact nodup_idx hD.u e5 hi (by rw [e4, hlq, ← h3])
         simp [this]
 clear hw hrd g0' hX2 hL hgb
 have hin : ic n = N := by rw [r4, hn, hN]
 have hq2 : p1 tI tI (p2 tI (.pair tI tI) (v1, v2, v3)) = v2 := by rw [r21, r22]
 have hq3 : p2 tI tI (p2 tI (.pair tI tI) (v1, v2, v3)) = v3 := by rw [r22]
 have hadd2 : 0 ≤ v3 ∧ v3 ≤ 1048576 → ar .add .i64 sm v3 = sm + v3 := fun h => by rw [r1]; exact wrap64 (n := sm + v3) (by omega) (by omega)
 cbv
 try simp only [nc_eq] at *
 rw [hls, ← hS, ← hx, q2, hlr, ← hb, ← hp, ← hv, ← hfb, hin, hq2, hq3, hla, ← hN]
 refine ⟨h1, h1, BR.lss r0 (fun hc2 => ?_) fun hc2 => ?_⟩
 rotate_left
 · rw [hadd]
   exact hmk _ _ hc2 (.inl ⟨rfl, rfl⟩)
 have h2 : INB k R := ⟨hK1, hc2⟩
 rw [haddk hc2]
 refine ⟨h1, h1, h2, h2, h, ?_⟩
 have fin : ∀ z, We = z → z ≠ 0 → 0 = sum ∧ z = e ∧ True := fun z h1 h2 => by
   obtain ⟨k1, k2⟩ := f2 (by omega)
   exact ⟨k1, by omega, trivial⟩
 rcases key hc2 with ⟨k1, k2⟩ | ⟨k1, k2, k3, k4, k5, k6⟩
 · exact BR.lss r0 (fun _ => fin 8 k2 (by omega)) fun h => absurd k1 h
 have h3 : INB p N := ⟨k1, k2⟩
 rw [hadd2 k3]
 refine BR.lss r0 (fun h => absurd k1 (by omega)) fun _ => ⟨h3, h3, BR.mk (fun e1 => fin 16 (k4 e1) (by omega)) fun e1 => ⟨h3, h3, BR.gtr r0 (fun e2 => fin 12 (k5 e1 e2) (by omega)) fun e2 => ?_⟩⟩
 obtain ⟨k7, k8⟩ := k6 e1 e2
 refine ⟨h3, h3, h3, h3, NEXT.mk (hX3 (k + 1, sm + v3, up .bool n F p true, b :: dn) _ _ ⟨⟨by show 0 ≤ k + 1; omega, by show k + 1 ≤ R; omega⟩, ⟨by show 0 ≤ sm + v3; omega, by show sm + v3 ≤ j * 67108864 + (k + 1) * 1048576; omega⟩, k7, k8⟩ (by show (R - (k + 1)).toNat < (R - k).toNat; omega) (.inr ⟨[some 0], [], ?_⟩))⟩
 rw [SIM_iff]; cbv
 simp [nlLe_self, lstEq]
end Go.Ab
