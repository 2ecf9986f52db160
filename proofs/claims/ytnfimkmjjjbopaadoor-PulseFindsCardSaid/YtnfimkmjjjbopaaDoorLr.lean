/- The reference: Starts, Read. -/
import Derived.Test.YtnfimkmjjjbopaaDoorLo
set_option linter.unusedSimpArgs false
set_option linter.unusedVariables false
set_option maxRecDepth 20000
set_option maxHeartbeats 4000000
namespace Go.Ab
open Go.Proofs
theorem rst_eq {t : List Int} {n : Int} (h : chkE t = 0) : rstM t n = stMp (fun x => t.contains x) n := by
  have hb : ∀ x, t.contains x = true → x < 1024 := fun x hx => (chkE_rng h x (by simpa using hx)).2
  rw [Bool.eq_iff_iff]
  simp only [rstM, hasM, stMp, List.all_cons, List.all_nil, Bool.and_eq_true, decide_eq_true_eq, Bool.and_true]
  constructor
  · rintro ⟨h1, h2, h3, h4⟩
    exact ⟨⟨by have := hb _ h1; omega, by rw [Int.add_zero]; exact h1⟩, ⟨hb _ h2, h2⟩, ⟨hb _ h3, h3⟩, hb _ h4, h4⟩
  · rintro ⟨⟨_, h1⟩, ⟨_, h2⟩, ⟨_, h3⟩, _, h4⟩
    exact ⟨by rw [Int.add_zero] at h1; exact h1, h2, h3, h4⟩
structure SRT (t : List Int) (n : Int) : Prop where
  a : Short 2000 t
  b : INB n 2000
theorem cStart0RT (nt : Option Bool) (t : List Int) (n : Int) (h : SRT t n) : PurS Tryd.prog 43 [injT (.sl tI) (nt, t), injT tI n] (.sb (rstM t n)) := cStart0R nt t n h.a h.b
def staP (t : List Int) (l : List Int) : List Int := l.filter (rstM t)
theorem staP_cons {t : List Int} {x : Int} {l : List Int} : staP t (x :: l) = if rstM t x then x :: staP t l else staP t l := by
  unfold staP; rw [List.filter_cons]
theorem cStartsR (nt : Option Bool) (t T : List Int) (e : Int) (hT : T = staT t) (he : e = staE t) (h : Short 2000 t) : PurS Tryd.prog 26 [injT (.sl tI) (nt, t)] (.tup [.tl none tI T, .p (iv e)]) := by
  refine PurS.of (S := [(23, _), (43, _)]) (T := []) (tbl := []) (n := 32) hmD cfg (.cons (spT1.ok (a := (.sl (.int .i64))) fun x0 h => cChkR x0.1 x0.2 h) (.cons (spT2.ok (a := (.sl (.int .i64))) (b := (.int .i64)) fun x0 x1 h => cStart0RT x0.1 x0.2 x1 h) .nil)) .nil .nil 0 Tryd.call26 Tryd.func26 (ac26_ok (some (0, 0))) (by rw [Tryd.ntmps26]; exact Nat.le_refl _) rfl ⟨_, rfl⟩ ?_
  intro cmp ar cv tn ic ai mx an ad ml sb mn ln em gt up ap sc vw cp rp p1 p2 s1 s2 X Y hX hY r0 r1 r2 r3 r4 r5 r6 r7 r8 r9 r10 r11 r12 r13 r14 r15 r16 r17 r18 r19 r20 r21 r22 r23 r24
  generalize hg0 : chkE = g0
  generalize hg1 : rstM = g1
  cbv
  have hl := h.h
  have hn : nlLe (some true) none := by simp [nlLe_none]
  have hn2 : nlLe none none := by simp [nlLe_none]
  have hc : chkE t ≠ 0 → staT t = [] := fun h => by rw [staT, if_pos (by rw [staE_eq]; exact h)]
  have hc2 : chkE t = 0 → staT t = staP t t := fun h => by rw [staT_eq h, staP]; exact List.filter_congr fun x _ => (rst_eq h).symm
  have hc3 := staE_eq (t := t)
  have hcb : chkE t = 0 → ∀ x ∈ t, INB x 2000 := fun h x hx => by have := chkE_rng h x hx; exact ⟨this.1, by omega⟩
  have hst : ∀ i : Int, 0 ≤ i → i < t.length → staP t (t.drop i.toNat) = if rstM t (gtR tI t i) then gtR tI t i :: staP t (t.drop (i + 1).toNat) else staP t (t.drop (i + 1).toNat) := fun i h0 h1 => by
    rw [gtR_drop (t := tI) h0 h1, staP_cons]
  have hse : ∀ i : Int, ¬ i < t.length → staP t (t.drop i.toNat) = [] := fun i h => by rw [gtR_end h]; rfl
  rw [hg0] at hc hc2 hc3 hcb
  rw [hg1] at hst
  repeat' (first | exact True.intro | refine And.intro ?_ ?_ | (refine BR.mk ?_ ?_ <;> intro _) | (refine CASE.mk ?_; intro _) | refine NEXT.mk (hX _ _ _ ?_ ?_ (.inl ⟨rfl, rfl⟩)))
  all_goals first | (show LOOP _ _ _ _ _ _; skip) | (clear hX; subst_vars; (all_goals try simp only [Short_iff, cmpR, arR, mxR, INB_iff, SLB_iff, SLM_iff, NZ_iff, NN_iff, EQN_iff, LEN_iff, LIM_iff, MK_iff, decide_eq_true_eq, decide_eq_false_iff_not, ne_eq, Bool.and_eq_true, cmpR] at *); (all_goals try dsimp only [Ty.den] at *); (all_goals try simp only [nc_eq] at *); (all_goals try (simp (disch := omega) only [wrap64] at *)); all_goals grind)
  have hc0 : g0 t = 0 := by have h := ‹cmp .neq (g0 (nt, t).snd) 0 = false›; rw [r0] at h; simpa [cmpR] using h
  have hT1 := hc2 hc0
  have hcb := hcb hc0
  obtain ⟨M, hM⟩ : ∃ M, M = staT t := ⟨_, rfl⟩
  rw [← hM] at hT1 hT
  clear hc hc2 hM hX
  refine LOOP.ind (σ := List Int × Int) (fun (O, i) => [(0, .tl nt tI t), (5, .og 0 tI O), (6, .p (iv i))]) (fun (O, i) => ⟨[], [(ml (ln tI O) 1, 3)]⟩) (fun (O, i) => (t.length - i).toNat)
    (fun (O, i) => 0 ≤ i ∧ i ≤ t.length ∧ O.length ≤ i ∧ O ++ staP t (t.drop i.toNat) = M) ([], 0) ⟨by omega, by show (0 : Int) ≤ _; omega, by simp, by rw [hT1]; rfl⟩ (.inr ⟨[], [none], ?_⟩) ?_
  · rw [SIM_iff]; cbv; simp [nlLe_self]
  intro ⟨O, i⟩ hI X' hX
  dsimp only at hI
  obtain ⟨hI1, hI2, hI3, hI4⟩ := hI
  obtain ⟨x, hx⟩ : ∃ x : Int, x = gt tI t i := ⟨_, rfl⟩
  have hx1 : x = gtR tI t i := by rw [hx, r14]
  have hsr : i < t.length → SRT t x := fun h1 => ⟨⟨hl⟩, hcb x (by rw [hx1]; exact gtR_mem (t := tI) hI1 h1)⟩
  have hst := hst i hI1
  rw [← hx1] at hst
  have hse := hse i
  clear hcb hx1 hT1
  cbv
  rw [← hx]
  clear hx
  repeat' (first | exact True.intro | refine And.intro ?_ ?_ | (refine BR.mk ?_ ?_ <;> intro _) | (refine CASE.mk ?_; intro _) | refine NEXT.mk (hX (_, _) _ _ ?_ ?_ (.inl ⟨rfl, rfl⟩)))
  all_goals clear hX
  all_goals subst_vars
  all_goals try simp only [Short_iff, cmpR, arR, mxR, INB_iff, SLB_iff, SLM_iff, NZ_iff, NN_iff, EQN_iff, LEN_iff, LIM_iff, MK_iff, decide_eq_true_eq, decide_eq_false_iff_not, ne_eq, Bool.and_eq_true] at *
  all_goals try dsimp only [Ty.den] at *
  all_goals try simp only [nc_eq] at *
  all_goals try (simp (disch := omega) only [wrap64] at *)
  all_goals first | exact nlLe_none.2 trivial | grind
def reaQ (t : List Int) (n : Int) (m : Int) : Int := if chkE t ≠ 0 then chkE t else if n < 0 ∨ n > 1008 - 2 * m then 7 else if rstM t n = false then 9 else if okP (fun x => hasM t x) n m.toNat 0 = false then 9 else 0
theorem reaQ_eq {t : List Int} {n : Int} {lg : Bool} : reaE t n lg = reaQ t n (reaM lg) := by
  rw [reaE_eq, reaP, reaQ]
  by_cases hc : chkE t = 0
  · rw [if_neg (c := chkE t ≠ 0) (by simp [hc]), if_neg (c := chkE t ≠ 0) (by simp [hc]), rst_eq hc]; rfl
  · rw [if_pos hc, if_pos hc]
structure SRN (t : List Int) (n : Int) : Prop where
  h : n < 0 ∨ n > 1023 ∨ SRT t n
theorem cReadRS (nt : Option Bool) (t B : List Int) (n a e : Int) (lg : Bool) (hB : B = reaB t n false) (ha : a = reaN t n false) (he : e = reaE t n false) (h : Short 2000 t) : PurS Tryd.prog 28 [injT (.sl tI) (nt, t), injT tI n, .p (.v (.bool false))] (.tup [.agg [.p (iv a), .tl none tB B], .p (iv e)]) := by
  refine PurS.of (S := [(23, _), (43, _), (40, _)]) (T := []) (tbl := []) (n := 88) hmD cfg (.cons (spT1.ok (a := (.sl (.int .i64))) fun x0 h => cChkR x0.1 x0.2 h) (.cons (spT2.ok (a := (.sl (.int .i64))) (b := (.int .i64)) fun x0 x1 h => cStart0RT x0.1 x0.2 x1 h) (.cons (spT2.ok (a := (.sl (.int .i64))) (b := (.int .i64)) fun x0 x1 h => cOn x0.1 x0.2 x1 h) .nil))) .nil .nil 0 Tryd.call28 Tryd.func28 (ac28_ok (some (0, 0))) (by rw [Tryd.ntmps28]; exact Nat.le_refl _) rfl ⟨_, rfl⟩ ?_
  intro cmp ar cv tn ic ai mx an ad ml sb mn ln em gt up ap sc vw cp rp p1 p2 s1 s2 X Y hX hY r0 r1 r2 r3 r4 r5 r6 r7 r8 r9 r10 r11 r12 r13 r14 r15 r16 r17 r18 r19 r20 r21 r22 r23 r24
  generalize hg0 : chkE = g0
  generalize hg1 : rstM = g1
  generalize hg2 : hasM = g2
  cbv
  have hl := h.h
  have hn1 : nlLe (some true) none := by simp [nlLe_none]
  have hn2 : nlLe none none := by simp [nlLe_none]
  obtain ⟨OK, hOK⟩ : ∃ OK : Int → Bool, OK = fun k => okP (fun x => hasM t x) n (56 - k).toNat k := ⟨_, rfl⟩
  obtain ⟨BI, hBI⟩ : ∃ BI : Int → List Int, BI = fun k => biP (fun x => hasM t x) n (56 - k).toNat k := ⟨_, rfl⟩
  have hE : e = if chkE t ≠ 0 then chkE t else if n < 0 ∨ n > 1008 - 2 * 56 then 7 else if rstM t n = false then 9 else if OK 0 = false then 9 else 0 := by rw [he, hOK]; exact reaQ_eq
  have hA : a = if e ≠ 0 then 0 else n := by rw [ha, he]; rfl
  have hB' : B = if e ≠ 0 then [] else BI 0 := by
    rw [hB, he, hBI]
    split
    · rename_i h; rw [reaB, if_pos h]
    · rename_i h; rw [reaB_eq (by simpa using h)]; rfl
  have hok : ∀ k : Int, 0 ≤ k → k < 56 → OK k = ((hasM t (n + 16 + 2 * k) || hasM t (n + 16 + 2 * k + 1)) && OK (k + 1)) := fun k h0 h1 => by
    rw [hOK]; simp only [show (56 - k).toNat = (56 - (k + 1)).toNat + 1 by omega, okP, biPO]
  have hbi : ∀ k : Int, 0 ≤ k → k < 56 → BI k = (if hasM t (n + 16 + 2 * k) then (if hasM t (n + 16 + 2 * k + 1) then 2 else 1) else 0) :: BI (k + 1) := fun k h0 h1 => by
    rw [hBI]; simp only [show (56 - k).toNat = (56 - (k + 1)).toNat + 1 by omega, biP, biPV]
  have hok1 : OK 56 = true := by rw [hOK]; rfl
  have hbi1 : BI 56 = [] := by rw [hBI]; rfl
  clear hOK hBI he ha hB
  rw [hg0, hg1] at hE
  simp only [hg2] at hok hbi
  obtain ⟨w1, hw1⟩ : ∃ w : Int, w = ar .add .i64 (ar .add .i64 n 15) (ar .mul .i64 2 56) := ⟨_, rfl⟩
  have hw1v : 0 ≤ n → n ≤ 1023 → w1 = n + 15 + 2 * 56 := fun h0 h1 => by
    have e1 : ar .add .i64 n 15 = n + 15 := by rw [r1]; exact wrap64 (n := n + 15) (by omega) (by omega)
    have e2 : ar .mul .i64 2 56 = 2 * 56 := by rw [r1]; rfl
    rw [hw1, e1, e2, r1]; exact wrap64 (n := n + 15 + 2 * 56) (by omega) (by omega)
  rw [← hw1]
  clear hw1
  have hsr : 0 ≤ n → n ≤ 1023 → SRT t n := fun h0 h1 => ⟨h, h0, by omega⟩
  repeat' (first | exact True.intro | refine And.intro ?_ ?_ | (refine BR.mk ?_ ?_ <;> intro _) | (refine CASE.mk ?_; intro _) | refine NEXT.mk (hX _ _ _ ?_ ?_ (.inl ⟨rfl, rfl⟩)))
  all_goals first | (show LOOP _ _ _ _ _ _; skip) | (clear hX; subst_vars; (all_goals try simp only [Short_iff, cmpR, arR, mxR, INB_iff, SLB_iff, SLM_iff, NZ_iff, NN_iff, EQN_iff, LEN_iff, LIM_iff, MK_iff, decide_eq_true_eq, decide_eq_false_iff_not, ne_eq, Bool.and_eq_true, cmpR] at *); (all_goals try dsimp only [Ty.den] at *); (all_goals try simp only [nc_eq] at *); (all_goals try (simp (disch := omega) only [wrap64] at *)); all_goals grind)
  refine LOOP.ind (σ := List Int × Int) (fun (O, k) => [(0, .tl nt tI t), (1, .p (iv n)), (6, .ptr 0 0), (9, .p (iv 56)), (10, .ptr 1 0), (11, .p (iv k))]) (fun (O, k) => ⟨[{ cells := [.p (iv 0), .p (.sl (some true) 0 [])], e := 46, fz := false }, { cells := [.p (iv n), .og 0 tB O], e := 46, fz := false }], [(ml (ln tB O) 1, 5)]⟩) (fun (O, k) => (56 - k).toNat)
    (fun (O, k) => 0 ≤ k ∧ k ≤ 56 ∧ O.length ≤ k ∧ OK k = OK 0 ∧ O ++ BI k = BI 0) ([], 0) ⟨by omega, by omega, by simp, rfl, rfl⟩ (.inr ⟨[some 0, some 1], [none], ?_⟩) ?_
  · rw [SIM_iff]; cbv; simp [nlLe_self]
  intro ⟨O, k⟩ hI X' hX
  dsimp only at hI
  obtain ⟨hI1, hI2, hI3, hI4, hI5⟩ := hI
  have hn0 : 0 ≤ n := by have h := ‹cmp .lss n 0 = false›; rw [r0] at h; simpa [cmpR] using h
  have hn3 : n ≤ 1023 := by have h := ‹cmp .gtr n 1023 = false›; rw [r0] at h; simpa [cmpR] using h
  have hn4 : w1 ≤ 1023 := by have h := ‹cmp .gtr w1 1023 = false›; rw [r0] at h; simpa [cmpR] using h
  have hg0' : g0 t = 0 := by have h := ‹cmp .neq (g0 (nt, t).snd) 0 = false›; rw [r0] at h; simpa [cmpR] using h
  have hg1' : g1 t n = true := ‹g1 (nt, t).snd n = true›
  have hw := hw1v hn0 hn3
  rw [if_neg (by simp [hg0']), if_neg (by omega), if_neg (by simp [hg1'])] at hE
  obtain ⟨u, hu⟩ : ∃ u : Int, u = ar .add .i64 (ar .add .i64 n 16) (ar .mul .i64 2 k) := ⟨_, rfl⟩
  obtain ⟨v, hv⟩ : ∃ v : Int, v = ar .add .i64 (ar .add .i64 n 17) (ar .mul .i64 2 k) := ⟨_, rfl⟩
  have e2 : ar .mul .i64 2 k = 2 * k := by rw [r1]; exact wrap64 (n := 2 * k) (by omega) (by omega)
  have huv : n + 16 + 2 * k = u := by
    have e1 : ar .add .i64 n 16 = n + 16 := by rw [r1]; exact wrap64 (n := n + 16) (by omega) (by omega)
    rw [hu, e1, e2, r1]; exact (wrap64 (n := n + 16 + 2 * k) (by omega) (by omega)).symm
  have hvv : n + 16 + 2 * k + 1 = v := by
    have e1 : ar .add .i64 n 17 = n + 17 := by rw [r1]; exact wrap64 (n := n + 17) (by omega) (by omega)
    rw [hv, e1, e2, r1]; refine Eq.trans ?_ (wrap64 (n := n + 17 + 2 * k) (by omega) (by omega)).symm; omega
  have hok := hok k hI1
  have hbi := hbi k hI1
  rw [hvv, huv] at hok hbi
  have hke : ¬ k < 56 → k = 56 := fun h => by omega
  obtain ⟨A0, hA0⟩ : ∃ A0, A0 = OK 0 := ⟨_, rfl⟩
  obtain ⟨B0, hB0⟩ : ∃ B0, B0 = BI 0 := ⟨_, rfl⟩
  rw [← hA0] at hE hI4 hX
  rw [← hB0] at hB' hI5 hX
  clear huv hvv e2 hw hn4 hw1v hA0 hB0
  cbv
  rw [← hu, ← hv]
  clear hu hv
  repeat' (first | exact True.intro | refine And.intro ?_ ?_ | (refine BR.mk ?_ ?_ <;> intro _) | (refine CASE.mk ?_; intro _) | refine NEXT.mk (hX (_, _) _ _ ?_ ?_ (.inl ⟨rfl, rfl⟩)))
  all_goals clear hX
  all_goals subst_vars
  all_goals try simp only [Short_iff, cmpR, arR, mxR, INB_iff, SLB_iff, SLM_iff, NZ_iff, NN_iff, EQN_iff, LEN_iff, LIM_iff, MK_iff, decide_eq_true_eq, decide_eq_false_iff_not, ne_eq, Bool.and_eq_true] at *
  all_goals try dsimp only [Ty.den] at *
  all_goals try simp only [nc_eq] at *
  all_goals try (simp (disch := omega) only [wrap64] at *)
  all_goals first | exact nlLe_none.2 trivial | grind
theorem cReadRL (nt : Option Bool) (t B : List Int) (n a e : Int) (lg : Bool) (hB : B = reaB t n true) (ha : a = reaN t n true) (he : e = reaE t n true) (h : Short 2000 t) : PurS Tryd.prog 28 [injT (.sl tI) (nt, t), injT tI n, .p (.v (.bool true))] (.tup [.agg [.p (iv a), .tl none tB B], .p (iv e)]) := by
  refine PurS.of (S := [(23, _), (43, _), (40, _)]) (T := []) (tbl := []) (n := 88) hmD cfg (.cons (spT1.ok (a := (.sl (.int .i64))) fun x0 h => cChkR x0.1 x0.2 h) (.cons (spT2.ok (a := (.sl (.int .i64))) (b := (.int .i64)) fun x0 x1 h => cStart0RT x0.1 x0.2 x1 h) (.cons (spT2.ok (a := (.sl (.int .i64))) (b := (.int .i64)) fun x0 x1 h => cOn x0.1 x0.2 x1 h) .nil))) .nil .nil 0 Tryd.call28 Tryd.func28 (ac28_ok (some (0, 0))) (by rw [Tryd.ntmps28]; exact Nat.le_refl _) rfl ⟨_, rfl⟩ ?_
  intro cmp ar cv tn ic ai mx an ad ml sb mn ln em gt up ap sc vw cp rp p1 p2 s1 s2 X Y hX hY r0 r1 r2 r3 r4 r5 r6 r7 r8 r9 r10 r11 r12 r13 r14 r15 r16 r17 r18 r19 r20 r21 r22 r23 r24
  generalize hg0 : chkE = g0
  generalize hg1 : rstM = g1
  generalize hg2 : hasM = g2
  cbv
  have hl := h.h
  have hn1 : nlLe (some true) none := by simp [nlLe_none]
  have hn2 : nlLe none none := by simp [nlLe_none]
  obtain ⟨OK, hOK⟩ : ∃ OK : Int → Bool, OK = fun k => okP (fun x => hasM t x) n (112 - k).toNat k := ⟨_, rfl⟩
  obtain ⟨BI, hBI⟩ : ∃ BI : Int → List Int, BI = fun k => biP (fun x => hasM t x) n (112 - k).toNat k := ⟨_, rfl⟩
  have hE : e = if chkE t ≠ 0 then chkE t else if n < 0 ∨ n > 1008 - 2 * 112 then 7 else if rstM t n = false then 9 else if OK 0 = false then 9 else 0 := by rw [he, hOK]; exact reaQ_eq
  have hA : a = if e ≠ 0 then 0 else n := by rw [ha, he]; rfl
  have hB' : B = if e ≠ 0 then [] else BI 0 := by
    rw [hB, he, hBI]
    split
    · rename_i h; rw [reaB, if_pos h]
    · rename_i h; rw [reaB_eq (by simpa using h)]; rfl
  have hok : ∀ k : Int, 0 ≤ k → k < 112 → OK k = ((hasM t (n + 16 + 2 * k) || hasM t (n + 16 + 2 * k + 1)) && OK (k + 1)) := fun k h0 h1 => by
    rw [hOK]; simp only [show (112 - k).toNat = (112 - (k + 1)).toNat + 1 by omega, okP, biPO]
  have hbi : ∀ k : Int, 0 ≤ k → k < 112 → BI k = (if hasM t (n + 16 + 2 * k) then (if hasM t (n + 16 + 2 * k + 1) then 2 else 1) else 0) :: BI (k + 1) := fun k h0 h1 => by
    rw [hBI]; simp only [show (112 - k).toNat = (112 - (k + 1)).toNat + 1 by omega, biP, biPV]
  have hok1 : OK 112 = true := by rw [hOK]; rfl
  have hbi1 : BI 112 = [] := by rw [hBI]; rfl
  clear hOK hBI he ha hB
  rw [hg0, hg1] at hE
  simp only [hg2] at hok hbi
  obtain ⟨w1, hw1⟩ : ∃ w : Int, w = ar .add .i64 (ar .add .i64 n 15) (ar .mul .i64 2 112) := ⟨_, rfl⟩
  have hw1v : 0 ≤ n → n ≤ 1023 → w1 = n + 15 + 2 * 112 := fun h0 h1 => by
    have e1 : ar .add .i64 n 15 = n + 15 := by rw [r1]; exact wrap64 (n := n + 15) (by omega) (by omega)
    have e2 : ar .mul .i64 2 112 = 2 * 112 := by rw [r1]; rfl
    rw [hw1, e1, e2, r1]; exact wrap64 (n := n + 15 + 2 * 112) (by omega) (by omega)
  rw [← hw1]
  clear hw1
  have hsr : 0 ≤ n → n ≤ 1023 → SRT t n := fun h0 h1 => ⟨h, h0, by omega⟩
  repeat' (first | exact True.intro | refine And.intro ?_ ?_ | (refine BR.mk ?_ ?_ <;> intro _) | (refine CASE.mk ?_; intro _) | refine NEXT.mk (hX _ _ _ ?_ ?_ (.inl ⟨rfl, rfl⟩)))
  all_goals first | (show LOOP _ _ _ _ _ _; skip) | (clear hX; subst_vars; (all_goals try simp only [Short_iff, cmpR, arR, mxR, INB_iff, SLB_iff, SLM_iff, NZ_iff, NN_iff, EQN_iff, LEN_iff, LIM_iff, MK_iff, decide_eq_true_eq, decide_eq_false_iff_not, ne_eq, Bool.and_eq_true, cmpR] at *); (all_goals try dsimp only [Ty.den] at *); (all_goals try simp only [nc_eq] at *); (all_goals try (simp (disch := omega) only [wrap64] at *)); all_goals grind)
  refine LOOP.ind (σ := List Int × Int) (fun (O, k) => [(0, .tl nt tI t), (1, .p (iv n)), (6, .ptr 0 0), (9, .p (iv 112)), (10, .ptr 1 0), (11, .p (iv k))]) (fun (O, k) => ⟨[{ cells := [.p (iv 0), .p (.sl (some true) 0 [])], e := 46, fz := false }, { cells := [.p (iv n), .og 0 tB O], e := 46, fz := false }], [(ml (ln tB O) 1, 5)]⟩) (fun (O, k) => (112 - k).toNat)
    (fun (O, k) => 0 ≤ k ∧ k ≤ 112 ∧ O.length ≤ k ∧ OK k = OK 0 ∧ O ++ BI k = BI 0) ([], 0) ⟨by omega, by omega, by simp, rfl, rfl⟩ (.inr ⟨[some 0, some 1], [none], ?_⟩) ?_
  · rw [SIM_iff]; cbv; simp [nlLe_self]
  intro ⟨O, k⟩ hI X' hX
  dsimp only at hI
  obtain ⟨hI1, hI2, hI3, hI4, hI5⟩ := hI
  have hn0 : 0 ≤ n := by have h := ‹cmp .lss n 0 = false›; rw [r0] at h; simpa [cmpR] using h
  have hn3 : n ≤ 1023 := by have h := ‹cmp .gtr n 1023 = false›; rw [r0] at h; simpa [cmpR] using h
  have hn4 : w1 ≤ 1023 := by have h := ‹cmp .gtr w1 1023 = false›; rw [r0] at h; simpa [cmpR] using h
  have hg0' : g0 t = 0 := by have h := ‹cmp .neq (g0 (nt, t).snd) 0 = false›; rw [r0] at h; simpa [cmpR] using h
  have hg1' : g1 t n = true := ‹g1 (nt, t).snd n = true›
  have hw := hw1v hn0 hn3
  rw [if_neg (by simp [hg0']), if_neg (by omega), if_neg (by simp [hg1'])] at hE
  obtain ⟨u, hu⟩ : ∃ u : Int, u = ar .add .i64 (ar .add .i64 n 16) (ar .mul .i64 2 k) := ⟨_, rfl⟩
  obtain ⟨v, hv⟩ : ∃ v : Int, v = ar .add .i64 (ar .add .i64 n 17) (ar .mul .i64 2 k) := ⟨_, rfl⟩
  have e2 : ar .mul .i64 2 k = 2 * k := by rw [r1]; exact wrap64 (n := 2 * k) (by omega) (by omega)
  have huv : n + 16 + 2 * k = u := by
    have e1 : ar .add .i64 n 16 = n + 16 := by rw [r1]; exact wrap64 (n := n + 16) (by omega) (by omega)
    rw [hu, e1, e2, r1]; exact (wrap64 (n := n + 16 + 2 * k) (by omega) (by omega)).symm
  have hvv : n + 16 + 2 * k + 1 = v := by
    have e1 : ar .add .i64 n 17 = n + 17 := by rw [r1]; exact wrap64 (n := n + 17) (by omega) (by omega)
    rw [hv, e1, e2, r1]; refine Eq.trans ?_ (wrap64 (n := n + 17 + 2 * k) (by omega) (by omega)).symm; omega
  have hok := hok k hI1
  have hbi := hbi k hI1
  rw [hvv, huv] at hok hbi
  have hke : ¬ k < 112 → k = 112 := fun h => by omega
  obtain ⟨A0, hA0⟩ : ∃ A0, A0 = OK 0 := ⟨_, rfl⟩
  obtain ⟨B0, hB0⟩ : ∃ B0, B0 = BI 0 := ⟨_, rfl⟩
  rw [← hA0] at hE hI4 hX
  rw [← hB0] at hB' hI5 hX
  clear huv hvv e2 hw hn4 hw1v hA0 hB0
  cbv
  rw [← hu, ← hv]
  clear hu hv
  repeat' (first | exact True.intro | refine And.intro ?_ ?_ | (refine BR.mk ?_ ?_ <;> intro _) | (refine CASE.mk ?_; intro _) | refine NEXT.mk (hX (_, _) _ _ ?_ ?_ (.inl ⟨rfl, rfl⟩)))
  all_goals clear hX
  all_goals subst_vars
  all_goals try simp only [Short_iff, cmpR, arR, mxR, INB_iff, SLB_iff, SLM_iff, NZ_iff, NN_iff, EQN_iff, LEN_iff, LIM_iff, MK_iff, decide_eq_true_eq, decide_eq_false_iff_not, ne_eq, Bool.and_eq_true] at *
  all_goals try dsimp only [Ty.den] at *
  all_goals try simp only [nc_eq] at *
  all_goals try (simp (disch := omega) only [wrap64] at *)
  all_goals first | exact nlLe_none.2 trivial | grind
theorem cReadR (nt : Option Bool) (t : List Int) (n : Int) (lg : Bool) (h : Short 2000 t) : PurS Tryd.prog 28 [injT (.sl tI) (nt, t), injT tI n, injT .bool lg] (.tup [.agg [.p (iv (reaN t n lg)), .tl none tB (reaB t n lg)], .p (iv (reaE t n lg))]) := by
  cases lg
  · exact cReadRS nt t _ n _ _ true rfl rfl rfl h
  · exact cReadRL nt t _ n _ _ true rfl rfl rfl h
end Go.Ab

