/- pulse.Read. -/
import Derived.Test.YtnfimkmjjjbopaaDoorLg
set_option linter.unusedSimpArgs false
set_option linter.unusedVariables false
set_option maxRecDepth 20000
set_option maxHeartbeats 8000000
namespace Go.Ab
open Go.Proofs
/-- The bit at a place, and whether there is one. -/
def biO (S : List Bool) (n k : Int) : Bool := gtR .bool S (n + 16 + 2 * k) || gtR .bool S (n + 16 + 2 * k + 1)
def biV (S : List Bool) (n k : Int) : Int := if gtR .bool S (n + 16 + 2 * k) then (if gtR .bool S (n + 16 + 2 * k + 1) then 2 else 1) else 0
def okL (S : List Bool) (n : Int) : Nat → Int → Bool
  | 0, _ => true
  | j + 1, k => biO S n k && okL S n j (k + 1)
def biL (S : List Bool) (n : Int) : Nat → Int → List Int
  | 0, _ => []
  | j + 1, k => biV S n k :: biL S n j (k + 1)
def reaM (lg : Bool) : Nat := if lg then 112 else 56
def reaE (t : List Int) (n : Int) (lg : Bool) : Int := if staE t ≠ 0 then staE t else if n < 0 ∨ n > 1008 - 2 * reaM lg then 7 else if stM (swA [(none, t)]) n = false then 9 else if okL (swA [(none, t)]) n (reaM lg) 0 = false then 9 else 0
def reaN (t : List Int) (n : Int) (lg : Bool) : Int := if reaE t n lg ≠ 0 then 0 else n
def reaB (t : List Int) (n : Int) (lg : Bool) : List Int := if reaE t n lg ≠ 0 then [] else biL (swA [(none, t)]) n (reaM lg) 0
theorem rep_up {L : List Int} {m k : Int} (h0 : 0 ≤ k) (h1 : k < m) (hl : L.length = m) (h : L.drop k.toNat = List.replicate (m - k).toNat 0) (x : Int) : (L.set k.toNat x).take (k + 1).toNat = L.take k.toNat ++ [x] ∧ (L.set k.toNat x).drop (k + 1).toNat = List.replicate (m - (k + 1)).toNat 0 ∧ ((L.set k.toNat x).length : Int) = m := by
  have hk : k.toNat < L.length := by omega
  have e : (k + 1).toNat = k.toNat + 1 := by omega
  have e2 : (m - k).toNat = (m - (k + 1)).toNat + 1 := by omega
  refine ⟨?_, ?_, by simpa using hl⟩
  · rw [e, List.take_add_one, List.take_set_of_le (Nat.le_refl _)]; simp [hk]
  · have h2 : L.drop (k.toNat + 1) = List.replicate (m - (k + 1)).toNat 0 := by
      rw [← List.drop_drop, h, e2]; simp
    rw [e, List.drop_set_of_lt (by omega), h2]
theorem rep_no {L : List Int} {m k : Int} (h0 : 0 ≤ k) (h1 : k < m) (hl : L.length = m) (h : L.drop k.toNat = List.replicate (m - k).toNat 0) : L.take (k + 1).toNat = L.take k.toNat ++ [0] ∧ L.drop (k + 1).toNat = List.replicate (m - (k + 1)).toNat 0 := by
  have hk : k.toNat < L.length := by omega
  have e : (k + 1).toNat = k.toNat + 1 := by omega
  have e2 : (m - k).toNat = (m - (k + 1)).toNat + 1 := by omega
  have h3 : L[k.toNat] = 0 := by
    have := List.drop_eq_getElem_cons hk
    rw [h, e2, List.replicate_succ] at this
    exact (List.cons.inj this).1.symm
  refine ⟨?_, ?_⟩
  · rw [e, List.take_add_one]; simp [hk, h3]
  · rw [e, ← List.drop_drop, h, e2]; simp
theorem cReadS (nt : Option Bool) (t B : List Int) (n a e : Int) (hB : B = reaB t n false) (ha : a = reaN t n false) (he : e = reaE t n false) (h : t.length ≤ 1500) : PurS Tryd.prog 27 [injT (.sl tI) (nt, t), injT tI n, .p (.v (.bool false))] (.tup [.agg [.p (iv a), .tl none tB B], .p (iv e)]) := by
  refine PurS.of (S := [(38, _)]) (T := []) (tbl := [(42, ac42 none, [.tmp 4], 26)]) (n := 82) hmD cfg (.cons (spT1.ok (a := (.sl (.sl (.int .i64)))) fun x0 h => cOfT x0.1 x0.2 h) .nil) .nil (.cons Tryd.call42 Tryd.func42 (ac42_ok none) (by rw [Tryd.ntmps42]; exact Nat.le_refl _) .nil) 6 Tryd.call27 Tryd.func27 (ac27_ok (some (0, 0))) (by rw [Tryd.ntmps27]; exact Nat.le_refl _) rfl ⟨_, rfl⟩ ?_
  intro cmp ar cv tn ic ai mx an ad ml sb mn ln em gt up ap sc vw cp rp p1 p2 s1 s2 X Y hX hY r0 r1 r2 r3 r4 r5 r6 r7 r8 r9 r10 r11 r12 r13 r14 r15 r16 r17 r18 r19 r20 r21 r22 r23 r24
  generalize hg0 : swA = g0
  generalize hg1 : swE = g1
  cbv
  have hlay : LAYOK [(1024, Value.bool false)] [SegT.a 1024 Ty.bool] := LAYOK.mk (by kernel_rfl)
  have hpre : PRE (pSw [(nt, t)]) := ⟨⟨by simp, by intro x hx; obtain rfl := List.mem_singleton.1 hx; exact h⟩⟩
  have he2 : reaE t n false = if g1 [(nt, t)] ≠ 0 then g1 [(nt, t)] else if n < 0 ∨ n > 1008 - 2 * 56 then 7 else if stM (g0 [(nt, t)]) n = false then 9 else if okL (g0 [(nt, t)]) n 56 0 = false then 9 else 0 := by rw [← hg0, ← hg1]; rfl
  have ha2 : reaN t n false = if reaE t n false ≠ 0 then 0 else n := rfl
  have hB2 : reaB t n false = if reaE t n false ≠ 0 then [] else biL (g0 [(nt, t)]) n 56 0 := by rw [← hg0]; rfl
  have hn : nlLe (some true) none := by simp [nlLe_none]
  have hn2 : nlLe none none := by simp [nlLe_none]
  have hn3 : nlLe (some false) none := by simp [nlLe_none]
  obtain ⟨a0, a1, a2, a3, hA⟩ : ∃ a0 a1 a2 a3 : Int, a0 = 0 ∧ a1 = 2 ∧ a2 = 7 ∧ a3 = 9 := ⟨_, _, _, _, rfl, rfl, rfl, rfl⟩
  have hw : ar .sub .i64 1008 (ar .mul .i64 2 56) = 1008 - 2 * 56 := by rw [r1]; rfl
  rw [hw]
  repeat' (first | exact True.intro | refine And.intro ?_ ?_ | (refine BR.mk ?_ ?_ <;> intro _) | (refine CASE.mk ?_; intro _) | refine NEXT.mk (hX _ _ _ ?_ ?_ (.inl ⟨rfl, rfl⟩)))
  all_goals first | (show LOOP _ _ _ _ _ _; skip) | (clear hX; subst_vars; (all_goals try simp only [Short_iff, cmpR, arR, mxR, INB_iff, SLB_iff, SLM_iff, NZ_iff, NN_iff, EQN_iff, LEN_iff, LIM_iff, MK_iff, decide_eq_true_eq, decide_eq_false_iff_not, ne_eq, Bool.and_eq_true, cmpR] at *); (all_goals try dsimp only [Ty.den] at *); (all_goals try simp only [nc_eq] at *); (all_goals try (simp (disch := omega) only [wrap64] at *)); all_goals grind)
  refine LOOP.ind0 (σ := Int) (fun i => [(0, .ptr 1 0), (1, .p (iv n)), (7, .agg [.p (iv a0), .p (iv a1), .p (iv a2), .p (iv a3)]), (8, .p (iv i))]) (fun _ => ⟨[{ cells := [.p (iv 0), .p (.sl (some true) 0 [])], e := 46, fz := false }, { cells := [.arr 1024 .bool (g0 [(nt, t)])], e := 67, fz := false }], []⟩) (fun i => (4 - i).toNat) (fun i => 0 ≤ i ∧ i ≤ 4 ∧ (1 ≤ i → stC (g0 [(nt, t)]) n 0) ∧ (2 ≤ i → stC (g0 [(nt, t)]) n 2) ∧ (3 ≤ i → stC (g0 [(nt, t)]) n 7) ∧ (4 ≤ i → stC (g0 [(nt, t)]) n 9)) 0 (by simp) (.inl ⟨?_, rfl⟩) ?_
  · obtain ⟨rfl, rfl, rfl, rfl⟩ := hA; rw [r14, r21, r22]; rfl
  intro i hJ X2 hZ
  have hst := stM_iff (S := g0 [(nt, t)]) (n := n)
  have hsc := stC_iff (S := g0 [(nt, t)]) (n := n)
  obtain ⟨Z, hZZ⟩ : ∃ Z : List Int, Z = List.replicate 56 0 := ⟨_, rfl⟩
  cbv
  repeat' (first | exact True.intro | refine And.intro ?_ ?_ | (refine BR.mk ?_ ?_ <;> intro _) | (refine CASE.mk ?_; intro _) | refine NEXT.mk (hZ _ _ _ ?_ ?_ (.inl ⟨rfl, rfl⟩)))
  all_goals first | (show LOOP _ _ _ _ _ _; skip) | (clear hZ; subst_vars; (all_goals try simp only [Short_iff, cmpR, arR, mxR, INB_iff, SLB_iff, SLM_iff, NZ_iff, NN_iff, EQN_iff, LEN_iff, LIM_iff, MK_iff, decide_eq_true_eq, decide_eq_false_iff_not, ne_eq, Bool.and_eq_true, cmpR] at *); (all_goals try dsimp only [Ty.den] at *); (all_goals try simp only [nc_eq] at *); (all_goals try (simp (disch := omega) only [wrap64] at *)); all_goals grind)
  have hn0 : 0 ≤ n := by have h := ‹cmp .lss n 0 = false›; rw [r0] at h; simpa [cmpR] using h
  have hn1 : n ≤ 1008 - 2 * 56 := by have h := ‹cmp .gtr n (1008 - 2 * 56) = false›; rw [r0] at h; simpa [cmpR] using h
  have hi4 : ¬ i < 4 := by have h := ‹cmp .lss i 4 = false›; rw [r0] at h; simpa [cmpR] using h
  have hst3 : stM (g0 [(nt, t)]) n = true := hst.2 ⟨hJ.2.2.1 (by omega), hJ.2.2.2.1 (by omega), hJ.2.2.2.2.1 (by omega), hJ.2.2.2.2.2 (by omega)⟩
  clear hZ hst hsc hJ hi4
  refine LOOP.ind (σ := List Int × Int) (fun (L, k) => [(1, .p (iv n)), (6, .ptr 0 0), (8, .ptr 1 0), (10, .ms 2 0 1 none (tn 56)), (42, .p (iv (ic (tn 56)))), (43, .p (iv k))]) (fun (L, k) => ⟨[{ cells := [.p (iv 0), .p (.sl (some true) 0 [])], e := 46, fz := false }, { cells := [.arr 1024 .bool (g0 [(nt, t)])], e := 67, fz := false }, { cells := [.arr (tn 56) tB L], e := 5, fz := false, ap := true }], []⟩) (fun (L, k) => (56 - k).toNat)
    (fun (L, k) => 0 ≤ k ∧ k ≤ 56 ∧ L.length = (56 : Int) ∧ L.drop k.toNat = List.replicate (56 - k).toNat 0 ∧ L.take k.toNat ++ biL (g0 [(nt, t)]) n (56 - k).toNat k = biL (g0 [(nt, t)]) n 56 0 ∧ okL (g0 [(nt, t)]) n (56 - k).toNat k = okL (g0 [(nt, t)]) n 56 0) (Z, 0) (by simp [hZZ]) (.inl ⟨rfl, ?_⟩) ?_
  · have e : rp tB (tn 56) (0 : Int) = Z := by rw [hZZ, r20, r3]; rfl
    rw [e]
  intro ⟨L, k⟩ hI X3 hY
  dsimp only at hI
  obtain ⟨hI1, hI2, hI3, hI4, hI5, hI6⟩ := hI
  obtain ⟨p, hp⟩ : ∃ p : Int, p = ar .add .i64 (ar .add .i64 n 16) (ar .mul .i64 2 k) := ⟨_, rfl⟩
  obtain ⟨q, hq⟩ : ∃ p : Int, p = ar .add .i64 (ar .add .i64 (ar .add .i64 n 16) (ar .mul .i64 2 k)) 1 := ⟨_, rfl⟩
  have hpv : p = n + 16 + 2 * k := by
    have e1 : ar .add .i64 n 16 = n + 16 := by rw [r1]; exact wrap64 (n := n + 16) (by omega) (by omega)
    have e2 : ar .mul .i64 2 k = 2 * k := by rw [r1]; exact wrap64 (n := 2 * k) (by omega) (by omega)
    rw [hp, e1, e2, r1]; exact wrap64 (n := n + 16 + 2 * k) (by omega) (by omega)
  have hqv : q = n + 16 + 2 * k + 1 := by
    rw [hq, ← hp, hpv, r1]; exact wrap64 (n := n + 16 + 2 * k + 1) (by omega) (by omega)
  have hst1 : k < 56 → biL (g0 [(nt, t)]) n (56 - k).toNat k = biV (g0 [(nt, t)]) n k :: biL (g0 [(nt, t)]) n (56 - (k + 1)).toNat (k + 1) := fun h => by
    rw [show (56 - k).toNat = (56 - (k + 1)).toNat + 1 by omega]; rfl
  have hst2 : k < 56 → okL (g0 [(nt, t)]) n (56 - k).toNat k = (biO (g0 [(nt, t)]) n k && okL (g0 [(nt, t)]) n (56 - (k + 1)).toNat (k + 1)) := fun h => by
    rw [show (56 - k).toNat = (56 - (k + 1)).toNat + 1 by omega]; rfl
  have hbv : biV (g0 [(nt, t)]) n k = if gtR .bool (g0 [(nt, t)]) p then (if gtR .bool (g0 [(nt, t)]) q then 2 else 1) else 0 := by rw [hpv, hqv]; rfl
  have hbo : biO (g0 [(nt, t)]) n k = (gtR .bool (g0 [(nt, t)]) p || gtR .bool (g0 [(nt, t)]) q) := by rw [hpv, hqv]; rfl
  have hse1 : ¬ k < 56 → biL (g0 [(nt, t)]) n (56 - k).toNat k = [] := fun h => by rw [show (56 - k).toNat = 0 by omega]; rfl
  have hse2 : ¬ k < 56 → okL (g0 [(nt, t)]) n (56 - k).toNat k = true := fun h => by rw [show (56 - k).toNat = 0 by omega]; rfl
  have hse3 : ¬ k < 56 → L.take k.toNat = L := fun h => List.take_of_length_le (by omega)
  have hs : ∀ x, k < 56 → (upR tB 56 L k x).take (k + 1).toNat = L.take k.toNat ++ [x] ∧ (upR tB 56 L k x).drop (k + 1).toNat = List.replicate (56 - (k + 1)).toNat 0 ∧ ((upR tB 56 L k x).length : Int) = 56 := fun x h => by
    rw [upR_len (t := tB) (by omega) k x]; exact rep_up hI1 h hI3 hI4 x
  have hs0 := fun h => rep_no (m := 56) hI1 h hI3 hI4
  have hvw : vwR tB 56 L 0 56 = L := vw_all (t := tB) (by omega)
  cbv
  rw [← hq, ← hp]
  clear hp hq
  repeat' (first | exact True.intro | refine And.intro ?_ ?_ | (refine BR.mk ?_ ?_ <;> intro _) | (refine CASE.mk ?_; intro _) | refine NEXT.mk (hY (_, _) _ _ ?_ ?_ (.inl ⟨rfl, rfl⟩)))
  all_goals clear hY
  all_goals subst_vars
  all_goals try simp only [Short_iff, cmpR, arR, mxR, INB_iff, SLB_iff, SLM_iff, NZ_iff, NN_iff, EQN_iff, LEN_iff, LIM_iff, MK_iff, decide_eq_true_eq, decide_eq_false_iff_not, ne_eq, Bool.and_eq_true, show (56 : Int).toNat = 56 from rfl] at *
  all_goals try dsimp only [Ty.den] at *
  all_goals try simp only [nc_eq] at *
  all_goals try (simp (disch := omega) only [wrap64] at *)
  all_goals first | omega | grind
theorem cReadL (nt : Option Bool) (t B : List Int) (n a e : Int) (hB : B = reaB t n true) (ha : a = reaN t n true) (he : e = reaE t n true) (h : t.length ≤ 1500) : PurS Tryd.prog 27 [injT (.sl tI) (nt, t), injT tI n, .p (.v (.bool true))] (.tup [.agg [.p (iv a), .tl none tB B], .p (iv e)]) := by
  refine PurS.of (S := [(38, _)]) (T := []) (tbl := [(42, ac42 none, [.tmp 4], 26)]) (n := 82) hmD cfg (.cons (spT1.ok (a := (.sl (.sl (.int .i64)))) fun x0 h => cOfT x0.1 x0.2 h) .nil) .nil (.cons Tryd.call42 Tryd.func42 (ac42_ok none) (by rw [Tryd.ntmps42]; exact Nat.le_refl _) .nil) 6 Tryd.call27 Tryd.func27 (ac27_ok (some (0, 0))) (by rw [Tryd.ntmps27]; exact Nat.le_refl _) rfl ⟨_, rfl⟩ ?_
  intro cmp ar cv tn ic ai mx an ad ml sb mn ln em gt up ap sc vw cp rp p1 p2 s1 s2 X Y hX hY r0 r1 r2 r3 r4 r5 r6 r7 r8 r9 r10 r11 r12 r13 r14 r15 r16 r17 r18 r19 r20 r21 r22 r23 r24
  generalize hg0 : swA = g0
  generalize hg1 : swE = g1
  cbv
  have hlay : LAYOK [(1024, Value.bool false)] [SegT.a 1024 Ty.bool] := LAYOK.mk (by kernel_rfl)
  have hpre : PRE (pSw [(nt, t)]) := ⟨⟨by simp, by intro x hx; obtain rfl := List.mem_singleton.1 hx; exact h⟩⟩
  have he2 : reaE t n true = if g1 [(nt, t)] ≠ 0 then g1 [(nt, t)] else if n < 0 ∨ n > 1008 - 2 * 112 then 7 else if stM (g0 [(nt, t)]) n = false then 9 else if okL (g0 [(nt, t)]) n 112 0 = false then 9 else 0 := by rw [← hg0, ← hg1]; rfl
  have ha2 : reaN t n true = if reaE t n true ≠ 0 then 0 else n := rfl
  have hB2 : reaB t n true = if reaE t n true ≠ 0 then [] else biL (g0 [(nt, t)]) n 112 0 := by rw [← hg0]; rfl
  have hn : nlLe (some true) none := by simp [nlLe_none]
  have hn2 : nlLe none none := by simp [nlLe_none]
  have hn3 : nlLe (some false) none := by simp [nlLe_none]
  obtain ⟨a0, a1, a2, a3, hA⟩ : ∃ a0 a1 a2 a3 : Int, a0 = 0 ∧ a1 = 2 ∧ a2 = 7 ∧ a3 = 9 := ⟨_, _, _, _, rfl, rfl, rfl, rfl⟩
  have hw : ar .sub .i64 1008 (ar .mul .i64 2 112) = 1008 - 2 * 112 := by rw [r1]; rfl
  rw [hw]
  repeat' (first | exact True.intro | refine And.intro ?_ ?_ | (refine BR.mk ?_ ?_ <;> intro _) | (refine CASE.mk ?_; intro _) | refine NEXT.mk (hX _ _ _ ?_ ?_ (.inl ⟨rfl, rfl⟩)))
  all_goals first | (show LOOP _ _ _ _ _ _; skip) | (clear hX; subst_vars; (all_goals try simp only [Short_iff, cmpR, arR, mxR, INB_iff, SLB_iff, SLM_iff, NZ_iff, NN_iff, EQN_iff, LEN_iff, LIM_iff, MK_iff, decide_eq_true_eq, decide_eq_false_iff_not, ne_eq, Bool.and_eq_true, cmpR] at *); (all_goals try dsimp only [Ty.den] at *); (all_goals try simp only [nc_eq] at *); (all_goals try (simp (disch := omega) only [wrap64] at *)); all_goals grind)
  refine LOOP.ind0 (σ := Int) (fun i => [(0, .ptr 1 0), (1, .p (iv n)), (7, .agg [.p (iv a0), .p (iv a1), .p (iv a2), .p (iv a3)]), (8, .p (iv i))]) (fun _ => ⟨[{ cells := [.p (iv 0), .p (.sl (some true) 0 [])], e := 46, fz := false }, { cells := [.arr 1024 .bool (g0 [(nt, t)])], e := 67, fz := false }], []⟩) (fun i => (4 - i).toNat) (fun i => 0 ≤ i ∧ i ≤ 4 ∧ (1 ≤ i → stC (g0 [(nt, t)]) n 0) ∧ (2 ≤ i → stC (g0 [(nt, t)]) n 2) ∧ (3 ≤ i → stC (g0 [(nt, t)]) n 7) ∧ (4 ≤ i → stC (g0 [(nt, t)]) n 9)) 0 (by simp) (.inl ⟨?_, rfl⟩) ?_
  · obtain ⟨rfl, rfl, rfl, rfl⟩ := hA; rw [r14, r21, r22]; rfl
  intro i hJ X2 hZ
  have hst := stM_iff (S := g0 [(nt, t)]) (n := n)
  have hsc := stC_iff (S := g0 [(nt, t)]) (n := n)
  obtain ⟨Z, hZZ⟩ : ∃ Z : List Int, Z = List.replicate 112 0 := ⟨_, rfl⟩
  cbv
  repeat' (first | exact True.intro | refine And.intro ?_ ?_ | (refine BR.mk ?_ ?_ <;> intro _) | (refine CASE.mk ?_; intro _) | refine NEXT.mk (hZ _ _ _ ?_ ?_ (.inl ⟨rfl, rfl⟩)))
  all_goals first | (show LOOP _ _ _ _ _ _; skip) | (clear hZ; subst_vars; (all_goals try simp only [Short_iff, cmpR, arR, mxR, INB_iff, SLB_iff, SLM_iff, NZ_iff, NN_iff, EQN_iff, LEN_iff, LIM_iff, MK_iff, decide_eq_true_eq, decide_eq_false_iff_not, ne_eq, Bool.and_eq_true, cmpR] at *); (all_goals try dsimp only [Ty.den] at *); (all_goals try simp only [nc_eq] at *); (all_goals try (simp (disch := omega) only [wrap64] at *)); all_goals grind)
  have hn0 : 0 ≤ n := by have h := ‹cmp .lss n 0 = false›; rw [r0] at h; simpa [cmpR] using h
  have hn1 : n ≤ 1008 - 2 * 112 := by have h := ‹cmp .gtr n (1008 - 2 * 112) = false›; rw [r0] at h; simpa [cmpR] using h
  have hi4 : ¬ i < 4 := by have h := ‹cmp .lss i 4 = false›; rw [r0] at h; simpa [cmpR] using h
  have hst3 : stM (g0 [(nt, t)]) n = true := hst.2 ⟨hJ.2.2.1 (by omega), hJ.2.2.2.1 (by omega), hJ.2.2.2.2.1 (by omega), hJ.2.2.2.2.2 (by omega)⟩
  clear hZ hst hsc hJ hi4
  refine LOOP.ind (σ := List Int × Int) (fun (L, k) => [(1, .p (iv n)), (6, .ptr 0 0), (8, .ptr 1 0), (10, .ms 2 0 1 none (tn 112)), (42, .p (iv (ic (tn 112)))), (43, .p (iv k))]) (fun (L, k) => ⟨[{ cells := [.p (iv 0), .p (.sl (some true) 0 [])], e := 46, fz := false }, { cells := [.arr 1024 .bool (g0 [(nt, t)])], e := 67, fz := false }, { cells := [.arr (tn 112) tB L], e := 5, fz := false, ap := true }], []⟩) (fun (L, k) => (112 - k).toNat)
    (fun (L, k) => 0 ≤ k ∧ k ≤ 112 ∧ L.length = (112 : Int) ∧ L.drop k.toNat = List.replicate (112 - k).toNat 0 ∧ L.take k.toNat ++ biL (g0 [(nt, t)]) n (112 - k).toNat k = biL (g0 [(nt, t)]) n 112 0 ∧ okL (g0 [(nt, t)]) n (112 - k).toNat k = okL (g0 [(nt, t)]) n 112 0) (Z, 0) (by simp [hZZ]) (.inl ⟨rfl, ?_⟩) ?_
  · have e : rp tB (tn 112) (0 : Int) = Z := by rw [hZZ, r20, r3]; rfl
    rw [e]
  intro ⟨L, k⟩ hI X3 hY
  dsimp only at hI
  obtain ⟨hI1, hI2, hI3, hI4, hI5, hI6⟩ := hI
  obtain ⟨p, hp⟩ : ∃ p : Int, p = ar .add .i64 (ar .add .i64 n 16) (ar .mul .i64 2 k) := ⟨_, rfl⟩
  obtain ⟨q, hq⟩ : ∃ p : Int, p = ar .add .i64 (ar .add .i64 (ar .add .i64 n 16) (ar .mul .i64 2 k)) 1 := ⟨_, rfl⟩
  have hpv : p = n + 16 + 2 * k := by
    have e1 : ar .add .i64 n 16 = n + 16 := by rw [r1]; exact wrap64 (n := n + 16) (by omega) (by omega)
    have e2 : ar .mul .i64 2 k = 2 * k := by rw [r1]; exact wrap64 (n := 2 * k) (by omega) (by omega)
    rw [hp, e1, e2, r1]; exact wrap64 (n := n + 16 + 2 * k) (by omega) (by omega)
  have hqv : q = n + 16 + 2 * k + 1 := by
    rw [hq, ← hp, hpv, r1]; exact wrap64 (n := n + 16 + 2 * k + 1) (by omega) (by omega)
  have hst1 : k < 112 → biL (g0 [(nt, t)]) n (112 - k).toNat k = biV (g0 [(nt, t)]) n k :: biL (g0 [(nt, t)]) n (112 - (k + 1)).toNat (k + 1) := fun h => by
    rw [show (112 - k).toNat = (112 - (k + 1)).toNat + 1 by omega]; rfl
  have hst2 : k < 112 → okL (g0 [(nt, t)]) n (112 - k).toNat k = (biO (g0 [(nt, t)]) n k && okL (g0 [(nt, t)]) n (112 - (k + 1)).toNat (k + 1)) := fun h => by
    rw [show (112 - k).toNat = (112 - (k + 1)).toNat + 1 by omega]; rfl
  have hbv : biV (g0 [(nt, t)]) n k = if gtR .bool (g0 [(nt, t)]) p then (if gtR .bool (g0 [(nt, t)]) q then 2 else 1) else 0 := by rw [hpv, hqv]; rfl
  have hbo : biO (g0 [(nt, t)]) n k = (gtR .bool (g0 [(nt, t)]) p || gtR .bool (g0 [(nt, t)]) q) := by rw [hpv, hqv]; rfl
  have hse1 : ¬ k < 112 → biL (g0 [(nt, t)]) n (112 - k).toNat k = [] := fun h => by rw [show (112 - k).toNat = 0 by omega]; rfl
  have hse2 : ¬ k < 112 → okL (g0 [(nt, t)]) n (112 - k).toNat k = true := fun h => by rw [show (112 - k).toNat = 0 by omega]; rfl
  have hse3 : ¬ k < 112 → L.take k.toNat = L := fun h => List.take_of_length_le (by omega)
  have hs : ∀ x, k < 112 → (upR tB 112 L k x).take (k + 1).toNat = L.take k.toNat ++ [x] ∧ (upR tB 112 L k x).drop (k + 1).toNat = List.replicate (112 - (k + 1)).toNat 0 ∧ ((upR tB 112 L k x).length : Int) = 112 := fun x h => by
    rw [upR_len (t := tB) (by omega) k x]; exact rep_up hI1 h hI3 hI4 x
  have hs0 := fun h => rep_no (m := 112) hI1 h hI3 hI4
  have hvw : vwR tB 112 L 0 112 = L := vw_all (t := tB) (by omega)
  cbv
  rw [← hq, ← hp]
  clear hp hq
  repeat' (first | exact True.intro | refine And.intro ?_ ?_ | (refine BR.mk ?_ ?_ <;> intro _) | (refine CASE.mk ?_; intro _) | refine NEXT.mk (hY (_, _) _ _ ?_ ?_ (.inl ⟨rfl, rfl⟩)))
  all_goals clear hY
  all_goals subst_vars
  all_goals try simp only [Short_iff, cmpR, arR, mxR, INB_iff, SLB_iff, SLM_iff, NZ_iff, NN_iff, EQN_iff, LEN_iff, LIM_iff, MK_iff, decide_eq_true_eq, decide_eq_false_iff_not, ne_eq, Bool.and_eq_true, show (112 : Int).toNat = 112 from rfl] at *
  all_goals try dsimp only [Ty.den] at *
  all_goals try simp only [nc_eq] at *
  all_goals try (simp (disch := omega) only [wrap64] at *)
  all_goals first | omega | grind
end Go.Ab

