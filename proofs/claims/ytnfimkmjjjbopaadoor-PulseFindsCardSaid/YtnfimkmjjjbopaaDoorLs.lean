/- Merge, Shift, Starts, Read: the results are the caller's own. -/
import Derived.Test.YtnfimkmjjjbopaaDoorLq
import Derived.Test.YtnfimkmjjjbopaaDoorAbF
set_option linter.unusedSimpArgs false
set_option linter.unusedVariables false
set_option maxRecDepth 20000
set_option maxHeartbeats 8000000
namespace Go.Ab
open Go.Proofs
theorem OWD.nilT' {t : Ty} {e : TypeId} {l : List t.den} {d : DC} {bs : List BoxS} {st : StS} {y z : PD} (h : OWD t e l d bs) (hl : l = []) (hyz : y = z) (hy : flatP y = true) {x : DC} (hx : x = .p (.sl (some true) 0 [])) : OWNF (.tup [d, .p y]) bs (.tup [x, .p z]) st := by
  subst hyz; exact h.nilT hl hy hx
theorem OWD.ogT' {t : Ty} {e : TypeId} {l m : List t.den} {d : DC} {bs : List BoxS} {st : StS} {y z : PD} (h : OWD t e l d bs) (hl : l = m) (hyz : y = z) {g : Nat} (hg : nthD st.grp g = some (m.length * t.size, e)) (hf : (t.rows l).all flatP = true) (hy : flatP y = true) : OWNF (.tup [d, .p y]) bs (.tup [.og g t m, .p z]) st := by
  subst hl hyz; exact h.ogT hg hf hy
theorem OWD.msT' {t : Ty} {e : TypeId} {l m : List t.den} {d : DC} {bs : List BoxS} {st : StS} {y z : PD} (h : OWD t e l d bs) (hl : l = m) (hyz : y = z) {b n N : Nat} {ap : Bool} (h0 : m ≠ []) (hn : n = m.length) (hN : N = m.length) (hb : nthD st.box b = some { cells := [.arr N t m], e := e, fz := false, ap := ap }) (hz : e = e) (hf : (t.rows l).all flatP = true) (hy : flatP y = true) : OWNF (.tup [d, .p y]) bs (.tup [.ms b 0 t.size none n, .p z]) st := by
  subst hl hyz hN; exact h.msT h0 hn hb rfl rfl rfl hf hy
theorem OWD.nilA' {t : Ty} {e : TypeId} {l : List t.den} {d : DC} {bs : List BoxS} {st : StS} {y z a b : PD} (h : OWD t e l d bs) (hl : l = []) (hyz : y = z) (hab : a = b) (hy : flatP y = true) (ha : flatP a = true) {x : DC} (hx : x = .p (.sl (some true) 0 [])) : OWNF (.tup [.agg [.p a, d], .p y]) bs (.tup [.agg [.p b, x], .p z]) st := by
  subst hyz hab; exact h.nilA hl hy ha hx
theorem OWD.msA' {t : Ty} {e : TypeId} {l m : List t.den} {d : DC} {bs : List BoxS} {st : StS} {y z a c : PD} (h : OWD t e l d bs) (hl : l = m) (hyz : y = z) (hac : a = c) {b n N : Nat} {ap : Bool} (h0 : m ≠ []) (hn : n = m.length) (hN : N = m.length) (hb : nthD st.box b = some { cells := [.arr N t m], e := e, fz := false, ap := ap }) (hf : (t.rows l).all flatP = true) (hy : flatP y = true) (ha : flatP a = true) : OWNF (.tup [.agg [.p a, d], .p y]) bs (.tup [.agg [.p c, .ms b 0 t.size none n], .p z]) st := by
  subst hl hyz hac hN; exact h.msA h0 hn hb rfl rfl rfl hf hy ha
theorem cMergeO (nl : Option Bool) (l : List (Option Bool × List Int)) (T : List Int) (e : Int) (hT : T = mrgT l) (he : e = mrgE l) (h : PRE (pMrg l)) : OwnL Tryd.prog 15 ([injT (.sl tTr) (nl, l)]) (tI) 3 (T) (shT (iv e)) := by
  refine OwnL.of fun d bs hD => OwnS.of (S := [(38, _)]) (T := []) (tbl := [(39, ac39 none, [.tmp 2], 4)]) (n := 24) hmD cfg (.cons (spT1.ok (a := (.sl (.sl (.int .i64)))) fun x0 h => cOfT x0.1 x0.2 h) .nil) .nil (.cons Tryd.call39 Tryd.func39 (ac39_ok none) (by rw [Tryd.ntmps39]; exact Nat.le_refl _) .nil) 6 Tryd.call15 Tryd.func15 (ac15_ok (some (0, 0)) (some (3, 0))) (by rw [Tryd.ntmps15]; exact Nat.le_refl _) rfl _ _ ?_
  intro cmp ar cv tn ic ai mx an ad ml sb mn ln em gt up ap sc vw cp rp p1 p2 s1 s2 X Y hX hY r0 r1 r2 r3 r4 r5 r6 r7 r8 r9 r10 r11 r12 r13 r14 r15 r16 r17 r18 r19 r20 r21 r22 r23 r24
  generalize hg0 : swA = g0
  generalize hg1 : swE = g1
  cbv
  have hp := h.h
  clear h
  have hlay : LAYOK [(1024, Value.bool false)] [SegT.a 1024 Ty.bool] := LAYOK.mk (by kernel_rfl)
  have hpre : cmp .gtr (ic (ln tTr l)) 8 = false → PRE (pSw l) := fun h => by
    rw [r0, r4, r12] at h
    have h' : l.length ≤ 8 := by have h2 : (l.length : Int) ≤ 8 := by simpa [cmpR] using h
                                 omega
    exact ⟨⟨by omega, hp.2 h'⟩⟩
  have hT2 : mrgT l = if mrgE l ≠ 0 then [] else slF (swA l) 1024 := rfl
  have he2 : mrgE l = if l.length > 8 then 10 else swE l := rfl
  have hn : nlLe (some true) none := by simp [nlLe_none]
  repeat' (first | exact True.intro | refine And.intro ?_ ?_ | (refine BR.nn r0 ?_) | (refine BR.lss r0 ?_ ?_ <;> intro _) | (refine BR.neq r0 ?_ ?_ <;> intro _) | (refine BR.eql r0 ?_ ?_ <;> intro _) | (refine BR.leq r0 ?_ ?_ <;> intro _) | (refine BR.gtr r0 ?_ ?_ <;> intro _) | (refine BR.geq r0 ?_ ?_ <;> intro _) | (refine BR.mk ?_ ?_ <;> intro _) | (refine CASE.mk ?_; intro _))
  · refine hD.nilT' ?_ ?_ rfl rfl <;> (clear hX hpre hD; subst_vars; simp only [Short_iff, cmpR, arR, mxR, INB_iff, SLB_iff, SLM_iff, NZ_iff, NN_iff, EQN_iff, LEN_iff, LIM_iff, MK_iff, decide_eq_true_eq, decide_eq_false_iff_not, ne_eq, Bool.and_eq_true] at *; grind)
  · exact hpre ‹_›
  · exact hlay
  · refine hD.nilT' ?_ ?_ rfl rfl <;> (clear hX hpre hD; subst_vars; simp only [Short_iff, cmpR, arR, mxR, INB_iff, SLB_iff, SLM_iff, NZ_iff, NN_iff, EQN_iff, LEN_iff, LIM_iff, MK_iff, decide_eq_true_eq, decide_eq_false_iff_not, ne_eq, Bool.and_eq_true] at *; grind)
  clear hpre
  refine ALLY.mk fun y => ?_
  cbv
  refine LOOP.ind (σ := List Int × Int) (fun (O, k) => [(0, .fn (.yield y) [] []), (5, .ptr 1 0), (6, .p (iv k))]) (fun (O, k) => ⟨[{ cells := [.og 0 tI O], e := 30, fz := false }, { cells := [.arr 1024 .bool (g0 l)], e := 67, fz := false }, { cells := [.ptr 1 0], e := 77, fz := false }], [(ml (ln tI O) 1, 3)]⟩) (fun (O, k) => (1024 - k).toNat)
    (fun (O, k) => 0 ≤ k ∧ k ≤ 1024 ∧ O.length ≤ k ∧ O ++ slF (g0 l) (1024 - k).toNat = slF (g0 l) 1024) ([], 0) (by simp) (.inr ⟨[some 0, some 1, some 2], [none], ?_⟩) ?_
  · rw [SIM_iff]; cbv
    simp
  intro ⟨O, k⟩ hI X' hY
  dsimp only at hI
  have hsl : k < 1024 → slF (g0 l) (1024 - k).toNat = if gtR .bool (g0 l) k then k :: slF (g0 l) (1024 - (k + 1)).toNat else slF (g0 l) (1024 - (k + 1)).toNat := fun h => by
    rw [show (1024 - k).toNat = (1024 - (k + 1)).toNat + 1 by omega, slF, show (1024 : Int) - ((1024 - (k + 1)).toNat + 1 : Nat) = k by omega]
  have hse : ¬ k < 1024 → slF (g0 l) (1024 - k).toNat = [] := fun h => by rw [show (1024 - k).toNat = 0 by omega]; rfl
  cbv
  repeat' (first | exact True.intro | refine And.intro ?_ ?_ | (refine BR.mk ?_ ?_ <;> intro _) | (refine CASE.mk ?_; intro _) | refine NEXT.mk (hY (_, _) _ _ ?_ ?_ (.inl ⟨rfl, rfl⟩)))
  all_goals clear hY
  all_goals subst_vars
  all_goals try simp only [Short_iff, cmpR, arR, mxR, INB_iff, SLB_iff, SLM_iff, NZ_iff, NN_iff, EQN_iff, LEN_iff, LIM_iff, MK_iff, decide_eq_true_eq, decide_eq_false_iff_not, ne_eq, Bool.and_eq_true] at *
  all_goals try dsimp only [Ty.den] at *
  all_goals try simp only [nc_eq] at *
  all_goals try (simp (disch := omega) only [wrap64] at *)
  all_goals first
    | (refine hD.ogT' ?_ ?_ ?_ (rows_int _) rfl <;> first | rfl | (clear hD; grind))
    | grind
theorem cStartsO (nt : Option Bool) (t T : List Int) (e : Int) (hT : T = staT t) (he : e = staE t) (h : t.length ≤ 1500) : OwnL Tryd.prog 25 ([injT (.sl tI) (nt, t)]) (tI) 3 (T) (shT (iv e)) := by
  refine OwnL.of fun d bs hD => OwnS.of (S := [(38, _)]) (T := []) (tbl := [(39, ac39 none, [.tmp 2], 4), (42, ac42 none, [.tmp 4], 26)]) (n := 24) hmD cfg (.cons (spT1.ok (a := (.sl (.sl (.int .i64)))) fun x0 h => cOfT x0.1 x0.2 h) .nil) .nil (.cons Tryd.call39 Tryd.func39 (ac39_ok none) (by rw [Tryd.ntmps39]; exact Nat.le_refl _) (.cons Tryd.call42 Tryd.func42 (ac42_ok none) (by rw [Tryd.ntmps42]; exact Nat.le_refl _) .nil)) 6 Tryd.call25 Tryd.func25 (ac25_ok (some (0, 0)) (some (3, 0))) (by rw [Tryd.ntmps25]; exact Nat.le_refl _) rfl _ _ ?_
  intro cmp ar cv tn ic ai mx an ad ml sb mn ln em gt up ap sc vw cp rp p1 p2 s1 s2 X Y hX hY r0 r1 r2 r3 r4 r5 r6 r7 r8 r9 r10 r11 r12 r13 r14 r15 r16 r17 r18 r19 r20 r21 r22 r23 r24
  generalize hg0 : swA = g0
  generalize hg1 : swE = g1
  cbv
  have hlay : LAYOK [(1024, Value.bool false)] [SegT.a 1024 Ty.bool] := LAYOK.mk (by kernel_rfl)
  have hpre : PRE (pSw [(nt, t)]) := ⟨⟨by simp, by intro x hx; obtain rfl := List.mem_singleton.1 hx; exact h⟩⟩
  have hT2 : staT t = if staE t ≠ 0 then [] else stF (swA [(nt, t)]) 1024 := rfl
  have he2 : staE t = swE [(nt, t)] := rfl
  have hn : nlLe (some true) none := by simp [nlLe_none]
  have hn2 : nlLe none none := by simp [nlLe_none]
  obtain ⟨a0, a1, a2, a3, hA⟩ : ∃ a0 a1 a2 a3 : Int, a0 = 0 ∧ a1 = 2 ∧ a2 = 7 ∧ a3 = 9 := ⟨_, _, _, _, rfl, rfl, rfl, rfl⟩
  refine ⟨hpre, hlay, BR.mk (fun hc => ?_) fun hc => ?_⟩
  · refine hD.nilT' ?_ ?_ rfl rfl <;> (clear hX hpre hD; subst_vars; simp only [Short_iff, cmpR, arR, mxR, INB_iff, SLB_iff, SLM_iff, NZ_iff, NN_iff, EQN_iff, LEN_iff, LIM_iff, MK_iff, decide_eq_true_eq, decide_eq_false_iff_not, ne_eq, Bool.and_eq_true] at *; grind)
  refine ALLY.mk fun y => ?_
  cbv
  refine LOOP.ind (σ := List Int × Int) (fun (O, k) => [(0, .fn (.yield y) [] []), (5, .ptr 1 0), (6, .p (iv k))]) (fun (O, k) => ⟨[{ cells := [.og 0 tI O], e := 29, fz := false }, { cells := [.arr 1024 .bool (g0 [(nt, t)])], e := 67, fz := false }, { cells := [.ptr 1 0], e := 77, fz := false }], [(ml (ln tI O) 1, 3)]⟩) (fun (O, k) => (1024 - k).toNat)
    (fun (O, k) => 0 ≤ k ∧ k ≤ 1024 ∧ O.length ≤ k ∧ O ++ stF (g0 [(nt, t)]) (1024 - k).toNat = stF (g0 [(nt, t)]) 1024) ([], 0) (by simp) (.inr ⟨[some 0, some 1, some 2], [none], ?_⟩) ?_
  · rw [SIM_iff]; cbv
    simp
  intro ⟨O, k⟩ hI X' hY
  dsimp only at hI
  have hsl : k < 1024 → stF (g0 [(nt, t)]) (1024 - k).toNat = if gtR .bool (g0 [(nt, t)]) k && stM (g0 [(nt, t)]) k then k :: stF (g0 [(nt, t)]) (1024 - (k + 1)).toNat else stF (g0 [(nt, t)]) (1024 - (k + 1)).toNat := fun h => by
    rw [show (1024 - k).toNat = (1024 - (k + 1)).toNat + 1 by omega, stF, show (1024 : Int) - ((1024 - (k + 1)).toNat + 1 : Nat) = k by omega]
  have hse : ¬ k < 1024 → stF (g0 [(nt, t)]) (1024 - k).toNat = [] := fun h => by rw [show (1024 - k).toNat = 0 by omega]; rfl
  cbv
  repeat' (first | exact True.intro | refine And.intro ?_ ?_ | (refine BR.mk ?_ ?_ <;> intro _) | (refine CASE.mk ?_; intro _) | refine NEXT.mk (hY (_, _) _ _ ?_ ?_ (.inl ⟨rfl, rfl⟩)))
  all_goals first | (show LOOP _ _ _ _ _ _; skip) | (refine hD.ogT' ?_ ?_ ?_ (rows_int _) rfl <;> first | (rw [r12, r9]; rfl) | (clear hD; (clear hY; subst_vars; (all_goals try simp only [Short_iff, cmpR, arR, mxR, INB_iff, SLB_iff, SLM_iff, NZ_iff, NN_iff, EQN_iff, LEN_iff, LIM_iff, MK_iff, decide_eq_true_eq, decide_eq_false_iff_not, ne_eq, Bool.and_eq_true, cmpR, arR] at *); (all_goals try dsimp only [Ty.den] at *); (all_goals try simp only [nc_eq] at *); (all_goals try (simp (disch := omega) only [wrap64] at *)); all_goals grind))) | (clear hY; subst_vars; (all_goals try simp only [Short_iff, cmpR, arR, mxR, INB_iff, SLB_iff, SLM_iff, NZ_iff, NN_iff, EQN_iff, LEN_iff, LIM_iff, MK_iff, decide_eq_true_eq, decide_eq_false_iff_not, ne_eq, Bool.and_eq_true, cmpR, arR] at *); (all_goals try dsimp only [Ty.den] at *); (all_goals try simp only [nc_eq] at *); (all_goals try (simp (disch := omega) only [wrap64] at *)); all_goals grind) 
  refine LOOP.ind0 (σ := Int) (fun i => [(0, .ptr 1 0), (1, .p (iv k)), (7, .agg [.p (iv a0), .p (iv a1), .p (iv a2), .p (iv a3)]), (8, .p (iv i))]) (fun _ => ⟨[{ cells := [.og 0 tI O], e := 29, fz := false }, { cells := [.arr 1024 .bool (g0 [(nt, t)])], e := 67, fz := false }, { cells := [.ptr 1 0], e := 77, fz := false }], [(ml (ln tI O) 1, 3)]⟩) (fun i => (4 - i).toNat) (fun i => 0 ≤ i ∧ i ≤ 4 ∧ (1 ≤ i → stC (g0 [(nt, t)]) k 0) ∧ (2 ≤ i → stC (g0 [(nt, t)]) k 2) ∧ (3 ≤ i → stC (g0 [(nt, t)]) k 7) ∧ (4 ≤ i → stC (g0 [(nt, t)]) k 9)) 0 (by simp) (.inl ⟨?_, rfl⟩) ?_
  · obtain ⟨rfl, rfl, rfl, rfl⟩ := hA; rw [r14, r21, r22]; rfl
  intro i hJ X2 hZ
  have hst := stM_iff (S := g0 [(nt, t)]) (n := k)
  have hsc := stC_iff (S := g0 [(nt, t)]) (n := k)
  cbv
  repeat' (first | exact True.intro | refine And.intro ?_ ?_ | (refine BR.mk ?_ ?_ <;> intro _) | (refine CASE.mk ?_; intro _) | refine NEXT.mk (hZ _ _ _ ?_ ?_ (.inl ⟨rfl, rfl⟩)) | refine NEXT.mk (hY (_, _) _ _ ?_ ?_ (.inl ⟨rfl, rfl⟩)))
  all_goals clear hZ
  all_goals clear hY
  all_goals subst_vars
  all_goals try simp only [Short_iff, cmpR, arR, mxR, INB_iff, SLB_iff, SLM_iff, NZ_iff, NN_iff, EQN_iff, LEN_iff, LIM_iff, MK_iff, decide_eq_true_eq, decide_eq_false_iff_not, ne_eq, Bool.and_eq_true] at *
  all_goals try dsimp only [Ty.den] at *
  all_goals try simp only [nc_eq] at *
  all_goals try (simp (disch := omega) only [wrap64] at *)
  all_goals first | omega | (clear hD; grind)
theorem cShiftO (nt : Option Bool) (t T : List Int) (n e : Int) (hT : T = shiT t n) (he : e = shiE t n) (h : Short 2000 t) : OwnL Tryd.prog 20 ([injT (.sl tI) (nt, t), injT tI n]) (tI) 3 (T) (shT (iv e)) := by
  refine OwnL.of fun d bs hD => OwnS.of (S := [(22, _)]) (T := []) (tbl := []) (n := 53) hmD cfg (.cons (spT1.ok (a := (.sl (.int .i64))) fun x0 h => cChk x0.1 x0.2 h) .nil) .nil .nil 0 Tryd.call20 Tryd.func20 (ac20_ok (some (0, 0))) (by rw [Tryd.ntmps20]; exact Nat.le_refl _) rfl _ _ ?_
  intro cmp ar cv tn ic ai mx an ad ml sb mn ln em gt up ap sc vw cp rp p1 p2 s1 s2 X Y hX hY r0 r1 r2 r3 r4 r5 r6 r7 r8 r9 r10 r11 r12 r13 r14 r15 r16 r17 r18 r19 r20 r21 r22 r23 r24
  generalize hg0 : chkE = g0
  cbv
  have hp := h.h
  have hE := fun h => chkE_rng (l := t) h
  obtain ⟨m, hm0⟩ : ∃ m : Int, m = ar .sub .i64 (ic (ln tI t)) 1 := ⟨_, rfl⟩
  have wl : t.length ≠ 0 → m = t.length - 1 := fun h => by rw [hm0, r1, r4, r12]; exact wrap64 (n := t.length - 1) (by omega) (by omega)
  rw [← hm0]
  obtain ⟨u, hu⟩ : ∃ u : Int, u = gt tI t 0 := ⟨_, rfl⟩
  obtain ⟨v, hv⟩ : ∃ v : Int, v = gt tI t m := ⟨_, rfl⟩
  rw [← hu, ← hv]
  obtain ⟨un, hun⟩ : ∃ m : Int, m = ar .sub .i64 0 u := ⟨_, rfl⟩
  obtain ⟨vn, hvn⟩ : ∃ m : Int, m = ar .sub .i64 1024 v := ⟨_, rfl⟩
  rw [← hun, ← hvn]
  have hu1 : u = gtR tI t 0 := by rw [hu, r14]
  have hv1 : t.length ≠ 0 → v = gtR tI t (t.length - 1) := fun h => by rw [hv, r14, wl h]
  have hun1 : un = IntKind.i64.wrap (0 - u) := by rw [hun, r1]; rfl
  have hvn1 : vn = IntKind.i64.wrap (1024 - v) := by rw [hvn, r1]; rfl
  have hu' : 0 < t.length → u ∈ t := fun h => by rw [hu1]; exact gtR_mem (t := tI) (l := t) (i := 0) (by omega) (by omega)
  have hv' : 0 < t.length → v ∈ t := fun h => by rw [hv1 (by omega)]; exact gtR_mem (t := tI) (l := t) (i := t.length - 1) (by omega) (by omega)
  have hm : shiE t n = if chkE t ≠ 0 then chkE t else if t.length = 0 then 0 else if n < - u ∨ n ≥ 1024 - v then 7 else 0 := by
    unfold shiE
    split
    · rfl
    · split
      · rfl
      · rw [← hv1 (by assumption), hu1]
  have hT2 : shiT t n = if shiE t n ≠ 0 then [] else t.map (· + n) := rfl
  have hn : nlLe (some true) none := by simp [nlLe_none]
  have hx : chkE t = 0 → t.length ≠ 0 → (0 ≤ u ∧ u < 1024) ∧ (0 ≤ v ∧ v < 1024) := fun h2 h3 => ⟨hE h2 _ (hu' (by omega)), hE h2 _ (hv' (by omega))⟩
  have w0 : chkE t = 0 → t.length ≠ 0 → un = - u := fun h2 h3 => by have := hx h2 h3; rw [hun1, wrap64] <;> omega
  have w2 : chkE t = 0 → t.length ≠ 0 → vn = 1024 - v := fun h2 h3 => by have := hx h2 h3; rw [hvn1, wrap64] <;> omega
  have wx : ∀ i x : Int, x = gtR tI t i → 0 ≤ i → i < t.length → chkE t = 0 → ¬ n < - u → ¬ n ≥ 1024 - v → IntKind.i64.wrap (x + n) = x + n := fun i x hx0 h2 h3 h4 h5 h6 => by
    have := hx h4 (by omega); have := hE h4 x (by rw [hx0]; exact gtR_mem (t := tI) h2 h3); rw [wrap64] <;> omega
  clear hu1 hv1 hun1 hvn1 hu' hv' hun hvn hu hv hm0
  have hT0 : t.length = 0 → t.map (· + n) = [] := fun h => by rw [List.eq_nil_of_length_eq_zero h]; rfl
  clear hE h
  obtain ⟨Z, hZ⟩ : ∃ Z : List Int, Z = List.replicate t.length 0 := ⟨_, rfl⟩
  repeat' (first | exact True.intro | refine And.intro ?_ ?_ | (refine BR.mk ?_ ?_ <;> intro _) | (refine CASE.mk ?_; intro _) | refine NEXT.mk (hX _ _ _ ?_ ?_ (.inl ⟨rfl, rfl⟩)))
  all_goals first | (show LOOP _ _ _ _ _ _; skip) | (refine hD.nilT' ?_ ?_ rfl rfl <;> (clear hD; (clear hX; subst_vars; (all_goals try simp only [Short_iff, cmpR, arR, mxR, INB_iff, SLB_iff, SLM_iff, NZ_iff, NN_iff, EQN_iff, LEN_iff, LIM_iff, MK_iff, decide_eq_true_eq, decide_eq_false_iff_not, ne_eq, Bool.and_eq_true, cmpR, arR] at *); (all_goals try dsimp only [Ty.den] at *); (all_goals try simp only [nc_eq] at *); (all_goals try (simp (disch := omega) only [wrap64] at *)); all_goals grind))) | (clear hX; subst_vars; (all_goals try simp only [Short_iff, cmpR, arR, mxR, INB_iff, SLB_iff, SLM_iff, NZ_iff, NN_iff, EQN_iff, LEN_iff, LIM_iff, MK_iff, decide_eq_true_eq, decide_eq_false_iff_not, ne_eq, Bool.and_eq_true, cmpR, arR] at *); (all_goals try dsimp only [Ty.den] at *); (all_goals try simp only [nc_eq] at *); (all_goals try (simp (disch := omega) only [wrap64] at *)); all_goals grind) 
  refine LOOP.ind (σ := List Int × Int) (fun (L, i) => [(1, .p (iv n)), (7, .ms 0 0 1 none (tn (ic (ln tI t)))), (38, .tl nt tI t), (39, .p (iv (ic (ln tI t)))), (40, .p (iv i))]) (fun (L, i) => ⟨[{ cells := [.arr (tn (ic (ln tI t))) tI L], e := 3, fz := false, ap := true }], []⟩) (fun (L, i) => (t.length - i).toNat)
    (fun (L, i) => 0 ≤ i ∧ i ≤ t.length ∧ L = (t.take i.toNat).map (· + n) ++ List.replicate (t.length - i).toNat 0) (Z, 0) (by rw [hZ]; simp) (.inr ⟨[some 0], [], ?_⟩) ?_
  · rw [SIM_iff]; cbv
    have e : rp tI (tn (ic (ln tI t))) (0 : Int) = Z := by rw [hZ, r20, r3, r4, r12]; rfl
    exact ⟨⟨⟨e, trivial⟩, trivial⟩, ⟨nlLe_self.2 trivial, trivial⟩, trivial⟩
  intro ⟨L, i⟩ hI X' hY
  dsimp only at hI
  have hL : L.length = t.length := by rw [hI.2.2]; simp; omega
  have hup : 0 ≤ i → i < t.length → chkE t = 0 → ¬ n < - u → ¬ n ≥ 1024 - v → upR tI t.length L i (IntKind.i64.wrap (gtR tI t i + n)) = (t.take (i + 1).toNat).map (· + n) ++ List.replicate (t.length - (i + 1)).toNat (0 : Int) := fun h1 h2 h3 h4 h5 => by
    rw [upR_len (t := tI) hL i, wx i _ rfl h1 h2 h3 h4 h5, hI.2.2]; exact shi_set hI.1 h2
  have hvw : ¬ i < t.length → vwR tI t.length L 0 t.length = t.map (· + n) := fun h => by
    rw [vw_all (t := tI) hL, hI.2.2, show (t.length - i).toNat = 0 by omega, show i.toNat = t.length by omega]; simp
  clear wx
  have hLne : t.length ≠ 0 → L ≠ [] := fun h h2 => by rw [h2] at hL; exact h hL.symm
  have hL2 : ¬ i < t.length → L = t.map (· + n) := fun h => by rw [hI.2.2, show (t.length - i).toNat = 0 by omega, show i.toNat = t.length by omega]; simp
  cbv
  repeat' (first | exact True.intro | refine And.intro ?_ ?_ | (refine BR.mk ?_ ?_ <;> intro _) | (refine CASE.mk ?_; intro _) | refine NEXT.mk (hY (_, _) _ _ ?_ ?_ (.inl ⟨rfl, rfl⟩)))
  all_goals clear hY
  all_goals subst_vars
  all_goals try simp only [Short_iff, cmpR, arR, mxR, INB_iff, SLB_iff, SLM_iff, NZ_iff, NN_iff, EQN_iff, LEN_iff, LIM_iff, MK_iff, decide_eq_true_eq, decide_eq_false_iff_not, ne_eq, Bool.and_eq_true, Int.toNat_natCast] at *
  all_goals try dsimp only [Ty.den] at *
  all_goals try simp only [nc_eq] at *
  all_goals try (simp (disch := omega) only [wrap64] at *)
  all_goals first
    | (refine hD.msT' ?_ ?_ ?_ ?_ ?_ rfl rfl (rows_int _) rfl <;> first | rfl | (clear hD; grind))
    | (clear hD; grind)
theorem cReadOS (nt : Option Bool) (t B : List Int) (n a e : Int) (hB : B = reaB t n false) (ha : a = reaN t n false) (he : e = reaE t n false) (h : t.length ≤ 1500) : OwnL Tryd.prog 27 ([injT (.sl tI) (nt, t), injT tI n, .p (.v (.bool false))]) (tB) 5 (B) (shA (iv a) (iv e)) := by
  refine OwnL.of fun d bs hD => OwnS.of (S := [(38, _)]) (T := []) (tbl := [(42, ac42 none, [.tmp 4], 26)]) (n := 82) hmD cfg (.cons (spT1.ok (a := (.sl (.sl (.int .i64)))) fun x0 h => cOfT x0.1 x0.2 h) .nil) .nil (.cons Tryd.call42 Tryd.func42 (ac42_ok none) (by rw [Tryd.ntmps42]; exact Nat.le_refl _) .nil) 6 Tryd.call27 Tryd.func27 (ac27_ok (some (0, 0))) (by rw [Tryd.ntmps27]; exact Nat.le_refl _) rfl _ _ ?_
  intro cmp ar cv tn ic ai mx an ad ml sb mn ln em gt up ap sc vw cp rp p1 p2 s1 s2 X Y hX hY r0 r1 r2 r3 r4 r5 r6 r7 r8 r9 r10 r11 r12 r13 r14 r15 r16 r17 r18 r19 r20 r21 r22 r23 r24
  generalize hg0 : swA = g0
  generalize hg1 : swE = g1
  cbv
  have hlay : LAYOK [(1024, Value.bool false)] [SegT.a 1024 Ty.bool] := LAYOK.mk (by kernel_rfl)
  have hpre : PRE (pSw [(nt, t)]) := ⟨⟨by simp, by intro x hx; obtain rfl := List.mem_singleton.1 hx; exact h⟩⟩
  have he2 : reaE t n false = if g1 [(nt, t)] ≠ 0 then g1 [(nt, t)] else if n < 0 ∨ n > 1008 - 2 * 56 then 7 else if stM (g0 [(nt, t)]) n = false then 9 else if okL (g0 [(nt, t)]) n 56 0 = false then 9 else 0 := by rw [← hg0, ← hg1]; rfl
  have ha2 : reaN t n false = if reaE t n false ≠ 0 then 0 else n := rfl
  have hB2 : reaB t n false = if reaE t n false ≠ 0 then [] else biL (g0 [(nt, t)]) n 56 0 := by rw [← hg0]; rfl
  have hn : nlLe (some true) none := by simp [nlLe_none]
  have hn2 : nlLe none none := by simp [nlLe_none]
  have hn3 : nlLe (some false) none := by simp [nlLe_none]
  obtain ⟨a0, a1, a2, a3, hA⟩ : ∃ a0 a1 a2 a3 : Int, a0 = 0 ∧ a1 = 2 ∧ a2 = 7 ∧ a3 = 9 := ⟨_, _, _, _, rfl, rfl, rfl, rfl⟩
  have hw : ar .sub .i64 1008 (ar .mul .i64 2 56) = 1008 - 2 * 56 := by rw [r1]; rfl
  rw [hw]
  repeat' (first | exact True.intro | refine And.intro ?_ ?_ | (refine BR.mk ?_ ?_ <;> intro _) | (refine CASE.mk ?_; intro _) | refine NEXT.mk (hX _ _ _ ?_ ?_ (.inl ⟨rfl, rfl⟩)))
  all_goals first | (show LOOP _ _ _ _ _ _; skip) | (refine hD.nilA' ?_ ?_ ?_ rfl rfl rfl <;> (clear hD; (clear hX; subst_vars; (all_goals try simp only [Short_iff, cmpR, arR, mxR, INB_iff, SLB_iff, SLM_iff, NZ_iff, NN_iff, EQN_iff, LEN_iff, LIM_iff, MK_iff, decide_eq_true_eq, decide_eq_false_iff_not, ne_eq, Bool.and_eq_true, cmpR, arR] at *); (all_goals try dsimp only [Ty.den] at *); (all_goals try simp only [nc_eq] at *); (all_goals try (simp (disch := omega) only [wrap64] at *)); all_goals grind))) | (clear hX; subst_vars; (all_goals try simp only [Short_iff, cmpR, arR, mxR, INB_iff, SLB_iff, SLM_iff, NZ_iff, NN_iff, EQN_iff, LEN_iff, LIM_iff, MK_iff, decide_eq_true_eq, decide_eq_false_iff_not, ne_eq, Bool.and_eq_true, cmpR, arR] at *); (all_goals try dsimp only [Ty.den] at *); (all_goals try simp only [nc_eq] at *); (all_goals try (simp (disch := omega) only [wrap64] at *)); all_goals grind) 
  refine LOOP.ind0 (σ := Int) (fun i => [(0, .ptr 1 0), (1, .p (iv n)), (7, .agg [.p (iv a0), .p (iv a1), .p (iv a2), .p (iv a3)]), (8, .p (iv i))]) (fun _ => ⟨[{ cells := [.p (iv 0), .p (.sl (some true) 0 [])], e := 46, fz := false }, { cells := [.arr 1024 .bool (g0 [(nt, t)])], e := 67, fz := false }], []⟩) (fun i => (4 - i).toNat) (fun i => 0 ≤ i ∧ i ≤ 4 ∧ (1 ≤ i → stC (g0 [(nt, t)]) n 0) ∧ (2 ≤ i → stC (g0 [(nt, t)]) n 2) ∧ (3 ≤ i → stC (g0 [(nt, t)]) n 7) ∧ (4 ≤ i → stC (g0 [(nt, t)]) n 9)) 0 (by simp) (.inl ⟨?_, rfl⟩) ?_
  · obtain ⟨rfl, rfl, rfl, rfl⟩ := hA; rw [r14, r21, r22]; rfl
  intro i hJ X2 hZ
  have hst := stM_iff (S := g0 [(nt, t)]) (n := n)
  have hsc := stC_iff (S := g0 [(nt, t)]) (n := n)
  obtain ⟨Z, hZZ⟩ : ∃ Z : List Int, Z = List.replicate 56 0 := ⟨_, rfl⟩
  cbv
  repeat' (first | exact True.intro | refine And.intro ?_ ?_ | (refine BR.mk ?_ ?_ <;> intro _) | (refine CASE.mk ?_; intro _) | refine NEXT.mk (hZ _ _ _ ?_ ?_ (.inl ⟨rfl, rfl⟩)))
  all_goals first | (show LOOP _ _ _ _ _ _; skip) | (refine hD.nilA' ?_ ?_ ?_ rfl rfl rfl <;> (clear hD; (clear hZ; subst_vars; (all_goals try simp only [Short_iff, cmpR, arR, mxR, INB_iff, SLB_iff, SLM_iff, NZ_iff, NN_iff, EQN_iff, LEN_iff, LIM_iff, MK_iff, decide_eq_true_eq, decide_eq_false_iff_not, ne_eq, Bool.and_eq_true, cmpR, arR] at *); (all_goals try dsimp only [Ty.den] at *); (all_goals try simp only [nc_eq] at *); (all_goals try (simp (disch := omega) only [wrap64] at *)); all_goals grind))) | (clear hZ; subst_vars; (all_goals try simp only [Short_iff, cmpR, arR, mxR, INB_iff, SLB_iff, SLM_iff, NZ_iff, NN_iff, EQN_iff, LEN_iff, LIM_iff, MK_iff, decide_eq_true_eq, decide_eq_false_iff_not, ne_eq, Bool.and_eq_true, cmpR, arR] at *); (all_goals try dsimp only [Ty.den] at *); (all_goals try simp only [nc_eq] at *); (all_goals try (simp (disch := omega) only [wrap64] at *)); all_goals grind) 
  have hn0 : 0 ≤ n := by have h := ‹cmp .lss n 0 = false›; rw [r0] at h; simpa [cmpR] using h
  have hn1 : n ≤ 1008 - 2 * 56 := by have h := ‹cmp .gtr n (1008 - 2 * 56) = false›; rw [r0] at h; simpa [cmpR] using h
  have hi4 : ¬ i < 4 := by have h := ‹cmp .lss i 4 = false›; rw [r0] at h; simpa [cmpR] using h
  have hst3 : stM (g0 [(nt, t)]) n = true := hst.2 ⟨hJ.2.2.1 (by omega), hJ.2.2.2.1 (by omega), hJ.2.2.2.2.1 (by omega), hJ.2.2.2.2.2 (by omega)⟩
  clear hZ hst hsc hJ hi4
  refine LOOP.ind (σ := List Int × Int) (fun (L, k) => [(1, .p (iv n)), (6, .ptr 0 0), (8, .ptr 1 0), (10, .ms 2 0 1 none (tn 56)), (42, .p (iv (ic (tn 56)))), (43, .p (iv k))]) (fun (L, k) => ⟨[{ cells := [.p (iv 0), .p (.sl (some true) 0 [])], e := 46, fz := false }, { cells := [.arr 1024 .bool (g0 [(nt, t)])], e := 67, fz := false }, { cells := [.arr (tn 56) tB L], e := 5, fz := false, ap := true }], []⟩) (fun (L, k) => (56 - k).toNat)
    (fun (L, k) => 0 ≤ k ∧ k ≤ 56 ∧ L.length = (56 : Int) ∧ L.drop k.toNat = List.replicate (56 - k).toNat 0 ∧ L.take k.toNat ++ biL (g0 [(nt, t)]) n (56 - k).toNat k = biL (g0 [(nt, t)]) n 56 0 ∧ okL (g0 [(nt, t)]) n (56 - k).toNat k = okL (g0 [(nt, t)]) n 56 0) (Z, 0) (by simp [hZZ]) (.inl ⟨rfl, ?_⟩) ?_
  · have e : rp tB (tn 56) (0 : Int) = Z := by rw [hZZ, r20, r3]; rfl
    rw [e]
  intro ⟨L, k⟩ hI X3 hY
  dsimp only at hI
  obtain ⟨hI1, hI2, hI3, hI4, hI5, hI6⟩ := hI
  obtain ⟨p, hp⟩ : ∃ p : Int, p = ar .add .i64 (ar .add .i64 n 16) (ar .mul .i64 2 k) := ⟨_, rfl⟩
  obtain ⟨q, hq⟩ : ∃ p : Int, p = ar .add .i64 (ar .add .i64 (ar .add .i64 n 16) (ar .mul .i64 2 k)) 1 := ⟨_, rfl⟩
  have hpv : p = n + 16 + 2 * k := by
    have e1 : ar .add .i64 n 16 = n + 16 := by rw [r1]; exact wrap64 (n := n + 16) (by omega) (by omega)
    have e2 : ar .mul .i64 2 k = 2 * k := by rw [r1]; exact wrap64 (n := 2 * k) (by omega) (by omega)
    rw [hp, e1, e2, r1]; exact wrap64 (n := n + 16 + 2 * k) (by omega) (by omega)
  have hqv : q = n + 16 + 2 * k + 1 := by
    rw [hq, ← hp, hpv, r1]; exact wrap64 (n := n + 16 + 2 * k + 1) (by omega) (by omega)
  have hst1 : k < 56 → biL (g0 [(nt, t)]) n (56 - k).toNat k = biV (g0 [(nt, t)]) n k :: biL (g0 [(nt, t)]) n (56 - (k + 1)).toNat (k + 1) := fun h => by
    rw [show (56 - k).toNat = (56 - (k + 1)).toNat + 1 by omega]; rfl
  have hst2 : k < 56 → okL (g0 [(nt, t)]) n (56 - k).toNat k = (biO (g0 [(nt, t)]) n k && okL (g0 [(nt, t)]) n (56 - (k + 1)).toNat (k + 1)) := fun h => by
    rw [show (56 - k).toNat = (56 - (k + 1)).toNat + 1 by omega]; rfl
  have hbv : biV (g0 [(nt, t)]) n k = if gtR .bool (g0 [(nt, t)]) p then (if gtR .bool (g0 [(nt, t)]) q then 2 else 1) else 0 := by rw [hpv, hqv]; rfl
  have hbo : biO (g0 [(nt, t)]) n k = (gtR .bool (g0 [(nt, t)]) p || gtR .bool (g0 [(nt, t)]) q) := by rw [hpv, hqv]; rfl
  have hse1 : ¬ k < 56 → biL (g0 [(nt, t)]) n (56 - k).toNat k = [] := fun h => by rw [show (56 - k).toNat = 0 by omega]; rfl
  have hse2 : ¬ k < 56 → okL (g0 [(nt, t)]) n (56 - k).toNat k = true := fun h => by rw [show (56 - k).toNat = 0 by omega]; rfl
  have hse3 : ¬ k < 56 → L.take k.toNat = L := fun h => List.take_of_length_le (by omega)
  have hs : ∀ x, k < 56 → (upR tB 56 L k x).take (k + 1).toNat = L.take k.toNat ++ [x] ∧ (upR tB 56 L k x).drop (k + 1).toNat = List.replicate (56 - (k + 1)).toNat 0 ∧ ((upR tB 56 L k x).length : Int) = 56 := fun x h => by
    rw [upR_len (t := tB) (by omega) k x]; exact rep_up hI1 h hI3 hI4 x
  have hs0 := fun h => rep_no (m := 56) hI1 h hI3 hI4
  have hvw : vwR tB 56 L 0 56 = L := vw_all (t := tB) (by omega)
  have hLne : L ≠ [] := fun h2 => by rw [h2] at hI3; simp at hI3
  have hLM : L.length = 56 := by omega
  cbv
  rw [← hq, ← hp]
  clear hp hq
  repeat' (first | exact True.intro | refine And.intro ?_ ?_ | (refine BR.mk ?_ ?_ <;> intro _) | (refine CASE.mk ?_; intro _) | refine NEXT.mk (hY (_, _) _ _ ?_ ?_ (.inl ⟨rfl, rfl⟩)))
  all_goals clear hY
  all_goals subst_vars
  all_goals try simp only [Short_iff, cmpR, arR, mxR, INB_iff, SLB_iff, SLM_iff, NZ_iff, NN_iff, EQN_iff, LEN_iff, LIM_iff, MK_iff, decide_eq_true_eq, decide_eq_false_iff_not, ne_eq, Bool.and_eq_true, show (56 : Int).toNat = 56 from rfl] at *
  all_goals try dsimp only [Ty.den] at *
  all_goals try simp only [nc_eq] at *
  all_goals try (simp (disch := omega) only [wrap64] at *)
  all_goals first
    | omega
    | (refine hD.nilA' ?_ ?_ ?_ rfl rfl rfl <;> (clear hD; grind))
    | (refine hD.msA' ?_ ?_ ?_ ?_ ?_ ?_ rfl (rows_int _) rfl rfl <;> first | rfl | (clear hD; grind))
    | (clear hD; grind)
theorem cReadOL (nt : Option Bool) (t B : List Int) (n a e : Int) (hB : B = reaB t n true) (ha : a = reaN t n true) (he : e = reaE t n true) (h : t.length ≤ 1500) : OwnL Tryd.prog 27 ([injT (.sl tI) (nt, t), injT tI n, .p (.v (.bool true))]) (tB) 5 (B) (shA (iv a) (iv e)) := by
  refine OwnL.of fun d bs hD => OwnS.of (S := [(38, _)]) (T := []) (tbl := [(42, ac42 none, [.tmp 4], 26)]) (n := 82) hmD cfg (.cons (spT1.ok (a := (.sl (.sl (.int .i64)))) fun x0 h => cOfT x0.1 x0.2 h) .nil) .nil (.cons Tryd.call42 Tryd.func42 (ac42_ok none) (by rw [Tryd.ntmps42]; exact Nat.le_refl _) .nil) 6 Tryd.call27 Tryd.func27 (ac27_ok (some (0, 0))) (by rw [Tryd.ntmps27]; exact Nat.le_refl _) rfl _ _ ?_
  intro cmp ar cv tn ic ai mx an ad ml sb mn ln em gt up ap sc vw cp rp p1 p2 s1 s2 X Y hX hY r0 r1 r2 r3 r4 r5 r6 r7 r8 r9 r10 r11 r12 r13 r14 r15 r16 r17 r18 r19 r20 r21 r22 r23 r24
  generalize hg0 : swA = g0
  generalize hg1 : swE = g1
  cbv
  have hlay : LAYOK [(1024, Value.bool false)] [SegT.a 1024 Ty.bool] := LAYOK.mk (by kernel_rfl)
  have hpre : PRE (pSw [(nt, t)]) := ⟨⟨by simp, by intro x hx; obtain rfl := List.mem_singleton.1 hx; exact h⟩⟩
  have he2 : reaE t n true = if g1 [(nt, t)] ≠ 0 then g1 [(nt, t)] else if n < 0 ∨ n > 1008 - 2 * 112 then 7 else if stM (g0 [(nt, t)]) n = false then 9 else if okL (g0 [(nt, t)]) n 112 0 = false then 9 else 0 := by rw [← hg0, ← hg1]; rfl
  have ha2 : reaN t n true = if reaE t n true ≠ 0 then 0 else n := rfl
  have hB2 : reaB t n true = if reaE t n true ≠ 0 then [] else biL (g0 [(nt, t)]) n 112 0 := by rw [← hg0]; rfl
  have hn : nlLe (some true) none := by simp [nlLe_none]
  have hn2 : nlLe none none := by simp [nlLe_none]
  have hn3 : nlLe (some false) none := by simp [nlLe_none]
  obtain ⟨a0, a1, a2, a3, hA⟩ : ∃ a0 a1 a2 a3 : Int, a0 = 0 ∧ a1 = 2 ∧ a2 = 7 ∧ a3 = 9 := ⟨_, _, _, _, rfl, rfl, rfl, rfl⟩
  have hw : ar .sub .i64 1008 (ar .mul .i64 2 112) = 1008 - 2 * 112 := by rw [r1]; rfl
  rw [hw]
  repeat' (first | exact True.intro | refine And.intro ?_ ?_ | (refine BR.mk ?_ ?_ <;> intro _) | (refine CASE.mk ?_; intro _) | refine NEXT.mk (hX _ _ _ ?_ ?_ (.inl ⟨rfl, rfl⟩)))
  all_goals first | (show LOOP _ _ _ _ _ _; skip) | (refine hD.nilA' ?_ ?_ ?_ rfl rfl rfl <;> (clear hD; (clear hX; subst_vars; (all_goals try simp only [Short_iff, cmpR, arR, mxR, INB_iff, SLB_iff, SLM_iff, NZ_iff, NN_iff, EQN_iff, LEN_iff, LIM_iff, MK_iff, decide_eq_true_eq, decide_eq_false_iff_not, ne_eq, Bool.and_eq_true, cmpR, arR] at *); (all_goals try dsimp only [Ty.den] at *); (all_goals try simp only [nc_eq] at *); (all_goals try (simp (disch := omega) only [wrap64] at *)); all_goals grind))) | (clear hX; subst_vars; (all_goals try simp only [Short_iff, cmpR, arR, mxR, INB_iff, SLB_iff, SLM_iff, NZ_iff, NN_iff, EQN_iff, LEN_iff, LIM_iff, MK_iff, decide_eq_true_eq, decide_eq_false_iff_not, ne_eq, Bool.and_eq_true, cmpR, arR] at *); (all_goals try dsimp only [Ty.den] at *); (all_goals try simp only [nc_eq] at *); (all_goals try (simp (disch := omega) only [wrap64] at *)); all_goals grind) 
  refine LOOP.ind0 (σ := Int) (fun i => [(0, .ptr 1 0), (1, .p (iv n)), (7, .agg [.p (iv a0), .p (iv a1), .p (iv a2), .p (iv a3)]), (8, .p (iv i))]) (fun _ => ⟨[{ cells := [.p (iv 0), .p (.sl (some true) 0 [])], e := 46, fz := false }, { cells := [.arr 1024 .bool (g0 [(nt, t)])], e := 67, fz := false }], []⟩) (fun i => (4 - i).toNat) (fun i => 0 ≤ i ∧ i ≤ 4 ∧ (1 ≤ i → stC (g0 [(nt, t)]) n 0) ∧ (2 ≤ i → stC (g0 [(nt, t)]) n 2) ∧ (3 ≤ i → stC (g0 [(nt, t)]) n 7) ∧ (4 ≤ i → stC (g0 [(nt, t)]) n 9)) 0 (by simp) (.inl ⟨?_, rfl⟩) ?_
  · obtain ⟨rfl, rfl, rfl, rfl⟩ := hA; rw [r14, r21, r22]; rfl
  intro i hJ X2 hZ
  have hst := stM_iff (S := g0 [(nt, t)]) (n := n)
  have hsc := stC_iff (S := g0 [(nt, t)]) (n := n)
  obtain ⟨Z, hZZ⟩ : ∃ Z : List Int, Z = List.replicate 112 0 := ⟨_, rfl⟩
  cbv
  repeat' (first | exact True.intro | refine And.intro ?_ ?_ | (refine BR.mk ?_ ?_ <;> intro _) | (refine CASE.mk ?_; intro _) | refine NEXT.mk (hZ _ _ _ ?_ ?_ (.inl ⟨rfl, rfl⟩)))
  all_goals first | (show LOOP _ _ _ _ _ _; skip) | (refine hD.nilA' ?_ ?_ ?_ rfl rfl rfl <;> (clear hD; (clear hZ; subst_vars; (all_goals try simp only [Short_iff, cmpR, arR, mxR, INB_iff, SLB_iff, SLM_iff, NZ_iff, NN_iff, EQN_iff, LEN_iff, LIM_iff, MK_iff, decide_eq_true_eq, decide_eq_false_iff_not, ne_eq, Bool.and_eq_true, cmpR, arR] at *); (all_goals try dsimp only [Ty.den] at *); (all_goals try simp only [nc_eq] at *); (all_goals try (simp (disch := omega) only [wrap64] at *)); all_goals grind))) | (clear hZ; subst_vars; (all_goals try simp only [Short_iff, cmpR, arR, mxR, INB_iff, SLB_iff, SLM_iff, NZ_iff, NN_iff, EQN_iff, LEN_iff, LIM_iff, MK_iff, decide_eq_true_eq, decide_eq_false_iff_not, ne_eq, Bool.and_eq_true, cmpR, arR] at *); (all_goals try dsimp only [Ty.den] at *); (all_goals try simp only [nc_eq] at *); (all_goals try (simp (disch := omega) only [wrap64] at *)); all_goals grind) 
  have hn0 : 0 ≤ n := by have h := ‹cmp .lss n 0 = false›; rw [r0] at h; simpa [cmpR] using h
  have hn1 : n ≤ 1008 - 2 * 112 := by have h := ‹cmp .gtr n (1008 - 2 * 112) = false›; rw [r0] at h; simpa [cmpR] using h
  have hi4 : ¬ i < 4 := by have h := ‹cmp .lss i 4 = false›; rw [r0] at h; simpa [cmpR] using h
  have hst3 : stM (g0 [(nt, t)]) n = true := hst.2 ⟨hJ.2.2.1 (by omega), hJ.2.2.2.1 (by omega), hJ.2.2.2.2.1 (by omega), hJ.2.2.2.2.2 (by omega)⟩
  clear hZ hst hsc hJ hi4
  refine LOOP.ind (σ := List Int × Int) (fun (L, k) => [(1, .p (iv n)), (6, .ptr 0 0), (8, .ptr 1 0), (10, .ms 2 0 1 none (tn 112)), (42, .p (iv (ic (tn 112)))), (43, .p (iv k))]) (fun (L, k) => ⟨[{ cells := [.p (iv 0), .p (.sl (some true) 0 [])], e := 46, fz := false }, { cells := [.arr 1024 .bool (g0 [(nt, t)])], e := 67, fz := false }, { cells := [.arr (tn 112) tB L], e := 5, fz := false, ap := true }], []⟩) (fun (L, k) => (112 - k).toNat)
    (fun (L, k) => 0 ≤ k ∧ k ≤ 112 ∧ L.length = (112 : Int) ∧ L.drop k.toNat = List.replicate (112 - k).toNat 0 ∧ L.take k.toNat ++ biL (g0 [(nt, t)]) n (112 - k).toNat k = biL (g0 [(nt, t)]) n 112 0 ∧ okL (g0 [(nt, t)]) n (112 - k).toNat k = okL (g0 [(nt, t)]) n 112 0) (Z, 0) (by simp [hZZ]) (.inl ⟨rfl, ?_⟩) ?_
  · have e : rp tB (tn 112) (0 : Int) = Z := by rw [hZZ, r20, r3]; rfl
    rw [e]
  intro ⟨L, k⟩ hI X3 hY
  dsimp only at hI
  obtain ⟨hI1, hI2, hI3, hI4, hI5, hI6⟩ := hI
  obtain ⟨p, hp⟩ : ∃ p : Int, p = ar .add .i64 (ar .add .i64 n 16) (ar .mul .i64 2 k) := ⟨_, rfl⟩
  obtain ⟨q, hq⟩ : ∃ p : Int, p = ar .add .i64 (ar .add .i64 (ar .add .i64 n 16) (ar .mul .i64 2 k)) 1 := ⟨_, rfl⟩
  have hpv : p = n + 16 + 2 * k := by
    have e1 : ar .add .i64 n 16 = n + 16 := by rw [r1]; exact wrap64 (n := n + 16) (by omega) (by omega)
    have e2 : ar .mul .i64 2 k = 2 * k := by rw [r1]; exact wrap64 (n := 2 * k) (by omega) (by omega)
    rw [hp, e1, e2, r1]; exact wrap64 (n := n + 16 + 2 * k) (by omega) (by omega)
  have hqv : q = n + 16 + 2 * k + 1 := by
    rw [hq, ← hp, hpv, r1]; exact wrap64 (n := n + 16 + 2 * k + 1) (by omega) (by omega)
  have hst1 : k < 112 → biL (g0 [(nt, t)]) n (112 - k).toNat k = biV (g0 [(nt, t)]) n k :: biL (g0 [(nt, t)]) n (112 - (k + 1)).toNat (k + 1) := fun h => by
    rw [show (112 - k).toNat = (112 - (k + 1)).toNat + 1 by omega]; rfl
  have hst2 : k < 112 → okL (g0 [(nt, t)]) n (112 - k).toNat k = (biO (g0 [(nt, t)]) n k && okL (g0 [(nt, t)]) n (112 - (k + 1)).toNat (k + 1)) := fun h => by
    rw [show (112 - k).toNat = (112 - (k + 1)).toNat + 1 by omega]; rfl
  have hbv : biV (g0 [(nt, t)]) n k = if gtR .bool (g0 [(nt, t)]) p then (if gtR .bool (g0 [(nt, t)]) q then 2 else 1) else 0 := by rw [hpv, hqv]; rfl
  have hbo : biO (g0 [(nt, t)]) n k = (gtR .bool (g0 [(nt, t)]) p || gtR .bool (g0 [(nt, t)]) q) := by rw [hpv, hqv]; rfl
  have hse1 : ¬ k < 112 → biL (g0 [(nt, t)]) n (112 - k).toNat k = [] := fun h => by rw [show (112 - k).toNat = 0 by omega]; rfl
  have hse2 : ¬ k < 112 → okL (g0 [(nt, t)]) n (112 - k).toNat k = true := fun h => by rw [show (112 - k).toNat = 0 by omega]; rfl
  have hse3 : ¬ k < 112 → L.take k.toNat = L := fun h => List.take_of_length_le (by omega)
  have hs : ∀ x, k < 112 → (upR tB 112 L k x).take (k + 1).toNat = L.take k.toNat ++ [x] ∧ (upR tB 112 L k x).drop (k + 1).toNat = List.replicate (112 - (k + 1)).toNat 0 ∧ ((upR tB 112 L k x).length : Int) = 112 := fun x h => by
    rw [upR_len (t := tB) (by omega) k x]; exact rep_up hI1 h hI3 hI4 x
  have hs0 := fun h => rep_no (m := 112) hI1 h hI3 hI4
  have hvw : vwR tB 112 L 0 112 = L := vw_all (t := tB) (by omega)
  have hLne : L ≠ [] := fun h2 => by rw [h2] at hI3; simp at hI3
  have hLM : L.length = 112 := by omega
  cbv
  rw [← hq, ← hp]
  clear hp hq
  repeat' (first | exact True.intro | refine And.intro ?_ ?_ | (refine BR.mk ?_ ?_ <;> intro _) | (refine CASE.mk ?_; intro _) | refine NEXT.mk (hY (_, _) _ _ ?_ ?_ (.inl ⟨rfl, rfl⟩)))
  all_goals clear hY
  all_goals subst_vars
  all_goals try simp only [Short_iff, cmpR, arR, mxR, INB_iff, SLB_iff, SLM_iff, NZ_iff, NN_iff, EQN_iff, LEN_iff, LIM_iff, MK_iff, decide_eq_true_eq, decide_eq_false_iff_not, ne_eq, Bool.and_eq_true, show (112 : Int).toNat = 112 from rfl] at *
  all_goals try dsimp only [Ty.den] at *
  all_goals try simp only [nc_eq] at *
  all_goals try (simp (disch := omega) only [wrap64] at *)
  all_goals first
    | omega
    | (refine hD.nilA' ?_ ?_ ?_ rfl rfl rfl <;> (clear hD; grind))
    | (refine hD.msA' ?_ ?_ ?_ ?_ ?_ ?_ rfl (rows_int _) rfl rfl <;> first | rfl | (clear hD; grind))
    | (clear hD; grind)
end Go.Ab

