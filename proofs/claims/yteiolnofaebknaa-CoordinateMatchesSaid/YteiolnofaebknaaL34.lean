/- Laws of layer 34 without loops. -/
import Derived.Test.YteiolnofaebknaaP34
set_option linter.unusedSimpArgs false
set_option linter.unusedVariables false
namespace Go.Ab
open Go.Proofs

/-! ### Typed arguments -/
theorem TyC.struct {P : Program} {n : Nat} {t : TypeId} {fs : Array Field} {xs : List PD} (hu : P.underlying t = some (.struct fs)) (h : TyC P n t xs) : xs.length = P.cellsOf t ∧ ∃ m, n = m + 1 ∧ ∀ f ∈ fs.toList, TyC P m f.type ((xs.drop f.offset).take (P.cellsOf f.type)) := by
  cases n with
  | zero => exact h.elim
  | succ m => unfold TyC at h; rw [hu] at h; exact ⟨h.1, m, rfl, h.2⟩
theorem TyC.int {P : Program} {n : Nat} {t : TypeId} {k : IntKind} {xs : List PD} (hu : P.underlying t = some (.int k)) (h : TyC P n t xs) : ∃ i, xs = [.v (.int k i)] ∧ (Lit.int k i).wf = true := by
  cases n with
  | zero => exact h.elim
  | succ m => unfold TyC at h; rw [hu] at h; exact h
theorem TyV.struct {P : Program} {t : TypeId} {fs : Array Field} {x : PD} (hu : P.underlying t = some (.struct fs)) (h : TyV P t x) : ∃ n xs, x = .agg xs ∧ TyC P n t xs := by
  unfold TyV at h; rw [hu] at h; exact h
theorem TyV.int {P : Program} {t : TypeId} {k : IntKind} {x : PD} (hu : P.underlying t = some (.int k)) (h : TyV P t x) : ∃ i, x = .v (.int k i) ∧ (Lit.int k i).wf = true := by
  unfold TyV at h; rw [hu] at h
  obtain ⟨n, h⟩ := h
  obtain ⟨i, h1, h2⟩ := TyC.int hu h
  exact ⟨i, by simpa using h1, h2⟩
theorem wf_u8 {i : Int} (h : (Lit.int .u8 i).wf = true) : 0 ≤ i ∧ i < 256 := by
  simp [Lit.wf, IntKind.min, IntKind.max, IntKind.bits, IntKind.signed] at h; omega
theorem wf_i64 {i : Int} (h : (Lit.int .i64 i).wf = true) : -9223372036854775808 ≤ i ∧ i < 9223372036854775808 := by
  simp [Lit.wf, IntKind.min, IntKind.max, IntKind.bits, IntKind.signed] at h; omega

/-! ### The plain law: what is heard twice changes nothing -/
theorem wrap64 {n : Int} (h0 : -9223372036854775808 ≤ n) (h1 : n < 9223372036854775808) : IntKind.i64.wrap n = n := by
  simp [IntKind.wrap, IntKind.bits, IntKind.signed]; split <;> omega
theorem opp8 {a : Int} (h0 : 0 ≤ a) (h1 : a ≤ 3) : oppM a = 3 - a := by
  simp [oppM, IntKind.wrap, IntKind.bits, IntKind.signed]; omega
theorem take_err {s : Side} {w : Int} (h : (takeM s w).2 ≠ 0) : (takeM s w).1 = zeroS := by
  unfold takeM at *; grind
theorem take_ok {s : Side} {w : Int} (hn : 0 ≤ s.n ∧ s.n ≤ 1048575) (h : (takeM s w).2 = 0) : (w = s.se ∧ (takeM s w).1 = s) ∨ (w ≠ s.se ∧ s.n < 1048575 ∧ (takeM s w).1 = ⟨s.a, s.o, w, s.n + 1, s.h, s.hn⟩) := by
  unfold takeM at *
  split at h
  · left; rename_i e; exact ⟨e, by rw [if_pos e]⟩
  · rename_i e
    split at h
    · cases h
    · rename_i e2
      right
      rw [if_neg e, if_neg e2, wrap64 (by omega) (by omega)]
      exact ⟨e, by omega, rfl⟩
theorem hear_err {s : Side} {c : Chc} (h : (hearM s c).2 ≠ 0) : (hearM s c).1 = zeroS := by
  unfold hearM at *
  split at h
  · rename_i e; rw [if_pos e]
  · rename_i e; rw [if_neg e]
    split at h
    · rename_i e; rw [if_pos e]
    · rename_i e; rw [if_neg e]
      split at h
      · rename_i e; rw [if_pos e]
      · rename_i e; rw [if_neg e]
        split at h
        · exact absurd rfl h
        · rename_i e; rw [if_neg e]; exact take_err h
theorem check_num {s : Side} (h : checkM s = 0) : 0 ≤ s.n ∧ s.n ≤ 1048575 ∧ s.se ≤ 2 ∧ s.h ≤ 2 ∧ 0 ≤ s.hn ∧ s.hn ≤ 1048575 ∧ ¬ (s.n = 0 ∧ s.se ≠ 0) ∧ ¬ (s.hn = 0 ∧ s.h ≠ 0) ∧ 0 ≤ s.a ∧ s.a ≤ 16777215 ∧ 0 ≤ s.o ∧ s.o ≤ 16777215 ∧ s.a ≠ s.o := by
  unfold checkM at h
  repeat' split at h
  all_goals first | (exfalso; omega) | (refine ⟨?_, ?_, ?_, ?_, ?_, ?_, ?_, ?_, ?_, ?_, ?_, ?_, ?_⟩ <;> omega)
theorem num_check {s : Side} (h : 0 ≤ s.n ∧ s.n ≤ 1048575 ∧ s.se ≤ 2 ∧ s.h ≤ 2 ∧ 0 ≤ s.hn ∧ s.hn ≤ 1048575 ∧ ¬ (s.n = 0 ∧ s.se ≠ 0) ∧ ¬ (s.hn = 0 ∧ s.h ≠ 0) ∧ 0 ≤ s.a ∧ s.a ≤ 16777215 ∧ 0 ≤ s.o ∧ s.o ≤ 16777215 ∧ s.a ≠ s.o) : checkM s = 0 := by
  unfold checkM
  rw [if_neg (by omega), if_neg (by omega), if_neg (by omega), if_neg (by omega)]
theorem lcheck_num {c : Chc} (h : lcheckM c = 0) : c.se ≤ 2 ∧ 1 ≤ c.n ∧ c.n ≤ 1048575 := by
  unfold lcheckM at h
  repeat' split at h
  all_goals first | (exfalso; omega) | (refine ⟨?_, ?_, ?_⟩ <;> omega)
theorem yield_le {s : Side} {w : Int} (h0 : 0 ≤ w) (h : w ≤ 2) : 0 ≤ yieldM s w ∧ yieldM s w ≤ 2 := by
  unfold yieldM
  split
  · rename_i e
    have e2 := e.2
    simp only [likeM, decide_eq_true_eq] at e2
    rw [opp8 h0 (by omega)]; omega
  · exact ⟨h0, h⟩
/-- What a side is that has heard. -/
theorem hear_ok {s : Side} {c : Chc} (h0 : 0 ≤ s.se) (h : (hearM s c).2 = 0) : checkM (hearM s c).1 = 0 ∧ lcheckM c = 0 ∧ c.a = s.o ∧ c.t = s.a ∧ (hearM s c).1.a = s.a ∧ (hearM s c).1.o = s.o ∧ (hearM s c).1.hn = max s.hn c.n := by
  unfold hearM at *
  split at h
  · exact absurd h (by assumption)
  rename_i e1; rw [if_neg e1]
  split at h
  · exact absurd h (by assumption)
  rename_i e2; rw [if_neg e2]
  split at h
  · cases h
  rename_i e3; rw [if_neg e3]
  have hs : checkM s = 0 := by omega
  have hc : lcheckM c = 0 := by omega
  have n1 := check_num hs
  have n2 := lcheck_num hc
  split at h
  · rename_i e4; rw [if_pos e4]; exact ⟨hs, hc, by omega, by omega, rfl, rfl, by show s.hn = _; omega⟩
  rename_i e4; rw [if_neg e4]
  have hy := yield_le (s := ⟨s.a, s.o, s.se, s.n, c.se, c.n⟩) (w := s.se) h0 n1.2.2.1
  rcases take_ok (by exact ⟨n1.1, n1.2.1⟩) h with ⟨k1, k2⟩ | ⟨k1, k2, k3⟩
  · rw [k2]
    exact ⟨num_check (by simp only; omega), hc, by omega, by omega, rfl, rfl, by show c.n = _; omega⟩
  · rw [k3]
    simp only at k1 k2
    exact ⟨num_check (by simp only; omega), hc, by omega, by omega, rfl, rfl, by show c.n = _; omega⟩
theorem hear_ok' {s : Side} {c : Chc} (h : (hearM s c).2 = 0) : lcheckM c = 0 ∧ c.a = s.o ∧ c.t = s.a := by
  unfold hearM at *
  split at h
  · exact absurd h (by assumption)
  split at h
  · exact absurd h (by assumption)
  split at h
  · cases h
  exact ⟨by omega, by omega, by omega⟩
theorem hear_old {s : Side} {c : Chc} (hs : checkM s = 0) (hc : lcheckM c = 0) (h1 : c.a = s.o) (h2 : c.t = s.a) (hn : c.n ≤ s.hn) : hearM s c = (s, 0) := by
  unfold hearM
  rw [if_neg (by omega), if_neg (by omega), if_neg (by omega), if_pos hn]

/-! ### The laws over typed data -/
set_option maxRecDepth 100000 in
theorem ty_side {x : PD} (h : TyV Try.prog 23 x) : ∃ s : Side, x = s.p ∧ 0 ≤ s.se := by
  obtain ⟨n, xs, rfl, h'⟩ := TyV.struct Try.underlying23 h
  obtain ⟨hl, m, rfl, hf⟩ := TyC.struct Try.underlying23 h'
  rw [show Try.prog.cellsOf 23 = 6 by kernel_rfl] at hl
  match xs, hl with
  | [x1, x2, x3, x4, x5, x6], _ =>
    have c3 : Try.prog.cellsOf 3 = 1 := by kernel_rfl
    have c5 : Try.prog.cellsOf 5 = 1 := by kernel_rfl
    simp only [List.mem_cons, List.not_mem_nil, or_false, forall_eq_or_imp, forall_eq, c3, c5, List.drop, List.take] at hf
    obtain ⟨h1, h2, h3, h4, h5, h6⟩ := hf
    obtain ⟨i1, e1, _⟩ := TyC.int Try.underlying3 h1
    obtain ⟨i2, e2, _⟩ := TyC.int Try.underlying3 h2
    obtain ⟨i3, e3, w3⟩ := TyC.int Try.underlying5 h3
    obtain ⟨i4, e4, _⟩ := TyC.int Try.underlying3 h4
    obtain ⟨i5, e5, _⟩ := TyC.int Try.underlying5 h5
    obtain ⟨i6, e6, _⟩ := TyC.int Try.underlying3 h6
    simp only [List.cons.injEq, and_true] at e1 e2 e3 e4 e5 e6
    exact ⟨⟨i1, i2, i3, i4, i5, i6⟩, by rw [e1, e2, e3, e4, e5, e6]; rfl, (wf_u8 w3).1⟩
set_option maxRecDepth 100000 in
theorem ty_chc {x : PD} (h : TyV Try.prog 25 x) : ∃ c : Chc, x = c.p := by
  obtain ⟨n, xs, rfl, h'⟩ := TyV.struct Try.underlying25 h
  obtain ⟨hl, m, rfl, hf⟩ := TyC.struct Try.underlying25 h'
  rw [show Try.prog.cellsOf 25 = 4 by kernel_rfl] at hl
  match xs, hl with
  | [x1, x2, x3, x4], _ =>
    have c3 : Try.prog.cellsOf 3 = 1 := by kernel_rfl
    have c5 : Try.prog.cellsOf 5 = 1 := by kernel_rfl
    simp only [List.mem_cons, List.not_mem_nil, or_false, forall_eq_or_imp, forall_eq, c3, c5, List.drop, List.take] at hf
    obtain ⟨h1, h2, h3, h4⟩ := hf
    obtain ⟨i1, e1, _⟩ := TyC.int Try.underlying3 h1
    obtain ⟨i2, e2, _⟩ := TyC.int Try.underlying3 h2
    obtain ⟨i3, e3, _⟩ := TyC.int Try.underlying5 h3
    obtain ⟨i4, e4, _⟩ := TyC.int Try.underlying3 h4
    simp only [List.cons.injEq, and_true] at e1 e2 e3 e4
    exact ⟨⟨i1, i2, i3, i4⟩, by rw [e1, e2, e3, e4]; rfl⟩

variable (aw : OkS Try.prog 21 (sp0 (bv true)))
include aw
set_option maxRecDepth 100000 in
theorem lawStale (a o se n h hn ca ct cse cn da dt dse dn : Int) (h0 : 0 ≤ se) : PurFn Try.prog 10 [.p (Side.p ⟨a, o, se, n, h, hn⟩), .p (Chc.p ⟨ca, ct, cse, cn⟩), .p (Chc.p ⟨da, dt, dse, dn⟩)] (bv true) := by
  refine PurFn.ofC (S := [(21, _), (13, _), (19, _)]) (tbl := []) (n := 86) hm34 (.cons aw (.cons c13 (.cons c19 .nil))) .nil [] 0 Try.call10 Try.func10 ac10_ok (by rw [Try.ntmps10]; exact Nat.le_refl _) rfl ?_
  intro Φ Ω κ ν ι mx dr dn ap ad ml ln dl sc px nth put cp mn rep repP an Q hQ; intros
  generalize hg0 : hearM = g0
  generalize hg1 : checkM = g1
  cbv
  subst_vars
  simp only [cmpR, mxR, arR, BR_dec, BR_true, BR_false, FIN_iff, Ops.real, BR_iff, Bool.and_eq_true, Bool.and_eq_false_iff, decide_eq_true_eq, decide_eq_false_iff_not]
  have f1 := hear_err (s := ⟨a, o, se, n, h, hn⟩) (c := ⟨ca, ct, cse, cn⟩)
  have f2 := hear_ok (s := ⟨a, o, se, n, h, hn⟩) (c := ⟨ca, ct, cse, cn⟩) h0
  generalize hX : hearM ⟨a, o, se, n, h, hn⟩ ⟨ca, ct, cse, cn⟩ = X at *
  obtain ⟨⟨x1, x2, x3, x4, x5, x6⟩, e⟩ := X
  simp only [zeroS, Side.mk.injEq] at f1 f2 ⊢
  have f3 := hear_old (s := ⟨x1, x2, x3, x4, x5, x6⟩) (c := ⟨ca, ct, cse, cn⟩)
  have f4 := hear_old (s := ⟨x1, x2, x3, x4, x5, x6⟩) (c := ⟨da, dt, dse, dn⟩)
  have f5 := hear_ok' (s := ⟨x1, x2, x3, x4, x5, x6⟩) (c := ⟨da, dt, dse, dn⟩)
  generalize hY : hearM ⟨x1, x2, x3, x4, x5, x6⟩ ⟨ca, ct, cse, cn⟩ = Y at *
  obtain ⟨⟨y1, y2, y3, y4, y5, y6⟩, e'⟩ := Y
  generalize hZ : hearM ⟨x1, x2, x3, x4, x5, x6⟩ ⟨da, dt, dse, dn⟩ = Z at *
  obtain ⟨⟨z1, z2, z3, z4, z5, z6⟩, e''⟩ := Z
  generalize hK : checkM ⟨x1, x2, x3, x4, x5, x6⟩ = k at *
  generalize hL : lcheckM ⟨ca, ct, cse, cn⟩ = l at *
  generalize hM : lcheckM ⟨da, dt, dse, dn⟩ = m at *
  simp only [Prod.mk.injEq, Side.mk.injEq] at f1 f2 f3 f4 f5 ⊢
  have hT := hQ _ (leafB (a := true) rfl)
  clear hX hY hZ hK hL hM hQ
  repeat' (first | refine And.intro ?_ ?_ | intro _)
  all_goals (first | exact hT | (exfalso; clear hT; grind))
set_option maxRecDepth 100000 in
theorem lawMatches (a o se n h hn w ca ct cse cn : Int) : PurFn Try.prog 3 [.p (Side.p ⟨a, o, se, n, h, hn⟩), .p (uv w), .p (Chc.p ⟨ca, ct, cse, cn⟩)] (bv true) := by
  refine PurFn.ofC (S := [(21, _), (11, _), (12, _), (13, _), (14, _), (15, _), (16, _), (17, _), (18, _), (19, _), (20, _)]) (tbl := []) (n := 121) hm34 (.cons aw (.cons c11 (.cons c12 (.cons c13 (.cons c14 (.cons c15 (.cons c16 (.cons c17 (.cons c18 (.cons c19 (.cons c20 .nil))))))))))) .nil [] 0 Try.call3 Try.func3 ac3_ok (by rw [Try.ntmps3]; exact Nat.le_refl _) rfl ?_
  intro Φ Ω κ ν ι mx dr dn ap ad ml ln dl sc px nth put cp mn rep repP an Q hQ; intros
  generalize hg0 : chooseM = g0
  generalize hg1 : hearM = g1
  generalize hg2 : sayM = g2
  generalize hg3 : newM = g3
  generalize hg4 : checkM = g4
  cbv
  subst_vars
  simp only [cmpR, BR_dec, BR_true, BR_false, FIN_iff, Ops.real, BR_iff, Bool.and_eq_true, Bool.and_eq_false_iff, decide_eq_true_eq, decide_eq_false_iff_not]
  have hT := hQ _ (leafB (a := true) rfl)
  simp [hT]

set_option maxRecDepth 100000 in
theorem stale_typed (xs : List PD) (h : TyVs Try.prog [23, 25, 25] xs) : PurFn Try.prog 10 (xs.map .p) (bv true) := by
  match xs, h with
  | [x, y, z], ⟨h1, h2, h3, _⟩ =>
    obtain ⟨s, rfl, h0⟩ := ty_side h1
    obtain ⟨c, rfl⟩ := ty_chc h2
    obtain ⟨d, rfl⟩ := ty_chc h3
    exact lawStale aw _ _ _ _ _ _ _ _ _ _ _ _ _ _ h0
set_option maxRecDepth 100000 in
theorem matches_typed (xs : List PD) (h : TyVs Try.prog [23, 5, 25] xs) : PurFn Try.prog 3 (xs.map .p) (bv true) := by
  match xs, h with
  | [x, y, z], ⟨h1, h2, h3, _⟩ =>
    obtain ⟨s, rfl, h0⟩ := ty_side h1
    obtain ⟨w, rfl, _⟩ := TyV.int Try.underlying5 h2
    obtain ⟨c, rfl⟩ := ty_chc h3
    exact lawMatches aw _ _ _ _ _ _ _ _ _ _ _
end Go.Ab

