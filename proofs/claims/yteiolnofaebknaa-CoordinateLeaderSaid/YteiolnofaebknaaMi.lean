/- CoordinateLeader. -/
import Derived.Test.YteiolnofaebknaaMh
set_option linter.unusedSimpArgs false
set_option linter.unusedVariables false
set_option maxRecDepth 20000
set_option maxHeartbeats 4000000
namespace Go.Ab
open Go.Proofs
def hadOK (w : List tW.den) (i : Nat) (hl : List Bool) : Prop := hl.length = 3 ∧ ∀ s : Int, 0 ≤ s → s ≤ 2 → HAD w i s → gtR .bool hl s = true
theorem hadOK.step {w : List tW.den} {i : Nat} {hl : List Bool} {x : Int} (h : hadOK w i hl) (hx : x = (gtR tW w i).1) (h0 : 0 ≤ x) (h2 : x ≤ 2) : hadOK w (i + 1) (upR .bool 3 hl x true) := by
  rw [upR_len (t := .bool) h.1]
  refine ⟨by simp [h.1], fun s s0 s2 ⟨j, hj, e⟩ => ?_⟩
  have hlen := h.1
  unfold gtR
  rw [List.getD_eq_getElem?_getD, List.getElem?_set]
  by_cases hs : x.toNat = s.toNat
  · rw [if_pos hs, if_pos (by omega)]; rfl
  · rw [if_neg hs]
    have hji : j ≠ i := fun e2 => by subst e2; rw [← hx] at e; have e : x = s := e; omega
    have := h.2 s s0 s2 ⟨j, by omega, e⟩
    unfold gtR at this
    rw [List.getD_eq_getElem?_getD] at this
    exact this
theorem lead_all {w : List tW.den} {F G : List Int} {i : Nat} (h : i < (cutL w).length) :
    (gtR tMeet (runR 5 6 (cutL w) F G) i).1.2.2.1 = (gtR tW (cutL w) i).1 ∧ 0 ≤ (gtR tMeet (runR 5 6 (cutL w) F G) i).2.2.2.1 ∧ (gtR tMeet (runR 5 6 (cutL w) F G) i).2.2.2.1 ≤ 2 ∧
      ((gtR tMeet (runR 5 6 (cutL w) F G) i).2.2.2.1 = (gtR tW (cutL w) i).2 ∨ (gtR tMeet (runR 5 6 (cutL w) F G) i).2.2.2.1 ≠ 0 ∧ HAD (cutL w) (i + 1) (3 - (gtR tMeet (runR 5 6 (cutL w) F G) i).2.2.2.1)) := by
  have v : VA 5 6 := by unfold VA; omega
  rw [runR_get h, new_ok v, new_ok v.symm]
  exact (LINV.all (Fa := fatesM F) (Fb := fatesM G) v (by omega) cut_rng (by have := cut_len w; omega) (i + 1) (by omega)).2 (by omega) _ rfl
theorem lawLeader (nw : Option Bool) (w : List tW.den) (n1 : Option Bool) (l1 : List Int) (n2 : Option Bool) (l2 : List Int) (hw : PRE (∀ x ∈ w, 0 ≤ x.1 ∧ 0 ≤ x.2)) (h1 : ∀ x ∈ l1, 0 ≤ x ∧ x < 256) (h2 : ∀ x ∈ l2, 0 ≤ x ∧ x < 256) : PurS Try.prog 8 [injT (.sl tW) (nw, w), injT (.pair (.sl (.int .u8)) (.sl (.int .u8))) ((n1, l1), (n2, l2))] (.sb true) := by
  refine PurS.of (S := [(21, _), (27, _), (28, _), (23, _)]) (T := []) (tbl := []) (n := 94) hm33 cfg (.cons (spT0.ok caw34) (.cons (spT1.ok (a := (.sl (.pair (.int .u8) (.int .u8)))) fun x0 h => cCut x0.1 x0.2 h) (.cons (spT2.ok (a := (.sl (.int .u8))) (b := (.int .i64)) fun x0 x1 h => cFat x0.1 x0.2 x1 h) (.cons (spT5.ok (a := (.int .i64)) (b := (.int .i64)) (c := (.sl (.pair (.int .u8) (.int .u8)))) (d := (.sl (.int .i64))) (e := (.sl (.int .i64))) fun x0 x1 x2 x3 x4 h => cRun' x0 x1 x2.1 x2.2 x3.1 x3.2 x4.1 x4.2 h) .nil)))) .nil .nil 0 Try.call8 Try.func8 (ac8_ok (some (0, 0))) (by rw [Try.ntmps8]; exact Nat.le_refl _) rfl ⟨_, rfl⟩ ?_
  intro cmp ar cv tn ic ai mx an ad ml sb mn ln em gt up ap sc vw cp rp p1 p2 s1 s2 X Y hX hY r0 r1 r2 r3 r4 r5 r6 r7 r8 r9 r10 r11 r12 r13 r14 r15 r16 r17 r18 r19 r20 r21 r22 r23 r24
  generalize hg0 : cutL = g0
  generalize hg1 : fatL = g1
  generalize hg2 : runR = g2
  cbv
  dsimp only
  have hk : RUNK 5 6 (cutL w) (fatL l1 8) (fatL l2 8) := runk (by unfold VA; omega) (by have := cut_len w; omega) (cut_bad w) (fat_wrong (.inr rfl)) (fat_wrong (.inr rfl))
  have hlen : ic (ln tMeet (g2 5 6 (g0 w) (g1 l1 8) (g1 l2 8))) = ic (ln tW (g0 w)) := by
    rw [r4, r12, ← hg2, ← hg1, ← hg0]
    exact congrArg Int.ofNat (runR_len _ _ _ _ _)
  have hll : (g2 5 6 (g0 w) (g1 l1 8) (g1 l2 8)).length = (g0 w).length := by
    rw [← hg2, ← hg1, ← hg0]
    exact runR_len _ _ _ _ _
  have hl24 : (g0 w).length ≤ 24 := by rw [← hg0]; exact cut_len w
  have hcr : ∀ p ∈ g0 w, 0 ≤ p.1 ∧ p.1 ≤ 2 ∧ 0 ≤ p.2 ∧ p.2 ≤ 2 := by rw [← hg0]; exact cut_rng
  have hs : ∀ i : Nat, i < (g0 w).length → (gtR tMeet (g2 5 6 (g0 w) (g1 l1 8) (g1 l2 8)) i).1.2.2.1 = (gtR tW (g0 w) i).1 ∧ 0 ≤ (gtR tMeet (g2 5 6 (g0 w) (g1 l1 8) (g1 l2 8)) i).2.2.2.1 ∧ (gtR tMeet (g2 5 6 (g0 w) (g1 l1 8) (g1 l2 8)) i).2.2.2.1 ≤ 2 ∧
      ((gtR tMeet (g2 5 6 (g0 w) (g1 l1 8) (g1 l2 8)) i).2.2.2.1 = (gtR tW (g0 w) i).2 ∨ (gtR tMeet (g2 5 6 (g0 w) (g1 l1 8) (g1 l2 8)) i).2.2.2.1 ≠ 0 ∧ HAD (g0 w) (i + 1) (3 - (gtR tMeet (g2 5 6 (g0 w) (g1 l1 8) (g1 l2 8)) i).2.2.2.1)) := by
    rw [← hg2, ← hg1, ← hg0]
    exact fun i h => lead_all h
  generalize g2 5 6 (g0 w) (g1 l1 8) (g1 l2 8) = L at *
  rw [← hlen]
  repeat' (first | exact True.intro | refine And.intro ?_ ?_ | (refine BR.nn r0 ?_) | (refine BR.lss r0 ?_ ?_ <;> intro _) | (refine BR.neq r0 ?_ ?_ <;> intro _) | (refine BR.eql r0 ?_ ?_ <;> intro _) | (refine BR.leq r0 ?_ ?_ <;> intro _) | (refine BR.gtr r0 ?_ ?_ <;> intro _) | (refine BR.geq r0 ?_ ?_ <;> intro _) | (refine BR.mk ?_ ?_ <;> intro _) | (refine CASE.mk ?_; intro _))
  all_goals first
    | (show PRE _; first | exact hw | exact ⟨h1, trivial⟩ | exact ⟨h2, trivial⟩)
    | (show INB _ _; exact INB.lit r4 (by decide))
    | (show RUNK _ _ _ _ _; rw [← hg0, ← hg1]; exact hk)
    | (show LOOP _ _ _ _ _ _; skip)
    | (exact absurd rfl (by assumption))
    | (show MK _ _ _; rw [MK_iff]; omega)
    | skip
  generalize hgW : g0 w = W at *
  refine LOOP.ind (σ := (Int × Nat) × List Bool) (fun ((i, _), hl) => [(5, .tl none tW W), (6, .tl none tMeet L), (8, .ms 0 0 1 none 3), (9, .p (iv i))]) (fun (_, hl) => ⟨[{ cells := [.arr 3 .bool hl], e := 4, fz := false, ap := true }], []⟩) (fun ((i, _), _) => (24 - i).toNat) (fun ((i, k), hl) => i = k ∧ k ≤ W.length ∧ hadOK W k hl) ((0, 0), [false, false, false]) ⟨rfl, by omega, rfl, fun s _ _ ⟨j, hj, _⟩ => by omega⟩ (.inr ⟨[some 1], [], ?_⟩) ?_
  · rw [SIM_iff]; cbv
    rw [r3, r20]
    exact ⟨⟨⟨rfl, rfl, trivial⟩, trivial⟩, ⟨nlLe_self.2 trivial, trivial⟩, ⟨nlLe_self.2 trivial, trivial⟩, rfl, trivial⟩
  intro ⟨⟨i, k⟩, hl⟩ hI X' hX
  dsimp only at hI
  obtain ⟨rfl, hI2, hI3⟩ := hI
  obtain ⟨i, hi⟩ : ∃ i : Int, i = k := ⟨_, rfl⟩
  rw [← hi]
  have hLl : ic (ln tMeet L) = L.length := by rw [r4, r12]
  have hWl : ic (ln tW W) = W.length := by rw [r4, r12]
  have hi3 : ic 3 = 3 := by rw [r4]; rfl
  have ha : k < W.length → ar .add .i64 i 1 = i + 1 := fun _ => by rw [r1]; exact wrap64 (n := i + 1) (by omega) (by omega)
  have hq : k < W.length → ∃ w0 w1 sa sb : Int, w0 = (gtR tW W i).1 ∧ w1 = (gtR tW W i).2 ∧ sa = (gtR tMeet L i).1.2.2.1 ∧ sb = (gtR tMeet L i).2.2.2.1 ∧ 0 ≤ w0 ∧ w0 ≤ 2 ∧ sa = w0 ∧ 0 ≤ sb ∧ sb ≤ 2 ∧ (sb = w1 ∨ sb ≠ 0 ∧ gtR .bool (upR .bool 3 hl w0 true) (3 - sb) = true) ∧ hadOK W (k + 1) (upR .bool 3 hl w0 true) := fun h => by
    have := hcr _ (gtR_mem (t := tW) (l := W) (i := (k : Int)) (by omega) (by omega))
    have h3 := hs k h
    rw [← hi] at h3 this
    obtain ⟨w0, hw0⟩ : ∃ w0 : Int, w0 = (gtR tW W i).1 := ⟨_, rfl⟩
    obtain ⟨sb, hsb⟩ : ∃ sb : Int, sb = (gtR tMeet L i).2.2.2.1 := ⟨_, rfl⟩
    have t0 : 0 ≤ w0 ∧ w0 ≤ 2 := by rw [hw0]; exact ⟨this.1, this.2.1⟩
    have t1 : 0 ≤ sb ∧ sb ≤ 2 := by rw [hsb]; exact ⟨h3.2.1, h3.2.2.1⟩
    have ho := hI3.step (x := w0) (by rw [hw0, hi]) t0.1 t0.2
    refine ⟨w0, _, _, sb, hw0, rfl, rfl, hsb, t0.1, t0.2, by rw [hw0]; exact h3.1, t1.1, t1.2, ?_, ho⟩
    rcases h3.2.2.2 with e | ⟨e1, e2⟩
    · exact .inl (by rw [hsb]; exact e)
    · have e3 : HAD W (k + 1) (3 - sb) := by rw [hsb]; exact e2
      have e0 : sb ≠ 0 := by rw [hsb]; exact e1
      exact .inr ⟨e0, ho.2 (3 - sb) (by omega) (by omega) e3⟩
  cbv
  rw [hLl, hWl, hi3, r21, r22, r14, r15]
  refine BR.lss r0 (fun hlt => ?_) (fun _ => by first | rfl | trivial)
  simp only [nc_eq] at *
  have hkW : k < W.length := by omega
  obtain ⟨w0, w1, sa, sb, e1, e2, e3, e4, q1, q2, q3, q4, q5, q6, q7⟩ := hq hkW
  have hia := ha hkW
  rw [← e1, ← e2, ← e3, ← e4, hia]
  have h3s : ar .sub .u8 3 sb = 3 - sb := by rw [r1]; exact wrap_u8' (n := 3 - sb) (by omega)
  rw [h3s]
  repeat' (first | exact True.intro | refine And.intro ?_ ?_ | (refine BR.nn r0 ?_) | (refine BR.lss r0 ?_ ?_ <;> intro _) | (refine BR.neq r0 ?_ ?_ <;> intro _) | (refine BR.eql r0 ?_ ?_ <;> intro _) | (refine BR.leq r0 ?_ ?_ <;> intro _) | (refine BR.gtr r0 ?_ ?_ <;> intro _) | (refine BR.geq r0 ?_ ?_ <;> intro _) | (refine BR.mk ?_ ?_ <;> intro _) | (refine CASE.mk ?_; intro _))
  all_goals first
    | (show INB _ _; first | exact INB.lit r4 (by decide) | exact ⟨by omega, by omega⟩)
    | (show NEXT _ _ _; skip)
    | (exfalso; omega)
    | (exfalso; simp_all; done)
    | (exfalso; grind)
  all_goals refine NEXT.mk (hX ((i + 1, k + 1), upR .bool 3 hl w0 true) _ _ ?_ ?_ (.inl ⟨rfl, rfl⟩))
  all_goals first
    | (show (24 - (i + 1)).toNat < (24 - (k : Int)).toNat; omega)
    | exact ⟨by show i + 1 = ((k + 1 : Nat) : Int); omega, by show k + 1 ≤ W.length; omega, q7⟩
theorem leader_typed : ∀ xs, TyVs Try.prog [37, 52] xs → PurFn Try.prog 8 (xs.map .p) (.v (.bool true)) := law2 (P := Try.prog) (f := 8) (t1 := 37) (t2 := 52) (T1 := .sl tW) (T2 := .pair (.sl (.int .u8)) (.sl (.int .u8))) (by kernel_rfl) fun a b ha hb =>
  lawLeader a.1 a.2 b.1.1 b.1.2 b.2.1 b.2.2 ⟨fun x hx => ⟨(wf_u8 (ha.2.2 x hx).1).1, (wf_u8 (ha.2.2 x hx).2).1⟩⟩ (fun x hx => wf_u8 (hb.1.2.2 x hx)) (fun x hx => wf_u8 (hb.2.2.2 x hx))
end Go.Ab

