/- CoordinateSafe. -/
import Derived.Test.YteiolnofaebknaaMf
set_option linter.unusedSimpArgs false
set_option linter.unusedVariables false
set_option maxRecDepth 20000
set_option maxHeartbeats 4000000
namespace Go.Ab
open Go.Proofs
theorem mod3 (x : Int) : 0 ≤ x % 3 ∧ x % 3 ≤ 2 := by omega
theorem cut_bad (l : List tW.den) : (cutL l).any badW = false := by
  rw [List.any_eq_false]
  intro p hp
  obtain ⟨q, _, rfl⟩ := List.mem_map.1 hp
  have e : ∀ a b : Int, a ≤ 2 → b ≤ 2 → ¬ decide (a > 2 ∨ b > 2) = true := by intro a b h1 h2; simp; omega
  exact e _ _ (mod3 q.1).2 (mod3 q.2).2
theorem cut_rng {l : List tW.den} : ∀ w ∈ cutL l, 0 ≤ w.1 ∧ w.1 ≤ 2 ∧ 0 ≤ w.2 ∧ w.2 ≤ 2 := by
  intro p hp
  obtain ⟨q, _, rfl⟩ := List.mem_map.1 hp
  exact ⟨(mod3 q.1).1, (mod3 q.1).2, (mod3 q.2).1, (mod3 q.2).2⟩
theorem cut_len (l : List tW.den) : (cutL l).length ≤ 24 := by simp [cutL]; omega
theorem fat_wrong {l : List Int} {m : Int} (hm : m = 0 ∨ m = 8) : wrongM (fatL l m) = 0 := by
  refine fates_wrong (fun x hx => ?_) (by simp [fatL]; omega)
  obtain ⟨q, _, rfl⟩ := List.mem_map.1 hx
  have key : ∀ r : Int, 0 ≤ r → r < m + 2 → -1 ≤ r - 1 ∧ r - 1 ≤ 8 := fun r _ _ => by omega
  exact key _ (Int.emod_nonneg _ (by omega)) (Int.emod_lt_of_pos _ (by omega))
theorem new_ok {a b : Int} (v : VA a b) : newM a b = ((a, b, 0, 0, 0, 0), 0) := by
  unfold newM
  have : checkM (a, b, 0, 0, 0, 0) = 0 := check_ok v (by unfold GSc; omega) (by omega) (by omega)
  rw [if_neg (by rw [this]; simp)]
/-- What a run asks. -/
structure RUNK (a b : Int) (w : List tW.den) (F G : List Int) : Prop where
  na : (newM a b).2 = 0
  nb : (newM b a).2 = 0
  w1 : w.length ≤ 64
  w2 : w.any badW = false
  f : wrongM F = 0
  g : wrongM G = 0
def runR (a b : Int) (w : List tW.den) (F G : List Int) : List (SD × SD) := runP (fatesM F) (fatesM G) 0 w ((newM a b).1, (newM b a).1, (0, []), (0, []))
theorem runR_len (a b : Int) (w : List tW.den) (F G : List Int) : (runR a b w F G).length = w.length := runP_len _ _ _ _ _
theorem cRun' (a b : Int) (nw : Option Bool) (w : List tW.den) (nf : Option Bool) (F : List Int) (ng : Option Bool) (G : List Int) (h : RUNK a b w F G) : PurS Try.prog 23 [injT tI a, injT tI b, injT (.sl tW) (nw, w), injT (.sl tI) (nf, F), injT (.sl tI) (ng, G)] (.tup [.tl none tMeet (runR a b w F G), .p (iv 0)]) :=
  cRun a b nw w nf F ng G h.na h.nb h.w1 h.w2 h.f h.g
theorem runk {a b : Int} {w : List tW.den} {F G : List Int} (v : VA a b) (h1 : w.length ≤ 64) (h2 : w.any badW = false) (h3 : wrongM F = 0) (h4 : wrongM G = 0) : RUNK a b w F G :=
  ⟨by rw [new_ok v], by rw [new_ok v.symm], h1, h2, h3, h4⟩
theorem run_sound {a b : Int} {l : List tW.den} {F G : List Int} (v : VA a b) : ∀ m ∈ runR a b (cutL l) F G, soundM m.1 m.2 = true := by
  unfold runR
  rw [new_ok v, new_ok v.symm]
  exact runP_all (P := fun x y => soundM x y = true) v (fun T c i => i.sound v) _ _ 0 _ INV.start (by omega) (by have := cut_len l; omega) cut_rng
theorem lawSafeF (nw : Option Bool) (w : List tW.den) (n1 : Option Bool) (l1 : List Int) (n2 : Option Bool) (l2 : List Int) (hw : PRE (∀ x ∈ w, 0 ≤ x.1 ∧ 0 ≤ x.2)) (h1 : ∀ x ∈ l1, 0 ≤ x ∧ x < 256) (h2 : ∀ x ∈ l2, 0 ≤ x ∧ x < 256) : PurS Try.prog 6 [injT (.sl tW) (nw, w), injT (.pair (.sl (.int .u8)) (.sl (.int .u8))) ((n1, l1), (n2, l2)), .p (.v (.bool false))] (.sb true) := by
  refine PurS.of (S := [(21, _), (27, _), (28, _), (23, _), (29, _)]) (T := []) (tbl := []) (n := 52) hm33 cfg (.cons (spT0.ok caw34) (.cons (spT1.ok (a := (.sl (.pair (.int .u8) (.int .u8)))) fun x0 h => cCut x0.1 x0.2 h) (.cons (spT2.ok (a := (.sl (.int .u8))) (b := (.int .i64)) fun x0 x1 h => cFat x0.1 x0.2 x1 h) (.cons (spT5.ok (a := (.int .i64)) (b := (.int .i64)) (c := (.sl (.pair (.int .u8) (.int .u8)))) (d := (.sl (.int .i64))) (e := (.sl (.int .i64))) fun x0 x1 x2 x3 x4 h => cRun' x0 x1 x2.1 x2.2 x3.1 x3.2 x4.1 x4.2 h) (.cons (spT1.ok (a := (.pair (.pair (.int .i64) (.pair (.int .i64) (.pair (.int .u8) (.pair (.int .i64) (.pair (.int .u8) (.int .i64)))))) (.pair (.int .i64) (.pair (.int .i64) (.pair (.int .u8) (.pair (.int .i64) (.pair (.int .u8) (.int .i64)))))))) (pre := fun _ => True) fun x0 _ => cSound x0.1.1 x0.1.2.1 x0.1.2.2.1 x0.1.2.2.2.1 x0.1.2.2.2.2.1 x0.1.2.2.2.2.2 x0.2.1 x0.2.2.1 x0.2.2.2.1 x0.2.2.2.2.1 x0.2.2.2.2.2.1 x0.2.2.2.2.2.2) .nil))))) .nil .nil 0 Try.call6 Try.func6 (ac6_ok (some (0, 0))) (by rw [Try.ntmps6]; exact Nat.le_refl _) rfl ⟨_, rfl⟩ ?_
  intro cmp ar cv tn ic ai mx an ad ml sb mn ln em gt up ap sc vw cp rp p1 p2 s1 s2 X Y hX hY r0 r1 r2 r3 r4 r5 r6 r7 r8 r9 r10 r11 r12 r13 r14 r15 r16 r17 r18 r19 r20 r21 r22 r23 r24
  generalize hg0 : cutL = g0
  generalize hg1 : fatL = g1
  generalize hg2 : runR = g2
  generalize hg3 : soundM = g3
  cbv
  dsimp only
  have hk : RUNK 5 6 (cutL w) (fatL l1 8) (fatL l2 8) := runk (by unfold VA; omega) (by have := cut_len w; omega) (cut_bad w) (fat_wrong (.inr rfl)) (fat_wrong (.inr rfl))
  have hlen : ic (ln tMeet (g2 5 6 (g0 w) (g1 l1 8) (g1 l2 8))) = ic (ln tW (g0 w)) := by
    rw [r4, r12, ← hg2, ← hg1, ← hg0]
    exact congrArg Int.ofNat (runR_len _ _ _ _ _)
  have hs : ∀ m ∈ g2 5 6 (g0 w) (g1 l1 8) (g1 l2 8), g3 m.1 m.2 = true := by
    rw [← hg2, ← hg1, ← hg0, ← hg3]
    exact run_sound (by unfold VA; omega)
  have hll : (g2 5 6 (g0 w) (g1 l1 8) (g1 l2 8)).length ≤ 24 := by
    rw [← hg2, ← hg1, ← hg0]
    exact Nat.le_trans (Nat.le_of_eq (runR_len _ _ _ _ _)) (cut_len w)
  generalize g2 5 6 (g0 w) (g1 l1 8) (g1 l2 8) = L at *
  rw [← hlen]
  have hl24 : ic (ln tMeet L) = L.length := by rw [r4, r12]
  repeat' (first | exact True.intro | refine And.intro ?_ ?_ | (refine BR.nn r0 ?_) | (refine BR.lss r0 ?_ ?_ <;> intro _) | (refine BR.neq r0 ?_ ?_ <;> intro _) | (refine BR.eql r0 ?_ ?_ <;> intro _) | (refine BR.leq r0 ?_ ?_ <;> intro _) | (refine BR.gtr r0 ?_ ?_ <;> intro _) | (refine BR.geq r0 ?_ ?_ <;> intro _) | (refine BR.mk ?_ ?_ <;> intro _) | (refine CASE.mk ?_; intro _))
  all_goals first
    | (show PRE _; first | exact hw | exact ⟨h1, trivial⟩ | exact ⟨h2, trivial⟩)
    | (show INB _ _; exact INB.lit r4 (by decide))
    | (show RUNK _ _ _ _ _; rw [← hg0, ← hg1]; exact hk)
    | (show LOOP _ _ _ _ _ _; skip)
    | (exact absurd rfl (by assumption))
  refine LOOP.ind (σ := Int) (fun i => [(10, .tl none tMeet L), (12, .p (iv i))]) (fun _ => ⟨[], []⟩) (fun i => (24 - i).toNat) (fun i => 0 ≤ i ∧ i ≤ L.length) 0 (by omega) (.inr ⟨[], [], ?_⟩) ?_
  · rw [SIM_iff]; cbv; simp [nlLe_self]
  intro i hI X' hX
  have ha : i < L.length → ar .add .i64 i 1 = i + 1 := fun _ => by rw [r1]; exact wrap64 (n := i + 1) (by omega) (by omega)
  have hm : i < L.length → g3 (gt tMeet L i).1 (gt tMeet L i).2 = true := fun h => by rw [r14]; exact hs _ (gtR_mem (t := tMeet) hI.1 h)
  cbv
  rw [hl24]
  repeat' (first | exact True.intro | refine And.intro ?_ ?_ | (refine BR.nn r0 ?_) | (refine BR.lss r0 ?_ ?_ <;> intro _) | (refine BR.neq r0 ?_ ?_ <;> intro _) | (refine BR.eql r0 ?_ ?_ <;> intro _) | (refine BR.leq r0 ?_ ?_ <;> intro _) | (refine BR.gtr r0 ?_ ?_ <;> intro _) | (refine BR.geq r0 ?_ ?_ <;> intro _) | (refine BR.mk ?_ ?_ <;> intro _) | (refine CASE.mk ?_; intro _))
  all_goals first
    | (show INB _ _; exact ⟨hI.1, by assumption⟩)
    | (show NEXT _ _ _; skip)
    | (rename_i k1 hz; rw [r21, r22] at hz; exact absurd ((hm k1).symm.trans hz) (by decide))
    | exact trivial
  have k1 : i < (L.length : Int) := by assumption
  rw [ha k1]
  refine NEXT.mk (hX (i + 1) _ _ ?_ ?_ (.inl ⟨rfl, rfl⟩))
  · simp only [nc_eq]; omega
  · show (24 - (i + 1)).toNat < (24 - i).toNat
    omega
theorem lawSafeT (nw : Option Bool) (w : List tW.den) (n1 : Option Bool) (l1 : List Int) (n2 : Option Bool) (l2 : List Int) (hw : PRE (∀ x ∈ w, 0 ≤ x.1 ∧ 0 ≤ x.2)) (h1 : ∀ x ∈ l1, 0 ≤ x ∧ x < 256) (h2 : ∀ x ∈ l2, 0 ≤ x ∧ x < 256) : PurS Try.prog 6 [injT (.sl tW) (nw, w), injT (.pair (.sl (.int .u8)) (.sl (.int .u8))) ((n1, l1), (n2, l2)), .p (.v (.bool true))] (.sb true) := by
  refine PurS.of (S := [(21, _), (27, _), (28, _), (23, _), (29, _)]) (T := []) (tbl := []) (n := 52) hm33 cfg (.cons (spT0.ok caw34) (.cons (spT1.ok (a := (.sl (.pair (.int .u8) (.int .u8)))) fun x0 h => cCut x0.1 x0.2 h) (.cons (spT2.ok (a := (.sl (.int .u8))) (b := (.int .i64)) fun x0 x1 h => cFat x0.1 x0.2 x1 h) (.cons (spT5.ok (a := (.int .i64)) (b := (.int .i64)) (c := (.sl (.pair (.int .u8) (.int .u8)))) (d := (.sl (.int .i64))) (e := (.sl (.int .i64))) fun x0 x1 x2 x3 x4 h => cRun' x0 x1 x2.1 x2.2 x3.1 x3.2 x4.1 x4.2 h) (.cons (spT1.ok (a := (.pair (.pair (.int .i64) (.pair (.int .i64) (.pair (.int .u8) (.pair (.int .i64) (.pair (.int .u8) (.int .i64)))))) (.pair (.int .i64) (.pair (.int .i64) (.pair (.int .u8) (.pair (.int .i64) (.pair (.int .u8) (.int .i64)))))))) (pre := fun _ => True) fun x0 _ => cSound x0.1.1 x0.1.2.1 x0.1.2.2.1 x0.1.2.2.2.1 x0.1.2.2.2.2.1 x0.1.2.2.2.2.2 x0.2.1 x0.2.2.1 x0.2.2.2.1 x0.2.2.2.2.1 x0.2.2.2.2.2.1 x0.2.2.2.2.2.2) .nil))))) .nil .nil 0 Try.call6 Try.func6 (ac6_ok (some (0, 0))) (by rw [Try.ntmps6]; exact Nat.le_refl _) rfl ⟨_, rfl⟩ ?_
  intro cmp ar cv tn ic ai mx an ad ml sb mn ln em gt up ap sc vw cp rp p1 p2 s1 s2 X Y hX hY r0 r1 r2 r3 r4 r5 r6 r7 r8 r9 r10 r11 r12 r13 r14 r15 r16 r17 r18 r19 r20 r21 r22 r23 r24
  generalize hg0 : cutL = g0
  generalize hg1 : fatL = g1
  generalize hg2 : runR = g2
  generalize hg3 : soundM = g3
  cbv
  dsimp only
  have hk : RUNK 6 5 (cutL w) (fatL l1 8) (fatL l2 8) := runk (by unfold VA; omega) (by have := cut_len w; omega) (cut_bad w) (fat_wrong (.inr rfl)) (fat_wrong (.inr rfl))
  have hlen : ic (ln tMeet (g2 6 5 (g0 w) (g1 l1 8) (g1 l2 8))) = ic (ln tW (g0 w)) := by
    rw [r4, r12, ← hg2, ← hg1, ← hg0]
    exact congrArg Int.ofNat (runR_len _ _ _ _ _)
  have hs : ∀ m ∈ g2 6 5 (g0 w) (g1 l1 8) (g1 l2 8), g3 m.1 m.2 = true := by
    rw [← hg2, ← hg1, ← hg0, ← hg3]
    exact run_sound (by unfold VA; omega)
  have hll : (g2 6 5 (g0 w) (g1 l1 8) (g1 l2 8)).length ≤ 24 := by
    rw [← hg2, ← hg1, ← hg0]
    exact Nat.le_trans (Nat.le_of_eq (runR_len _ _ _ _ _)) (cut_len w)
  generalize g2 6 5 (g0 w) (g1 l1 8) (g1 l2 8) = L at *
  rw [← hlen]
  have hl24 : ic (ln tMeet L) = L.length := by rw [r4, r12]
  repeat' (first | exact True.intro | refine And.intro ?_ ?_ | (refine BR.nn r0 ?_) | (refine BR.lss r0 ?_ ?_ <;> intro _) | (refine BR.neq r0 ?_ ?_ <;> intro _) | (refine BR.eql r0 ?_ ?_ <;> intro _) | (refine BR.leq r0 ?_ ?_ <;> intro _) | (refine BR.gtr r0 ?_ ?_ <;> intro _) | (refine BR.geq r0 ?_ ?_ <;> intro _) | (refine BR.mk ?_ ?_ <;> intro _) | (refine CASE.mk ?_; intro _))
  all_goals first
    | (show PRE _; first | exact hw | exact ⟨h1, trivial⟩ | exact ⟨h2, trivial⟩)
    | (show INB _ _; exact INB.lit r4 (by decide))
    | (show RUNK _ _ _ _ _; rw [← hg0, ← hg1]; exact hk)
    | (show LOOP _ _ _ _ _ _; skip)
    | (exact absurd rfl (by assumption))
  refine LOOP.ind (σ := Int) (fun i => [(10, .tl none tMeet L), (12, .p (iv i))]) (fun _ => ⟨[], []⟩) (fun i => (24 - i).toNat) (fun i => 0 ≤ i ∧ i ≤ L.length) 0 (by omega) (.inr ⟨[], [], ?_⟩) ?_
  · rw [SIM_iff]; cbv; simp [nlLe_self]
  intro i hI X' hX
  have ha : i < L.length → ar .add .i64 i 1 = i + 1 := fun _ => by rw [r1]; exact wrap64 (n := i + 1) (by omega) (by omega)
  have hm : i < L.length → g3 (gt tMeet L i).1 (gt tMeet L i).2 = true := fun h => by rw [r14]; exact hs _ (gtR_mem (t := tMeet) hI.1 h)
  cbv
  rw [hl24]
  repeat' (first | exact True.intro | refine And.intro ?_ ?_ | (refine BR.nn r0 ?_) | (refine BR.lss r0 ?_ ?_ <;> intro _) | (refine BR.neq r0 ?_ ?_ <;> intro _) | (refine BR.eql r0 ?_ ?_ <;> intro _) | (refine BR.leq r0 ?_ ?_ <;> intro _) | (refine BR.gtr r0 ?_ ?_ <;> intro _) | (refine BR.geq r0 ?_ ?_ <;> intro _) | (refine BR.mk ?_ ?_ <;> intro _) | (refine CASE.mk ?_; intro _))
  all_goals first
    | (show INB _ _; exact ⟨hI.1, by assumption⟩)
    | (show NEXT _ _ _; skip)
    | (rename_i k1 hz; rw [r21, r22] at hz; exact absurd ((hm k1).symm.trans hz) (by decide))
    | exact trivial
  have k1 : i < (L.length : Int) := by assumption
  rw [ha k1]
  refine NEXT.mk (hX (i + 1) _ _ ?_ ?_ (.inl ⟨rfl, rfl⟩))
  · simp only [nc_eq]; omega
  · show (24 - (i + 1)).toNat < (24 - i).toNat
    omega
theorem lawSafe (nw : Option Bool) (w : List tW.den) (n1 : Option Bool) (l1 : List Int) (n2 : Option Bool) (l2 : List Int) (b : Bool) (hw : PRE (∀ x ∈ w, 0 ≤ x.1 ∧ 0 ≤ x.2)) (h1 : ∀ x ∈ l1, 0 ≤ x ∧ x < 256) (h2 : ∀ x ∈ l2, 0 ≤ x ∧ x < 256) :
    PurS Try.prog 6 [injT (.sl tW) (nw, w), injT (.pair (.sl (.int .u8)) (.sl (.int .u8))) ((n1, l1), (n2, l2)), injT .bool b] (.sb true) := by
  cases b
  · exact (lawSafeF nw w n1 l1 n2 l2 hw h1 h2).cong rfl
  · exact (lawSafeT nw w n1 l1 n2 l2 hw h1 h2).cong rfl
theorem safe_typed : ∀ xs, TyVs Try.prog [37, 52, 4] xs → PurFn Try.prog 6 (xs.map .p) (.v (.bool true)) := law3 (P := Try.prog) (f := 6) (t1 := 37) (t2 := 52) (t3 := 4) (T1 := .sl tW) (T2 := .pair (.sl (.int .u8)) (.sl (.int .u8))) (T3 := .bool) (by kernel_rfl) fun a b c ha hb hc =>
  lawSafe a.1 a.2 b.1.1 b.1.2 b.2.1 b.2.2 c ⟨fun x hx => ⟨(wf_u8 (ha.2.2 x hx).1).1, (wf_u8 (ha.2.2 x hx).2).1⟩⟩ (fun x hx => wf_u8 (hb.1.2.2 x hx)) (fun x hx => wf_u8 (hb.2.2.2 x hx))
end Go.Ab

