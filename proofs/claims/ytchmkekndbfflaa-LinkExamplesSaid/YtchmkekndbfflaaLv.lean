/- LinkOnce. -/
import Derived.Test.YtchmkekndbfflaaLu
import Derived.Test.YtchmkekndbfflaaAw
set_option linter.unusedSimpArgs false
set_option linter.unusedVariables false
set_option maxRecDepth 20000
set_option maxHeartbeats 8000000
namespace Go.Ab
open Go.Proofs
theorem wrap_u8 (n : Int) : IntKind.u8.wrap n = n % 256 := by simp [IntKind.wrap, IntKind.bits, IntKind.signed]
theorem tmod_nn {n m : Int} (h : 0 ≤ n) : n.tmod m = n % m := Int.tmod_eq_emod_of_nonneg h
def clipM (x : Int) : Int := x % 256 % 10 - 1
def fateL (l : List Int) : Prop := ∀ x ∈ l, -1 ≤ x ∧ x ≤ 8
theorem fateL.app {a b : List Int} (h : fateL a) (k : fateL b) : fateL (a ++ b) := fun x hx => (List.mem_append.1 hx).elim (h x) (k x)
theorem fateL.one {x : Int} (h : -1 ≤ x) (k : x ≤ 8) : fateL [x] := fun y hy => by simp at hy; omega
theorem fateL.nil : fateL [] := fun y hy => by simp at hy
theorem fateL.rev {a : List Int} (h : fateL a) : fateL a.reverse := fun y hy => h y (List.mem_reverse.1 hy)
theorem clip_ok (x : Int) : -1 ≤ clipM x ∧ clipM x ≤ 8 := by unfold clipM; omega
theorem fate_wrong {l : List Int} (h : fateL l) (k : l.length ≤ 256) : wrongM l = 0 := by
  unfold wrongM
  rw [if_neg (by omega), if_neg]
  simp only [Bool.not_eq_true, List.any_eq_false, badM, decide_eq_true_eq]
  intro x hx; have := h x hx; omega
theorem c25 (x : Int) : PurS Try.prog 25 [injT (.int .i8) x] (.p (iv (clipM x))) := by
  refine PurS.of (S := []) (T := []) (tbl := []) (n := 8) hm33 cfg .nil .nil .nil 0 Try.call25 Try.func25 (ac25_ok (some (0, 0))) (by rw [Try.ntmps25]; exact Nat.le_refl _) rfl ⟨_, rfl⟩ ?_
  intro cmp ar cv tn ic ai mx an ad ml sb mn ln em gt up ap sc vw cp rp p1 p2 s1 s2 X Y hX hY r0 r1 r2 r3 r4 r5 r6 r7 r8 r9 r10 r11 r12 r13 r14 r15 r16 r17 r18 r19 r20 r21 r22 r23 r24
  generalize hg0 : clipM = g0
  cbv
  repeat' (first | exact True.intro | refine And.intro ?_ ?_ | (refine BR.mk ?_ ?_ <;> intro _) | (refine CASE.mk ?_; intro _))
  all_goals subst_vars
  all_goals try simp only [Short_iff, cmpR, arR, mxR, INB_iff, SLB_iff, SLM_iff, NZ_iff, NN_iff, EQN_iff, LEN_iff, LIM_iff, MK_iff, decide_eq_true_eq, decide_eq_false_iff_not, ne_eq, Bool.and_eq_true, wrap_u8] at *
  all_goals try dsimp only [Ty.den] at *
  all_goals try simp only [nc_eq] at *
  all_goals try (simp (disch := omega) only [wrap64] at *)
  · omega
  · rw [tmod_nn (by omega), wrap64 (by omega) (by omega)]; rfl

abbrev tEv : Ty := .pair (.int .u8) .bool
theorem rem4 {x : Int} (h : 0 ≤ x ∧ x < 256) : 0 ≤ arR .rem .i64 (IntKind.i64.wrap x) 4 ∧ arR .rem .i64 (IntKind.i64.wrap x) 4 ≤ 3 := by
  rw [wrap64 (by omega) (by omega)]
  show 0 ≤ Int.tmod x 4 ∧ Int.tmod x 4 ≤ 3
  rw [tmod_nn h.1]; omega
theorem vw_allT {t : Ty} {n : Nat} {l : List t.den} (h : l.length = n) : vwR t n l 0 n = l := by unfold vwR; rw [Ty.norm_eq t h, List.drop_zero, ← h, List.take_length]
theorem sIns_b {F : List Int} {i t B : Int} {c : tChoice.den} {s : List PT} (h : ∀ p ∈ s, p.1 ≤ B) (hf : fateM F i ≤ 8) (ht : t + 8 ≤ B) : ∀ p ∈ sIns F i t c s, p.1 ≤ B := fun p hp => by
  unfold sIns at hp
  split at hp
  · exact h p hp
  · rcases List.mem_cons.1 ((insP_perm _ _).mem_iff.1 hp) with rfl | hp
    · show t + _ ≤ B; omega
    · exact h p hp
theorem once_push {F : List Int} {s : List PT} {D : List Int} {q : List tPar.den} {n : Nat} {t now i : Int} (hi : (D.length : Int) = i) (hr : REL s D) (hb : ∀ p ∈ s, p.1 ≤ now + 8) (h0 : 0 ≤ t) (hnt : now ≤ t) (hf : -1 ≤ fateM F i ∧ fateM F i ≤ 8) (hq : SQ q n (sIns F i t (wantE D.length) s)) :
    ∀ x, x = (if fateM F i = -1 then -1 else t + fateM F i) → ∃ s', SQ q n s' ∧ REL s' (D ++ [x]) ∧ ∀ p ∈ s', p.1 ≤ t + 8 := fun x hx => by
  subst hi
  refine ⟨_, hq, ?_, sIns_b (fun p hp => by have := hb p hp; omega) hf.2 (Int.le_refl _)⟩
  rw [hx]; exact hr.push h0 hf.1
theorem lcheck_want {k : Nat} (h : k < 1000) : lcheckM (wantE k) = 0 := lq_want k h
theorem at_ok {now t : Int} (h0 : 0 ≤ t) (h1 : t ≤ 1000) (h2 : now ≤ t) : atM now t = 0 := by unfold atM; rw [if_neg (by omega), if_neg (by omega)]
theorem fates_bb {l : List Int} (h : wrongM l = 0) : ∀ i, -1 ≤ gtR tI (fatesM l) i ∧ gtR tI (fatesM l) i ≤ 8 := fun i => by
  have hm : ∀ x ∈ fatesM l, -1 ≤ x ∧ x ≤ 8 := fun x hx => by
    rcases List.mem_append.1 hx with hx | hx
    · unfold wrongM at h
      split at h
      · cases h
      · split at h
        · cases h
        · rename_i h2
          have := h2
          simp only [Bool.not_eq_true, List.any_eq_false, badM, decide_eq_true_eq] at this
          have := this x hx; omega
    · have := List.eq_of_mem_replicate hx; omega
  unfold gtR
  rw [List.getD_eq_getElem?_getD]
  cases hc : (fatesM l)[i.toNat]? with
  | none => exact ⟨by decide, by decide⟩
  | some v => exact hm v (List.mem_of_getElem? hc)
theorem fate_get {l : List Int} {i : Int} (h0 : 0 ≤ i) (h1 : i < 100) (k : l.length ≤ 40) : fateM (fatesM l) i = if i < l.length then gtR tI l i else 0 := by
  unfold fateM
  rw [if_pos (by omega)]
  unfold fatesM gtR
  simp only [List.getD_eq_getElem?_getD, List.getElem?_append, List.getElem?_replicate]
  by_cases h : i < l.length
  · have h' : i.toNat < l.length := by omega
    simp [h, h']
  · have h' : ¬ i.toNat < l.length := by omega
    simp only [h, h', if_false]
    split <;> rfl
theorem lawOnce (nf : Option Bool) (f : List Int) (ne : Option Bool) (l : List tEv.den) (hf : f.length ≤ maxLen) (hl : l.length ≤ maxLen) (hp : ∀ e ∈ l, 0 ≤ e.1 ∧ e.1 < 256) : PurS Try.prog 6 [injT (.sl (.int .i8)) (nf, f), injT (.sl tEv) (ne, l)] (.sb true) := by
  refine PurS.of (S := [(10, _), (25, _), (27, _)]) (T := [(11, _), (13, _), (26, _), (18, _)]) (tbl := []) (n := 119) hm33 cfg (.cons (spT0.ok caw33b) (.cons (spT1.ok (a := (.int .i8)) (pre := fun _ => True) fun x0 _ => c25 x0) (.cons (spT1.ok (a := (.int .i64)) (pre := fun _ => True) fun x0 _ => c27 x0) .nil))) (.cons cNewT (.cons cSendR (.cons cHearsT (.cons cPend0T .nil)))) .nil 0 Try.call6 Try.func6 (ac6_ok (some (0, 0))) (by rw [Try.ntmps6]; exact Nat.le_refl _) rfl ⟨_, rfl⟩ ?_
  intro cmp ar cv tn ic ai mx an ad ml sb mn ln em gt up ap sc vw cp rp p1 p2 s1 s2 X Y hX hY r0 r1 r2 r3 r4 r5 r6 r7 r8 r9 r10 r11 r12 r13 r14 r15 r16 r17 r18 r19 r20 r21 r22 r23 r24
  generalize hg0 : fatesM = g0
  generalize hg1 : clipM = g1
  cbv
  have hck : ∀ x, -1 ≤ clipM x ∧ clipM x ≤ 8 := clip_ok
  have hnw : ∀ a, fateL a → a.length ≤ 40 → NEWK a := fun a h k => ⟨fate_wrong h (by omega)⟩
  have hfa : ∀ a, fateL a → a.length ≤ 40 → (∀ i, -1 ≤ gtR tI (fatesM a) i ∧ gtR tI (fatesM a) i ≤ 8) ∧ ∀ i : Int, 0 ≤ i → i < 100 → fateM (fatesM a) i = if i < a.length then gtR tI a i else 0 := fun a h k => ⟨fates_bb (fate_wrong h (by omega)), fun i h0 h1 => fate_get h0 h1 k⟩
  rw [hg1] at hck
  rw [hg0] at hfa
  refine LOOP.ind (σ := List Int × Int) (fun (a, i) => [(0, .tl nf (.int .i8) f), (1, .tl ne tEv l), (5, .og 0 tI a), (6, .p (iv i))]) (fun (a, i) => ⟨[], [(ml (ln tI a) 1, 3)]⟩) (fun (a, i) => (f.length - i).toNat)
    (fun (a, i) => 0 ≤ i ∧ i ≤ f.length ∧ i ≤ 40 ∧ a.length = i ∧ fateL a) ([], 0) ⟨by omega, by show (0 : Int) ≤ _; omega, by omega, by simp, fateL.nil⟩ (.inr ⟨[], [none], ?_⟩) ?_
  · rw [SIM_iff]; cbv; simp [nlLe_self]
  intro ⟨a, i⟩ hI X1 hX
  dsimp only at hI
  obtain ⟨hI1, hI2, hI3, hI4, hI5⟩ := hI
  have hst : ∀ x, fateL (a ++ [g1 x]) := fun x => hI5.app (fateL.one (hck x).1 (hck x).2)
  have hnw := hnw a hI5 (by omega)
  have hfa := hfa a hI5 (by omega)
  have ha40 : a.length ≤ 40 := by omega
  have hA : (a.length : Int) ≤ 40 := by omega
  cbv
  repeat' (first | exact True.intro | refine And.intro ?_ ?_ | (refine BR.mk ?_ ?_ <;> intro _) | (refine CASE.mk ?_; intro _) | refine NEXT.mk (hX (_, _) _ _ ?_ ?_ (.inl ⟨rfl, rfl⟩)))
  all_goals first | (show LOOP _ _ _ _ _ _; skip) | (clear hX; subst_vars; (all_goals try simp only [Short_iff, cmpR, arR, mxR, INB_iff, SLB_iff, SLM_iff, NZ_iff, NN_iff, EQN_iff, LEN_iff, LIM_iff, MK_iff, decide_eq_true_eq, decide_eq_false_iff_not, ne_eq, Bool.and_eq_true, cmpR] at *); (all_goals try dsimp only [Ty.den] at *); (all_goals try simp only [nc_eq] at *); (all_goals try (simp (disch := omega) only [wrap64] at *)); all_goals grind)
  all_goals
    obtain ⟨hfa1, hfa2⟩ := hfa
    clear hX hst hnw
    obtain ⟨F, hF⟩ : ∃ F, F = g0 a := ⟨_, rfl⟩
    rw [← hF] at hfa1 hfa2 ⊢
    clear hF
    refine LOOP.ind (σ := Option ((Int × Int) × (Nat × Nat × List tPar.den) × (Nat × List Int)))
      (fun x => match x with
        | none => [(1, .tl ne tEv l), (5, .og 0 tI a), (7, .ptr 0 0), (9, .p (iv 0)), (10, .tl (some true) tI []), (11, .p (iv 0))]
        | some ((now, i), (N, n, q), (m, D)) => [(1, .tl ne tEv l), (5, .og 0 tI a), (7, .ptr 0 0), (9, .p (iv now)), (10, .ms 3 0 1 none m), (11, .p (iv i))])
      (fun x => match x with
        | none => linkG F 0 0 0 0 [] [(ml (ln tI a) 1, 3)]
        | some ((now, i), (N, n, q), (m, D)) => stH F now i N n q m D [(ml (ln tI a) 1, 3)])
      (fun x => match x with | none => l.length + 1 | some ((now, i), _) => (l.length - i).toNat)
      (fun x => match x with | none => True | some ((now, i), (N, n, q), (m, D)) => 1 ≤ i ∧ i ≤ l.length ∧ i ≤ 40 ∧ 0 ≤ now ∧ now ≤ 4 * i ∧ q.length = N ∧ (m : Int) = i ∧ D.length = m ∧ (n : Int) ≤ i ∧ ∃ s, SQ q n s ∧ REL s D ∧ ∀ p ∈ s, p.1 ≤ now + 8) none trivial (.inr ⟨[some 0, some 1, some 2], [some 0], ?_⟩) ?_
    · rw [SIM_iff]; cbv
      simp [nlLe_self, lstEq]
    intro x hJ X2 hY
    have hll : ic (ln tEv l) = l.length := by rw [r4, r12]
    cases x with
    | none =>
      obtain ⟨c, hc⟩ : ∃ c : Int, c = ar .rem .i64 (cv .i64 (p1 (.int .u8) .bool (gt tEv l 0))) 4 := ⟨_, rfl⟩
      obtain ⟨hb, hhb⟩ : ∃ c : Bool, c = p2 (.int .u8) .bool (gt tEv l 0) := ⟨_, rfl⟩
      have hcb : 0 < l.length → 0 ≤ c ∧ c ≤ 3 := fun h => by
        have h1 := hp _ (gtR_mem (t := tEv) (l := l) (i := 0) (by omega) (by omega))
        have h2 : c = arR .rem .i64 (IntKind.i64.wrap (gtR tEv l 0).1) 4 := by rw [hc, r1, r2, r14, r21]
        rw [h2]; exact rem4 h1
      obtain ⟨t, ht⟩ : ∃ t : Int, t = ar .add .i64 0 c := ⟨_, rfl⟩
      have htv : 0 < l.length → t = c := fun h => by rw [ht, r1]; have := hcb h; exact (wrap64 (n := 0 + c) (by omega) (by omega)).trans (by omega)
      have h01 : ar .add .i64 0 1 = 1 := by rw [r1]; rfl
      cbv
      rw [← hc, ← hhb, ← ht, h01, hll]
      refine BR.mk (fun hi => ?_) fun hi => ?_
      · have hi : 0 < l.length := by rw [r0] at hi; have : (0 : Int) < l.length := by simpa [cmpR] using hi
                                     omega
        have hinb : INB 0 (l.length : Int) := ⟨by omega, by omega⟩
        have hcb := hcb hi
        have htv := htv hi
        have hsk : SENDK F 0 0 0 [] := ⟨rfl, by omega, by omega, by omega, by omega, hfa1⟩
        have hat : atM 0 t = 0 := at_ok (by omega) (by omega) (by omega)
        have hat2 : atM t t = 0 := at_ok (by omega) (by omega) (by omega)
        refine BR.mk (fun _ => ⟨hinb, hinb, ⟨by decide⟩, hinb, hinb, BR.mk (fun _ => ⟨⟨rfl, rfl, hat⟩, ?_, SENT.mk hsk ?_⟩) fun _ => SENT.mk hsk ?_⟩) (fun h => absurd h (by rw [r0]; simp [cmpR]))
        · simp [nlLe_self]
        all_goals
          intro e1 now1 s1 N1 n1 q1 h1
          obtain ⟨rfl, rfl, rfl, k4, k5, k6⟩ := h1.good (x := wantE 0) (s := []) (.zero _) rfl (fun y hy => by simp at hy) (by first | exact hat2 | exact hat) (lcheck_want (by omega)) (by omega)
          clear h1
          have hf0 := hfa2 0 (by omega) (by omega)
          have hfb : -1 ≤ fateM F 0 ∧ fateM F 0 ≤ 8 := by unfold fateM; rw [if_pos (by omega)]; exact hfa1 0
          have kX := once_push (F := F) (s := []) (D := []) (now := 0) (i := 0) rfl REL.nil (fun p hp => by simp at hp) (by omega) (by omega) hfb k4
          obtain ⟨g, hg⟩ : ∃ g : Int, g = gt tI a 0 := ⟨_, rfl⟩
          have hg1 : g = gtR tI a 0 := by rw [hg, r14]
          rw [← hg1] at hf0
          have hla : ic (ln tI a) = a.length := by rw [r4, r12]
          have hl1 : ∀ x : Int, ln tI [x] = 1 := fun x => by rw [r12]; rfl
          have hn1 : (n1 : Int) ≤ 1 := by omega
          have htb : 0 ≤ now1 ∧ now1 ≤ 4 * 1 := by omega
          have hl1' : (1 : Int) ≤ l.length := by omega
          clear hat hat2 hcb htv hc ht hhb hfa1 hfa2 hfb k4 k6 hsk
          cbv
          rw [← hg, hla]
          simp only [hl1]
          have hga : ar .add .i64 now1 g = now1 + g ∨ ¬ (-1 ≤ g ∧ g ≤ 8) := by
            by_cases hh : -1 ≤ g ∧ g ≤ 8
            · left; rw [r1]; exact wrap64 (n := now1 + g) (by omega) (by omega)
            · exact .inr hh
          have hgb : 0 < a.length → -1 ≤ g ∧ g ≤ 8 := fun h => by rw [hg1]; exact hI5 _ (gtR_mem (t := tI) (by omega) (by omega))
          obtain ⟨y, hy⟩ : ∃ y : Int, y = ar .add .i64 now1 g := ⟨_, rfl⟩
          rw [h01, ← hy]
          rw [← hy] at hga
          have hmu : ((l.length : Int) - 1).toNat < l.length + 1 := by omega
          repeat' (first | exact True.intro | refine And.intro ?_ ?_ | (refine BR.nn r0 ?_) | (refine BR.lss r0 ?_ ?_ <;> intro _) | (refine BR.neq r0 ?_ ?_ <;> intro _) | (refine BR.eql r0 ?_ ?_ <;> intro _) | (refine BR.leq r0 ?_ ?_ <;> intro _) | (refine BR.gtr r0 ?_ ?_ <;> intro _) | (refine BR.geq r0 ?_ ?_ <;> intro _) | (refine BR.mk ?_ ?_ <;> intro _) | (refine CASE.mk ?_; intro _))
          all_goals try (exact ⟨by omega⟩)
          all_goals try (exact ⟨by omega, by decide⟩)
          all_goals try (exact ⟨by omega, by omega⟩)
          all_goals first
            | (refine NEXT.mk (hY (some ((now1, 1), (N1, n1, q1), (1, [now1]))) _ _ ⟨by omega, hl1', by omega, htb.1, htb.2, k5, rfl, rfl, hn1, kX _ ?_⟩ hmu (.inr ⟨[some 0, some 1, some 3, some 4], [some 0], ?_⟩))
               rotate_left
               · rw [SIM_iff]; cbv; simp [nlLe_self, lstEq]; done
               · rw [hf0]; clear kX; grind)
            | (refine NEXT.mk (hY (some ((now1, 1), (N1, n1, q1), (1, [-1]))) _ _ ⟨by omega, hl1', by omega, htb.1, htb.2, k5, rfl, rfl, hn1, kX _ ?_⟩ hmu (.inr ⟨[some 0, some 1, some 3, some 4], [some 0], ?_⟩))
               rotate_left
               · rw [SIM_iff]; cbv; simp [nlLe_self, lstEq]; done
               · rw [hf0]; clear kX; grind)
            | (refine NEXT.mk (hY (some ((now1, 1), (N1, n1, q1), (1, [y]))) _ _ ⟨by omega, hl1', by omega, htb.1, htb.2, k5, rfl, rfl, hn1, kX _ ?_⟩ hmu (.inr ⟨[some 0, some 1, some 3, some 4], [some 0], ?_⟩))
               rotate_left
               · rw [SIM_iff]; cbv; simp [nlLe_self, lstEq]; done
               · rw [hf0]; clear kX; grind)
      · have h9 : ar .add .i64 0 9 = 9 := by rw [r1]; rfl
        rw [h9]
        exact ⟨⟨rfl, rfl, by decide⟩, by simp [nlLe_self], ⟨rfl, rfl⟩, BR.mk (fun _ => trivial) (fun h => absurd h (by rw [r0, r4]; simp [cmpR]))⟩
    | some x =>
      obtain ⟨⟨now, i⟩, ⟨N, n, q⟩, m, D⟩ := x
      dsimp only at hJ
      obtain ⟨hJ1, hJ2, hJ3, hJ4, hJ5, hJ6, hJ7, hJ8, hJ9, s, hs, hr, hb⟩ := hJ
      obtain ⟨c, hc⟩ : ∃ c : Int, c = ar .rem .i64 (cv .i64 (p1 (.int .u8) .bool (gt tEv l i))) 4 := ⟨_, rfl⟩
      obtain ⟨hb', hhb⟩ : ∃ c : Bool, c = p2 (.int .u8) .bool (gt tEv l i) := ⟨_, rfl⟩
      have hcb : i < l.length → 0 ≤ c ∧ c ≤ 3 := fun h => by
        have h1 := hp _ (gtR_mem (t := tEv) (l := l) (i := i) (by omega) h)
        have h2 : c = arR .rem .i64 (IntKind.i64.wrap (gtR tEv l i).1) 4 := by rw [hc, r1, r2, r14, r21]
        rw [h2]; exact rem4 h1
      obtain ⟨t, ht⟩ : ∃ t : Int, t = ar .add .i64 now c := ⟨_, rfl⟩
      have htv : i < l.length → t = now + c := fun h => by rw [ht, r1]; have := hcb h; exact wrap64 (n := now + c) (by omega) (by omega)
      have hi1 : ar .add .i64 i 1 = i + 1 := by rw [r1]; exact wrap64 (n := i + 1) (by omega) (by omega)
      have h9 : ar .add .i64 now 9 = now + 9 := by rw [r1]; exact wrap64 (n := now + 9) (by omega) (by omega)
      have hnq : n ≤ N := by rw [← hJ6]; exact hs.le
      have hun : ∀ s', SQ q n s' → ∀ p ∈ s', p.1 ≤ now + 8 := fun s' h p hp => hb p ((hs.pm.mem_iff).2 ((h.pm.mem_iff).1 hp))
      have hunq : ∀ p ∈ q.take n, p.1 ≤ now + 8 := fun p hp => hb p ((hs.pm.mem_iff).2 hp)
      cbv
      rw [← hc, ← hhb, ← ht, hi1, h9, hll]
      simp only [nc_eq] at *
      have hn40 : n ≤ 40 := by omega
      have hm40 : m ≤ 40 := by omega
      have hmi : m = i.toNat := by omega
      have hni : n ≤ i.toNat := by omega
      refine BR.mk (fun hi => ?_) fun hi => ?_
      · have hi : i < l.length := by rw [r0] at hi; simpa [cmpR] using hi
        have hinb : INB i (l.length : Int) := ⟨by omega, hi⟩
        have hcb := hcb hi
        have htv := htv hi
        have hsm : ∀ (s : List PT) (D : List Int), REL s D → (D.length : Int) = i → ∀ y ∈ s, y.2.1 < i := fun s D h hd y hy => by
          obtain ⟨k, hk, rfl, _⟩ := h.mem y hy
          show (k : Int) < i; omega
        have hat : atM now t = 0 := at_ok (by omega) (by omega) (by omega)
        have hat2 : atM t t = 0 := at_ok (by omega) (by omega) (by omega)
        have hm64 : m ≤ 64 := by omega
        have hwx : ((3, 4, 0, i + 1) : tChoice.den) = wantE i.toNat := by unfold wantE; rw [show ((i.toNat : Nat) : Int) = i by omega]
        have hf0 := fun h40 : i < 40 => hfa2 i (by omega) (by omega)
        obtain ⟨g, hg⟩ : ∃ g : Int, g = gt tI a i := ⟨_, rfl⟩
        have hg1 : g = gtR tI a i := by rw [hg, r14]
        rw [← hg1] at hf0
        have hla : ic (ln tI a) = a.length := by rw [r4, r12]
        have hl1 : ∀ x : Int, ln tI [x] = 1 := fun x => by rw [r12]; rfl
        have hgb : i < a.length → -1 ≤ g ∧ g ≤ 8 := fun h => by rw [hg1]; exact hI5 _ (gtR_mem (t := tI) (by omega) h)
        obtain ⟨y, hy⟩ : ∃ y : Int, y = ar .add .i64 t g := ⟨_, rfl⟩
        have hga : y = t + g ∨ ¬ (-1 ≤ g ∧ g ≤ 8) := by
          by_cases hh : -1 ≤ g ∧ g ≤ 8
          · left; rw [hy, r1]; exact wrap64 (n := t + g) (by omega) (by omega)
          · exact .inr hh
        have hmu : ((l.length : Int) - (i + 1)).toNat < ((l.length : Int) - i).toNat := by omega
        have hinba : ¬ i ≥ a.length → INB i a.length := fun h => ⟨by omega, by omega⟩
        refine BR.mk (fun h40 => ?_) fun h40 => ?_
        · have h40 : i < 40 := by rw [r0] at h40; simpa [cmpR] using h40
          have hf0 := hf0 h40
          refine ⟨hinb, hinb, ⟨by decide⟩, hinb, hinb, BR.mk (fun _ => ?_) fun _ => ?_⟩
          · refine HRS.mk ⟨⟨s, hs, hr⟩, hJ8, hJ6, by omega, hat, hm64⟩ ?_
            intro n2 q2 D2 s2 g1 g2 g3 g4 g5 g6 g7
            have g8 : ∀ p ∈ s2, p.1 ≤ now + 8 := fun p hp => hunq p (g7 p hp)
            cbv
            try simp only [nc_eq] at *
            repeat' (first | exact True.intro | refine And.intro ?_ ?_ | (refine BR.nn r0 ?_) | (refine BR.lss r0 ?_ ?_ <;> intro _) | (refine BR.neq r0 ?_ ?_ <;> intro _) | (refine BR.eql r0 ?_ ?_ <;> intro _) | (refine BR.leq r0 ?_ ?_ <;> intro _) | (refine BR.gtr r0 ?_ ?_ <;> intro _) | (refine BR.geq r0 ?_ ?_ <;> intro _) | (refine BR.mk ?_ ?_ <;> intro _) | (refine CASE.mk ?_; intro _))
            rw [hi1]
            refine SENT.mk ⟨g3, by rw [← g3]; exact g1.le, by omega, by omega, by omega, hfa1⟩ ?_
            intro e1 now1 s1 N1 n1 q1 h1
            rw [hwx] at h1
            obtain ⟨rfl, rfl, rfl, k4, k5, k6⟩ := h1.good (x := wantE i.toNat) (s := s2) g1 g3 (hsm _ _ g2 (by rw [g5]; omega)) hat2 (lcheck_want (by omega)) (by omega)
            clear h1
            have hfb : -1 ≤ fateM F i ∧ fateM F i ≤ 8 := by unfold fateM; rw [if_pos (by omega)]; exact hfa1 i
            have hDi : (D2.length : Int) = i := by rw [g5]; omega
            have kX := once_push (F := F) (s := s2) (D := D2) (now := now) (t := now1) (i := i) hDi g2 g8 (by omega) (by omega) hfb (by rw [show D2.length = i.toNat by omega]; exact k4)
            have hn1 : (n1 : Int) ≤ i + 1 := by omega
            have htb : 0 ≤ now1 ∧ now1 ≤ 4 * (i + 1) := by omega
            have hm1 : ((ad m 1 : Nat) : Int) = i + 1 := by rw [r8]; show ((m + 1 : Nat) : Int) = _; omega
            have hap : ∀ x : Int, (ap tI D2 [x]).length = ad m 1 := fun x => by rw [r16, r8]; show (D2 ++ [x]).length = m + 1; rw [List.length_append, g5]; rfl
            have hvw : vw tI m D2 0 m = D2 := by rw [r18]; exact vw_allT (t := tI) g5
            cbv
            try simp only [nc_eq] at *
            rw [← hg, hla]
            simp only [hl1]
            rw [hi1, hvw]
            try rw [← hy]
            repeat' (first | exact True.intro | refine And.intro ?_ ?_ | (refine BR.nn r0 ?_) | (refine BR.lss r0 ?_ ?_ <;> intro _) | (refine BR.neq r0 ?_ ?_ <;> intro _) | (refine BR.eql r0 ?_ ?_ <;> intro _) | (refine BR.leq r0 ?_ ?_ <;> intro _) | (refine BR.gtr r0 ?_ ?_ <;> intro _) | (refine BR.geq r0 ?_ ?_ <;> intro _) | (refine BR.mk ?_ ?_ <;> intro _) | (refine CASE.mk ?_; intro _))
            all_goals try (exact ⟨by omega⟩)
            all_goals try (exact ⟨Nat.le_refl _⟩)
            all_goals try (exact ⟨by rw [r8]; omega, by rw [r8]; simp only [maxLen]; omega⟩)
            all_goals try (exact ⟨by omega, by omega⟩)
            all_goals first
              | (refine NEXT.mk (hY (some ((now1, i + 1), (N1, n1, q1), (ad m 1, ap tI D2 [now1]))) _ _ ⟨by omega, by omega, by omega, htb.1, htb.2, k5, hm1, hap _, hn1, ?_⟩ hmu (.inr ⟨[some 0, some 1, some 4, some 5], [some 0], ?_⟩))
                 rotate_left
                 · rw [SIM_iff]; cbv; simp [nlLe_self, lstEq]; done
                 · rw [r16]; refine kX _ ?_; rw [hf0]; clear kX; grind)
              | (refine NEXT.mk (hY (some ((now1, i + 1), (N1, n1, q1), (ad m 1, ap tI D2 [-1]))) _ _ ⟨by omega, by omega, by omega, htb.1, htb.2, k5, hm1, hap _, hn1, ?_⟩ hmu (.inr ⟨[some 0, some 1, some 4, some 5], [some 0], ?_⟩))
                 rotate_left
                 · rw [SIM_iff]; cbv; simp [nlLe_self, lstEq]; done
                 · rw [r16]; refine kX _ ?_; rw [hf0]; clear kX; grind)
              | (refine NEXT.mk (hY (some ((now1, i + 1), (N1, n1, q1), (ad m 1, ap tI D2 [y]))) _ _ ⟨by omega, by omega, by omega, htb.1, htb.2, k5, hm1, hap _, hn1, ?_⟩ hmu (.inr ⟨[some 0, some 1, some 4, some 5], [some 0], ?_⟩))
                 rotate_left
                 · rw [SIM_iff]; cbv; simp [nlLe_self, lstEq]; done
                 · rw [r16]; refine kX _ ?_; rw [hf0]; clear kX; grind)
          · have g1 := hs
            have g2 := hr
            have g3 := hJ6
            have g5 := hJ8
            have g8 := hb
            refine SENT.mk ⟨g3, hnq, by omega, by omega, by omega, hfa1⟩ ?_
            intro e1 now1 s1 N1 n1 q1 h1
            rw [hwx] at h1
            obtain ⟨rfl, rfl, rfl, k4, k5, k6⟩ := h1.good (x := wantE i.toNat) (s := s) g1 g3 (hsm _ _ g2 (by rw [g5]; omega)) hat (lcheck_want (by omega)) (by omega)
            clear h1
            have hfb : -1 ≤ fateM F i ∧ fateM F i ≤ 8 := by unfold fateM; rw [if_pos (by omega)]; exact hfa1 i
            have hDi : (D.length : Int) = i := by rw [g5]; omega
            have kX := once_push (F := F) (s := s) (D := D) (now := now) (t := now1) (i := i) hDi g2 g8 (by omega) (by omega) hfb (by rw [show D.length = i.toNat by omega]; exact k4)
            have hn1 : (n1 : Int) ≤ i + 1 := by omega
            have htb : 0 ≤ now1 ∧ now1 ≤ 4 * (i + 1) := by omega
            have hm1 : ((ad m 1 : Nat) : Int) = i + 1 := by rw [r8]; show ((m + 1 : Nat) : Int) = _; omega
            have hap : ∀ x : Int, (ap tI D [x]).length = ad m 1 := fun x => by rw [r16, r8]; show (D ++ [x]).length = m + 1; rw [List.length_append, g5]; rfl
            have hvw : vw tI m D 0 m = D := by rw [r18]; exact vw_allT (t := tI) g5
            cbv
            try simp only [nc_eq] at *
            rw [← hg, hla]
            simp only [hl1]
            rw [hi1, hvw]
            try rw [← hy]
            repeat' (first | exact True.intro | refine And.intro ?_ ?_ | (refine BR.nn r0 ?_) | (refine BR.lss r0 ?_ ?_ <;> intro _) | (refine BR.neq r0 ?_ ?_ <;> intro _) | (refine BR.eql r0 ?_ ?_ <;> intro _) | (refine BR.leq r0 ?_ ?_ <;> intro _) | (refine BR.gtr r0 ?_ ?_ <;> intro _) | (refine BR.geq r0 ?_ ?_ <;> intro _) | (refine BR.mk ?_ ?_ <;> intro _) | (refine CASE.mk ?_; intro _))
            all_goals try (exact ⟨by omega⟩)
            all_goals try (exact ⟨Nat.le_refl _⟩)
            all_goals try (exact ⟨by rw [r8]; omega, by rw [r8]; simp only [maxLen]; omega⟩)
            all_goals try (exact ⟨by omega, by omega⟩)
            all_goals first
              | (refine NEXT.mk (hY (some ((now1, i + 1), (N1, n1, q1), (ad m 1, ap tI D [now1]))) _ _ ⟨by omega, by omega, by omega, htb.1, htb.2, k5, hm1, hap _, hn1, ?_⟩ hmu (.inr ⟨[some 0, some 1, some 4, some 5], [some 0], ?_⟩))
                 rotate_left
                 · rw [SIM_iff]; cbv; simp [nlLe_self, lstEq]; done
                 · rw [r16]; refine kX _ ?_; rw [hf0]; clear kX; grind)
              | (refine NEXT.mk (hY (some ((now1, i + 1), (N1, n1, q1), (ad m 1, ap tI D [-1]))) _ _ ⟨by omega, by omega, by omega, htb.1, htb.2, k5, hm1, hap _, hn1, ?_⟩ hmu (.inr ⟨[some 0, some 1, some 4, some 5], [some 0], ?_⟩))
                 rotate_left
                 · rw [SIM_iff]; cbv; simp [nlLe_self, lstEq]; done
                 · rw [r16]; refine kX _ ?_; rw [hf0]; clear kX; grind)
              | (refine NEXT.mk (hY (some ((now1, i + 1), (N1, n1, q1), (ad m 1, ap tI D [y]))) _ _ ⟨by omega, by omega, by omega, htb.1, htb.2, k5, hm1, hap _, hn1, ?_⟩ hmu (.inr ⟨[some 0, some 1, some 4, some 5], [some 0], ?_⟩))
                 rotate_left
                 · rw [SIM_iff]; cbv; simp [nlLe_self, lstEq]; done
                 · rw [r16]; refine kX _ ?_; rw [hf0]; clear kX; grind)
        · refine HRS.mk ⟨⟨s, hs, hr⟩, hJ8, hJ6, by omega, at_ok (by omega) (by omega) (by omega), by omega⟩ ?_
          intro n2 q2 D2 s2 g1 g2 g3 g4 g5 g6 g7
          have hs2 : s2 = [] := by
            cases s2 with
            | nil => rfl
            | cons p r => exact absurd (Int.le_trans (hunq p (g7 p List.mem_cons_self)) (by omega)) (g6 p List.mem_cons_self)
          subst hs2
          have hn20 : n2 = 0 := g1.nil
          cbv
          repeat' (first | exact True.intro | refine And.intro ?_ ?_ | (refine BR.nn r0 ?_) | (refine BR.lss r0 ?_ ?_ <;> intro _) | (refine BR.neq r0 ?_ ?_ <;> intro _) | (refine BR.eql r0 ?_ ?_ <;> intro _) | (refine BR.leq r0 ?_ ?_ <;> intro _) | (refine BR.gtr r0 ?_ ?_ <;> intro _) | (refine BR.geq r0 ?_ ?_ <;> intro _) | (refine BR.mk ?_ ?_ <;> intro _) | (refine CASE.mk ?_; intro _))
          · exact ⟨hn20, g3⟩
          · rename_i hz; exact absurd (by rw [r4]; rfl) hz
      · refine HRS.mk ⟨⟨s, hs, hr⟩, hJ8, hJ6, by omega, at_ok (by omega) (by omega) (by omega), by omega⟩ ?_
        intro n2 q2 D2 s2 g1 g2 g3 g4 g5 g6 g7
        have hs2 : s2 = [] := by
          cases s2 with
          | nil => rfl
          | cons p r => exact absurd (Int.le_trans (hunq p (g7 p List.mem_cons_self)) (by omega)) (g6 p List.mem_cons_self)
        subst hs2
        have hn20 : n2 = 0 := g1.nil
        cbv
        repeat' (first | exact True.intro | refine And.intro ?_ ?_ | (refine BR.nn r0 ?_) | (refine BR.lss r0 ?_ ?_ <;> intro _) | (refine BR.neq r0 ?_ ?_ <;> intro _) | (refine BR.eql r0 ?_ ?_ <;> intro _) | (refine BR.leq r0 ?_ ?_ <;> intro _) | (refine BR.gtr r0 ?_ ?_ <;> intro _) | (refine BR.geq r0 ?_ ?_ <;> intro _) | (refine BR.mk ?_ ?_ <;> intro _) | (refine CASE.mk ?_; intro _))
        · exact ⟨hn20, g3⟩
        · rename_i hz; exact absurd (by rw [r4]; rfl) hz
theorem once_typed : ∀ xs, TyVs Try.prog [54, 55] xs → PurFn Try.prog 6 (xs.map .p) (.v (.bool true)) := law2 (P := Try.prog) (f := 6) (t1 := 54) (t2 := 55) (T1 := .sl (.int .i8)) (T2 := .sl tEv) (by kernel_rfl) fun f l hf hl => lawOnce f.1 f.2 l.1 l.2 hf.1 hl.1 (fun e he => wf_u8 (hl.2.2 e he).1)
end Go.Ab

