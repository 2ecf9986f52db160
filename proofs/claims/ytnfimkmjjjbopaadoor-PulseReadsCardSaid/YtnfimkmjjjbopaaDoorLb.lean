/- Sweeps: which slots have a pulse. -/
import Derived.Test.YtnfimkmjjjbopaaDoorLa
set_option linter.unusedSimpArgs false
set_option linter.unusedVariables false
set_option maxRecDepth 20000
set_option maxHeartbeats 4000000
namespace Go.Ab
open Go.Proofs
theorem upR_len {t : Ty} {n : Nat} {l : List t.den} (h : l.length = n) (k : Int) (x : t.den) : upR t n l k x = l.set k.toNat x := by unfold upR; rw [Ty.norm_eq t h]
theorem vw_all {t : Ty} {n : Nat} {l : List t.den} (h : l.length = n) : vwR t n l 0 n = l := by unfold vwR; rw [Ty.norm_eq t h, List.drop_zero, ← h, List.take_length]
theorem rep_set {n i x : Int} (h0 : 0 ≤ i) (h1 : i < n) : (List.replicate i.toNat x ++ List.replicate (n - i).toNat 0).set i.toNat x = List.replicate (i + 1).toNat x ++ List.replicate (n - (i + 1)).toNat (0 : Int) := by
  rw [show (n - i).toNat = (n - (i + 1)).toNat + 1 by omega, show (i + 1).toNat = i.toNat + 1 by omega, List.replicate_succ, List.replicate_succ', List.set_append_right _ _ (by simp)]
  simp
theorem cAll (n x : Int) (r : List Int) (hr : r = List.replicate n.toNat x) (hn : 0 ≤ n ∧ n ≤ 2000) : PurS Tryd.prog 34 [injT tI n, injT tB x] (.tl none tB r) := by
  refine PurS.of (S := []) (T := []) (tbl := []) (n := 19) hmD cfg .nil .nil .nil 0 Tryd.call34 Tryd.func34 (ac34_ok (some (0, 0))) (by rw [Tryd.ntmps34]; exact Nat.le_refl _) rfl ⟨_, rfl⟩ ?_
  intro cmp ar cv tn ic ai mx an ad ml sb mn ln em gt up ap sc vw cp rp p1 p2 s1 s2 X Y hX hY r0 r1 r2 r3 r4 r5 r6 r7 r8 r9 r10 r11 r12 r13 r14 r15 r16 r17 r18 r19 r20 r21 r22 r23 r24
  cbv
  obtain ⟨Z, hZ⟩ : ∃ Z : List Int, Z = List.replicate n.toNat 0 := ⟨_, rfl⟩
  refine ⟨⟨hn.1, by omega, by omega, by simp only [maxLen]; omega⟩, ?_⟩
  refine LOOP.ind (σ := List Int × Int) (fun (L, i) => [(0, .p (iv n)), (1, .p (.v (.int .u8 x))), (5, .ms 0 0 1 none (tn n)), (6, .p (iv i))]) (fun (L, i) => ⟨[{ cells := [.arr (tn n) tB L], e := 5, fz := false, ap := true }], []⟩) (fun (L, i) => (n - i).toNat) (fun (L, i) => 0 ≤ i ∧ i ≤ n ∧ L = List.replicate i.toNat x ++ List.replicate (n - i).toNat 0) (Z, 0) (by rw [hZ]; simp; omega) (.inr ⟨[some 0], [], ?_⟩) ?_
  · rw [SIM_iff]; cbv
    have e : rp tB (tn n) (0 : Int) = Z := by rw [hZ, r20, r3]
    exact ⟨⟨⟨e, trivial⟩, trivial⟩, trivial⟩
  intro ⟨L, i⟩ hI X' hX
  dsimp only at hI
  have hL : L.length = n.toNat := by rw [hI.2.2]; simp; omega
  have hup := upR_len (t := tB) hL i x
  have hrs := rep_set (n := n) (i := i) (x := x) hI.1
  cbv
  repeat' (first | exact True.intro | refine And.intro ?_ ?_ | (refine BR.mk ?_ ?_ <;> intro _) | (refine CASE.mk ?_; intro _) | refine NEXT.mk (hX (_, _) _ _ ?_ ?_ (.inl ⟨rfl, rfl⟩)))
  all_goals clear hX
  all_goals subst_vars
  all_goals try simp only [Short_iff, cmpR, arR, mxR, INB_iff, SLB_iff, SLM_iff, NZ_iff, NN_iff, EQN_iff, LEN_iff, LIM_iff, MK_iff, decide_eq_true_eq, decide_eq_false_iff_not, ne_eq, Bool.and_eq_true, upR_len] at *
  all_goals try dsimp only [Ty.den] at *
  all_goals try simp only [nc_eq] at *
  all_goals try (simp (disch := omega) only [wrap64] at *)
  all_goals first
    | omega
    | exact nlLe_none.2 trivial
    | (rw [hup, hI.2.2]; exact hrs ‹_›)
    | (rw [vw_all (t := tB) hL, hI.2.2, show (n - i).toNat = 0 by omega, show i.toNat = n.toNat by omega]; simp)
/-- The slots of a train, and of some, as a sweep (read by gtR: what is not there is false). -/
def swS : List Bool → List Int → List Bool
  | S, [] => S
  | S, n :: l => swS (upR .bool 1024 S n true) l
def swO : List Bool → List (Option Bool × List Int) → List Bool × Int
  | S, [] => (S, 0)
  | S, t :: l => if chkE t.2 ≠ 0 then (S, chkE t.2) else swO (swS S t.2) l
abbrev tTr : Ty := .sl tI
def pOf (l : List (Option Bool × List Int)) : Prop := ∀ t ∈ l, t.2.length ≤ 1500
theorem chkP_rng : ∀ {l : List Int} {m : Int}, chkP m l = true → -1 ≤ m → ∀ x ∈ l, 0 ≤ x ∧ x < 1024
  | [], _, _, _, x, h => by simp at h
  | n :: l, m, h, hm, x, hx => by
    simp only [chkP] at h
    split at h
    · cases h
    · rcases List.mem_cons.1 hx with rfl | hx
      · omega
      · exact chkP_rng h (by omega) x hx
theorem chkE_rng {l : List Int} (h : chkE l = 0) : ∀ x ∈ l, 0 ≤ x ∧ x < 1024 := by
  unfold chkE at h
  split at h
  · rename_i hc; exact chkP_rng hc (by omega)
  · cases h
theorem gtR_mem {t : Ty} {l : List t.den} {i : Int} (h0 : 0 ≤ i) (h1 : i < l.length) : gtR t l i ∈ l := by
  have h : i.toNat < l.length := by omega
  simp [gtR, h]
theorem cOf (nl : Option Bool) (l : List (Option Bool × List Int)) (S : List Bool) (e : Int) (hS : S = (swO [] l).1) (he : e = (swO [] l).2) (hl : l.length ≤ 100) (hp : PRE (pOf l)) : PurS Tryd.prog 38 [injT (.sl tTr) (nl, l)] (.tup [.agg [.arr 1024 .bool S], .p (iv e)]) := by
  refine PurS.of (S := [(22, _)]) (T := []) (tbl := []) (n := 32) hmD cfg (.cons (spT1.ok (a := (.sl (.int .i64))) fun x0 h => cChk x0.1 x0.2 h) .nil) .nil .nil 0 Tryd.call38 Tryd.func38 (ac38_ok (some (0, 0))) (by rw [Tryd.ntmps38]; exact Nat.le_refl _) rfl ⟨_, rfl⟩ ?_
  intro cmp ar cv tn ic ai mx an ad ml sb mn ln em gt up ap sc vw cp rp p1 p2 s1 s2 X Y hX hY r0 r1 r2 r3 r4 r5 r6 r7 r8 r9 r10 r11 r12 r13 r14 r15 r16 r17 r18 r19 r20 r21 r22 r23 r24
  generalize hg0 : chkE = g0
  cbv
  obtain ⟨Z, hZ⟩ : ∃ Z : List Bool, Z = [] := ⟨_, rfl⟩
  rw [← hZ] at hS he
  have hp := hp.h
  refine ⟨LAYOK.mk (by kernel_rfl), LOOP.ind (σ := List Bool × Int) (fun (T, i) => [(2, .ptr 0 0), (9, .tl nl tTr l), (10, .p (iv (ic (ln tTr l)))), (11, .p (iv i))]) (fun (T, i) => ⟨[{ cells := [.arr 1024 .bool T], e := 67, fz := false }], []⟩) (fun (T, i) => (l.length - i).toNat)
    (fun (T, i) => 0 ≤ i ∧ i ≤ l.length ∧ swO T (l.drop i.toNat) = swO Z l) (Z, 0) ⟨by omega, by show (0 : Int) ≤ _; omega, rfl⟩ (.inr ⟨[some 0], [], ?_⟩) ?_⟩
  · rw [SIM_iff]; cbv
    simp [nlLe_self, hZ]
  intro ⟨T, i⟩ hI X' hX
  dsimp only at hI
  obtain ⟨hI1, hI2, hI4⟩ := hI
  obtain ⟨a, ha⟩ : ∃ a, a = s2 tI (gt tTr l i) := ⟨_, rfl⟩
  obtain ⟨na, hna⟩ : ∃ a, a = s1 tI (gt tTr l i) := ⟨_, rfl⟩
  have hln : ic (ln tTr l) = l.length := by rw [r4, r12]
  have ha' : i < l.length → (na, a) ∈ l := fun h => by rw [ha, hna, r14, r23, r24]; exact gtR_mem (t := tTr) hI1 h
  have hd := gtR_drop (t := tTr) (l := l) (i := i) hI1
  have hde := gtR_end (l := l) (i := i)
  have hgt : gtR tTr l i = (na, a) := by rw [ha, hna, r14, r23, r24]
  have hsw : swO T [] = (T, 0) := rfl
  have hst : i < l.length → swO T (l.drop i.toNat) = if chkE a ≠ 0 then (T, chkE a) else swO (swS T a) (l.drop (i + 1).toNat) := fun h => by rw [hd h, hgt]; rfl
  have hla : ic (ln tI a) = a.length := by rw [r4, r12]
  have hr : ∀ x ∈ a, chkE a = 0 → 0 ≤ x ∧ x < 1024 := fun x hx h => chkE_rng h x hx
  have hw0 : ∀ S, swS S [] = S := fun S => rfl
  have hw1 : ∀ S n l, swS S (n :: l) = swS (upR .bool 1024 S n true) l := fun S n l => rfl
  have hi1 : i < l.length → ar .add .i64 i 1 = i + 1 := fun h => by rw [r1]; exact wrap64 (n := i + 1) (by omega) (by omega)
  cbv
  rw [← ha, ← hna]
  clear ha hna hgt hd
  have hsl : i < l.length → a.length ≤ 1500 := fun h => hp _ (ha' h)
  clear ha'
  repeat' (first | exact True.intro | refine And.intro ?_ ?_ | (refine BR.mk ?_ ?_ <;> intro _) | (refine CASE.mk ?_; intro _) | refine NEXT.mk (hX (_, _) _ _ ?_ ?_ (.inl ⟨rfl, rfl⟩)))
  all_goals first | (show LOOP _ _ _ _ _ _; skip) | (clear hX; subst_vars; (all_goals try simp only [Short_iff, cmpR, arR, mxR, INB_iff, SLB_iff, SLM_iff, NZ_iff, NN_iff, EQN_iff, LEN_iff, LIM_iff, MK_iff, decide_eq_true_eq, decide_eq_false_iff_not, ne_eq, Bool.and_eq_true, cmpR] at *); (all_goals try dsimp only [Ty.den] at *); (all_goals try simp only [nc_eq] at *); (all_goals try (simp (disch := omega) only [wrap64] at *)); all_goals grind)
  refine LOOP.ind (σ := List Bool × Int) (fun (U, k) => [(2, .ptr 0 0), (9, .tl nl tTr l), (10, .p (iv (ic (ln tTr l)))), (11, .p (iv i)), (21, .tl na tI a), (22, .p (iv (ic (ln tI a)))), (23, .p (iv k))]) (fun (U, k) => ⟨[{ cells := [.arr 1024 .bool U], e := 67, fz := false }], []⟩) (fun (U, k) => (a.length - k).toNat)
    (fun (U, k) => 0 ≤ k ∧ k ≤ a.length ∧ swS U (a.drop k.toNat) = swS T a) (T, 0) ⟨by omega, by show (0 : Int) ≤ _; omega, rfl⟩ (.inl ⟨rfl, rfl⟩) ?_
  intro ⟨U, k⟩ hJ X2 hY
  dsimp only at hJ
  obtain ⟨hJ1, hJ2, hJ3⟩ := hJ
  have hd2 := gtR_drop (t := tI) (l := a) (i := k) hJ1
  have hde2 := gtR_end (l := a) (i := k)
  have hm2 := gtR_mem (t := tI) (l := a) (i := k) hJ1
  cbv
  repeat' (first | exact True.intro | refine And.intro ?_ ?_ | (refine BR.mk ?_ ?_ <;> intro _) | (refine CASE.mk ?_; intro _) | refine NEXT.mk (hY (_, _) _ _ ?_ ?_ (.inl ⟨rfl, rfl⟩)) | refine NEXT.mk (hX (_, _) _ _ ?_ ?_ (.inl ⟨rfl, rfl⟩)))
  all_goals clear hY
  all_goals clear hX
  all_goals subst_vars
  all_goals try simp only [Short_iff, cmpR, arR, mxR, INB_iff, SLB_iff, SLM_iff, NZ_iff, NN_iff, EQN_iff, LEN_iff, LIM_iff, MK_iff, decide_eq_true_eq, decide_eq_false_iff_not, ne_eq, Bool.and_eq_true] at *
  all_goals try dsimp only [Ty.den] at *
  all_goals try simp only [nc_eq] at *
  all_goals try (simp (disch := omega) only [wrap64] at *)
  all_goals grind
end Go.Ab

