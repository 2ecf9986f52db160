/- Small functions of this seat: comparisons, copies, checks of trains. -/
import Derived.Test.YtnfimkmjjjbopaaDoorCod2
set_option linter.unusedSimpArgs false
set_option linter.unusedVariables false
set_option maxRecDepth 20000
set_option maxHeartbeats 2000000
namespace Go.Ab
open Go.Proofs
theorem hmD : Tryd.prog.follows .mixedOrders = true := by kernel_rfl
abbrev tB : Ty := .int .u8
theorem drop_eq {t : Ty} {a b : List t.den} {i : Int} (h : 0 ≤ i) (h1 : i < a.length) (h2 : a.length = b.length) : (a.drop i.toNat = b.drop i.toNat ↔ gtR t a i = gtR t b i ∧ a.drop (i + 1).toNat = b.drop (i + 1).toNat) := by
  rw [gtR_drop h h1, gtR_drop h (by omega)]; simp
def eqI (a b : List Int) : Bool := decide (a = b)
theorem cEqI (na : Option Bool) (a : List Int) (nb : Option Bool) (b : List Int) (h : Short 2000 a) : PurS Tryd.prog 29 [injT (.sl tI) (na, a), injT (.sl tI) (nb, b)] (.sb (eqI a b)) := by
  refine PurS.of (S := []) (T := []) (tbl := []) (n := 26) hmD cfg .nil .nil .nil 0 Tryd.call29 Tryd.func29 (ac29_ok (some (0, 0))) (by rw [Tryd.ntmps29]; exact Nat.le_refl _) rfl ⟨_, rfl⟩ ?_
  intro cmp ar cv tn ic ai mx an ad ml sb mn ln em gt up ap sc vw cp rp p1 p2 s1 s2 X Y hX hY r0 r1 r2 r3 r4 r5 r6 r7 r8 r9 r10 r11 r12 r13 r14 r15 r16 r17 r18 r19 r20 r21 r22 r23 r24
  generalize hg0 : eqI = g0
  cbv
  refine BR.mk ?_ ?_ <;> intro hc
  · subst_vars
    simp only [Short_iff, cmpR, arR, mxR, INB_iff, SLB_iff, SLM_iff, NZ_iff, NN_iff, EQN_iff, LEN_iff, LIM_iff, MK_iff, decide_eq_true_eq, decide_eq_false_iff_not, ne_eq, Bool.and_eq_true, nc_eq] at *
    grind [eqI]
  · refine LOOP.ind (σ := Int) (fun i => [(0, .tl na tI a), (1, .tl nb tI b), (5, .p (iv i))]) (fun _ => ⟨[], []⟩) (fun i => (a.length - i).toNat) (fun i => 0 ≤ i ∧ i ≤ a.length ∧ (a.drop i.toNat = b.drop i.toNat ↔ a = b)) 0 (by simp) (.inl ⟨rfl, rfl⟩) ?_
    intro i hI X' hX
    have hd := drop_eq (t := tI) (a := a) (b := b) (i := i)
    have he := gtR_end (l := a) (i := i)
    have he' := gtR_end (l := b) (i := i)
    have h := h.h
    cbv
    repeat' (first | exact True.intro | refine And.intro ?_ ?_ | (refine BR.mk ?_ ?_ <;> intro _) | (refine CASE.mk ?_; intro _) | refine NEXT.mk (hX _ _ _ ?_ ?_ (.inl ⟨rfl, rfl⟩)))
    all_goals clear hX
    all_goals subst_vars
    all_goals try simp only [Short_iff, cmpR, arR, mxR, INB_iff, SLB_iff, SLM_iff, NZ_iff, NN_iff, EQN_iff, LEN_iff, LIM_iff, MK_iff, decide_eq_true_eq, decide_eq_false_iff_not, ne_eq, Bool.and_eq_true] at *
    all_goals try dsimp only [Ty.den] at *
    all_goals try simp only [nc_eq] at *
    all_goals try (simp (disch := omega) only [wrap64] at *)
    all_goals grind [eqI]
theorem cEqB (na : Option Bool) (a : List Int) (nb : Option Bool) (b : List Int) (h : Short 2000 a) : PurS Tryd.prog 32 [injT (.sl tB) (na, a), injT (.sl tB) (nb, b)] (.sb (eqI a b)) := by
  refine PurS.of (S := []) (T := []) (tbl := []) (n := 26) hmD cfg .nil .nil .nil 0 Tryd.call32 Tryd.func32 (ac32_ok (some (0, 0))) (by rw [Tryd.ntmps32]; exact Nat.le_refl _) rfl ⟨_, rfl⟩ ?_
  intro cmp ar cv tn ic ai mx an ad ml sb mn ln em gt up ap sc vw cp rp p1 p2 s1 s2 X Y hX hY r0 r1 r2 r3 r4 r5 r6 r7 r8 r9 r10 r11 r12 r13 r14 r15 r16 r17 r18 r19 r20 r21 r22 r23 r24
  generalize hg0 : eqI = g0
  cbv
  refine BR.mk ?_ ?_ <;> intro hc
  · subst_vars
    simp only [Short_iff, cmpR, arR, mxR, INB_iff, SLB_iff, SLM_iff, NZ_iff, NN_iff, EQN_iff, LEN_iff, LIM_iff, MK_iff, decide_eq_true_eq, decide_eq_false_iff_not, ne_eq, Bool.and_eq_true, nc_eq] at *
    grind [eqI]
  · refine LOOP.ind (σ := Int) (fun i => [(0, .tl na tB a), (1, .tl nb tB b), (5, .p (iv i))]) (fun _ => ⟨[], []⟩) (fun i => (a.length - i).toNat) (fun i => 0 ≤ i ∧ i ≤ a.length ∧ (a.drop i.toNat = b.drop i.toNat ↔ a = b)) 0 (by simp) (.inl ⟨rfl, rfl⟩) ?_
    intro i hI X' hX
    have hd := drop_eq (t := tB) (a := a) (b := b) (i := i)
    have he := gtR_end (l := a) (i := i)
    have he' := gtR_end (l := b) (i := i)
    have h := h.h
    cbv
    repeat' (first | exact True.intro | refine And.intro ?_ ?_ | (refine BR.mk ?_ ?_ <;> intro _) | (refine CASE.mk ?_; intro _) | refine NEXT.mk (hX _ _ _ ?_ ?_ (.inl ⟨rfl, rfl⟩)))
    all_goals clear hX
    all_goals subst_vars
    all_goals try simp only [Short_iff, cmpR, arR, mxR, INB_iff, SLB_iff, SLM_iff, NZ_iff, NN_iff, EQN_iff, LEN_iff, LIM_iff, MK_iff, decide_eq_true_eq, decide_eq_false_iff_not, ne_eq, Bool.and_eq_true] at *
    all_goals try dsimp only [Ty.den] at *
    all_goals try simp only [nc_eq] at *
    all_goals try (simp (disch := omega) only [wrap64] at *)
    all_goals grind [eqI]
def chkP (last : Int) : List Int → Bool
  | [] => true
  | n :: l => if n ≤ last ∨ n ≥ 1024 then false else chkP n l
def chkE (t : List Int) : Int := if chkP (-1) t then 0 else 1
theorem cChk (nl : Option Bool) (l : List Int) (hl : Short 2000 l) : PurS Tryd.prog 22 [injT (.sl tI) (nl, l)] (.p (iv (chkE l))) := by
  refine PurS.of (S := []) (T := []) (tbl := []) (n := 21) hmD cfg .nil .nil .nil 0 Tryd.call22 Tryd.func22 (ac22_ok (some (0, 0))) (by rw [Tryd.ntmps22]; exact Nat.le_refl _) rfl ⟨_, rfl⟩ ?_
  intro cmp ar cv tn ic ai mx an ad ml sb mn ln em gt up ap sc vw cp rp p1 p2 s1 s2 X Y hX hY r0 r1 r2 r3 r4 r5 r6 r7 r8 r9 r10 r11 r12 r13 r14 r15 r16 r17 r18 r19 r20 r21 r22 r23 r24
  generalize hg0 : chkE = g0
  cbv
  have hl := hl.h
  refine LOOP.ind (σ := Int × Int) (fun (m, i) => [(3, .p (iv m)), (6, .tl nl tI l), (7, .p (iv (ic (ln tI l)))), (8, .p (iv i))]) (fun _ => ⟨[], []⟩) (fun (m, i) => (l.length - i).toNat) (fun (m, i) => 0 ≤ i ∧ i ≤ l.length ∧ chkP m (l.drop i.toNat) = chkP (-1) l) (-1, 0) (by simp) (.inl ⟨rfl, rfl⟩) ?_
  intro ⟨m, i⟩ hI X' hX
  cbv
  have hd := gtR_drop (t := tI) (l := l) (i := i)
  have he := gtR_end (l := l) (i := i)
  repeat' (first | exact True.intro | refine And.intro ?_ ?_ | (refine BR.mk ?_ ?_ <;> intro _) | (refine CASE.mk ?_; intro _) | refine NEXT.mk (hX (_, _) _ _ ?_ ?_ (.inl ⟨rfl, rfl⟩)))
  all_goals clear hX
  all_goals subst_vars
  all_goals try simp only [Short_iff, cmpR, arR, mxR, INB_iff, SLB_iff, SLM_iff, NZ_iff, NN_iff, EQN_iff, LEN_iff, LIM_iff, MK_iff, decide_eq_true_eq, decide_eq_false_iff_not, ne_eq, Bool.and_eq_true] at *
  all_goals try dsimp only [Ty.den] at *
  all_goals try simp only [nc_eq] at *
  all_goals try (simp (disch := omega) only [wrap64] at *)
  all_goals grind [chkE, chkP]
theorem cChkR (nl : Option Bool) (l : List Int) (hl : Short 2000 l) : PurS Tryd.prog 23 [injT (.sl tI) (nl, l)] (.p (iv (chkE l))) := by
  refine PurS.of (S := []) (T := []) (tbl := []) (n := 38) hmD cfg .nil .nil .nil 0 Tryd.call23 Tryd.func23 (ac23_ok (some (0, 0))) (by rw [Tryd.ntmps23]; exact Nat.le_refl _) rfl ⟨_, rfl⟩ ?_
  intro cmp ar cv tn ic ai mx an ad ml sb mn ln em gt up ap sc vw cp rp p1 p2 s1 s2 X Y hX hY r0 r1 r2 r3 r4 r5 r6 r7 r8 r9 r10 r11 r12 r13 r14 r15 r16 r17 r18 r19 r20 r21 r22 r23 r24
  generalize hg0 : chkE = g0
  cbv
  have hl := hl.h
  refine LOOP.ind (σ := Int × Int) (fun (m, i) => [(0, .tl nl tI l), (3, .p (iv i))]) (fun _ => ⟨[], []⟩) (fun (m, i) => (l.length - i).toNat) (fun (m, i) => 0 ≤ i ∧ i ≤ l.length ∧ chkP m (l.drop i.toNat) = chkP (-1) l ∧ (i = 0 → m = -1) ∧ (0 < i → m = gtR tI l (i - 1) ∧ 0 ≤ m)) (-1, 0) (by simp) (.inl ⟨rfl, rfl⟩) ?_
  intro ⟨m, i⟩ hI X' hX
  cbv
  have hd := gtR_drop (t := tI) (l := l) (i := i)
  have he := gtR_end (l := l) (i := i)
  obtain ⟨m2, hm2⟩ : ∃ m2, m2 = gtR tI l i := ⟨_, rfl⟩
  repeat' (first | exact True.intro | refine And.intro ?_ ?_ | (refine BR.mk ?_ ?_ <;> intro _) | (refine CASE.mk ?_; intro _))
  any_goals (refine NEXT.mk (hX (m2, _) _ _ ?_ ?_ (.inl ⟨rfl, rfl⟩)))
  all_goals clear hX
  all_goals subst_vars
  all_goals try simp only [Short_iff, cmpR, arR, mxR, INB_iff, SLB_iff, SLM_iff, NZ_iff, NN_iff, EQN_iff, LEN_iff, LIM_iff, MK_iff, decide_eq_true_eq, decide_eq_false_iff_not, ne_eq, Bool.and_eq_true] at *
  all_goals try dsimp only [Ty.den] at *
  all_goals try simp only [nc_eq] at *
  all_goals try (simp (disch := omega) only [wrap64] at *)
  all_goals grind [chkE, chkP]
theorem cCopyI (nl : Option Bool) (l : List Int) (hl : Short 2000 l) : PurS Tryd.prog 41 [injT (.sl tI) (nl, l)] (.tl none tI l) := by
  refine PurS.of (S := []) (T := []) (tbl := []) (n := 19) hmD cfg .nil .nil .nil 0 Tryd.call41 Tryd.func41 (ac41_ok (some (0, 0))) (by rw [Tryd.ntmps41]; exact Nat.le_refl _) rfl ⟨_, rfl⟩ ?_
  intro cmp ar cv tn ic ai mx an ad ml sb mn ln em gt up ap sc vw cp rp p1 p2 s1 s2 X Y hX hY r0 r1 r2 r3 r4 r5 r6 r7 r8 r9 r10 r11 r12 r13 r14 r15 r16 r17 r18 r19 r20 r21 r22 r23 r24
  cbv
  have hl := hl.h
  refine LOOP.ind (σ := List Int × Int) (fun (a, i) => [(0, .tl nl tI l), (3, .og 0 tI a), (4, .p (iv i))]) (fun (a, i) => ⟨[], [(ml (ln tI a) 1, 3)]⟩) (fun (a, i) => (l.length - i).toNat) (fun (a, i) => 0 ≤ i ∧ i ≤ l.length ∧ a ++ l.drop i.toNat = l) ([], 0) (by simp) (.inr ⟨[], [none], ?_⟩) ?_
  · rw [SIM_iff]; cbv; simp [nlLe_self]
  intro ⟨a, i⟩ hI X' hX
  cbv
  have hd := gtR_drop (t := tI) (l := l) (i := i)
  have he := gtR_end (l := l) (i := i)
  repeat' (first | exact True.intro | refine And.intro ?_ ?_ | (refine BR.mk ?_ ?_ <;> intro _) | (refine CASE.mk ?_; intro _) | refine NEXT.mk (hX (_, _) _ _ ?_ ?_ (.inl ⟨rfl, rfl⟩)))
  all_goals clear hX
  all_goals subst_vars
  all_goals try simp only [Short_iff, cmpR, arR, mxR, INB_iff, SLB_iff, SLM_iff, NZ_iff, NN_iff, EQN_iff, LEN_iff, LIM_iff, MK_iff, decide_eq_true_eq, decide_eq_false_iff_not, ne_eq, Bool.and_eq_true] at *
  all_goals try dsimp only [Ty.den] at *
  all_goals try simp only [nc_eq] at *
  all_goals try (simp (disch := omega) only [wrap64] at *)
  all_goals grind [nlLe_none, nlLe_self]
theorem cCopyB (nl : Option Bool) (l : List Int) (hl : Short 2000 l) : PurS Tryd.prog 35 [injT (.sl tB) (nl, l)] (.tl none tB l) := by
  refine PurS.of (S := []) (T := []) (tbl := []) (n := 19) hmD cfg .nil .nil .nil 0 Tryd.call35 Tryd.func35 (ac35_ok (some (0, 0))) (by rw [Tryd.ntmps35]; exact Nat.le_refl _) rfl ⟨_, rfl⟩ ?_
  intro cmp ar cv tn ic ai mx an ad ml sb mn ln em gt up ap sc vw cp rp p1 p2 s1 s2 X Y hX hY r0 r1 r2 r3 r4 r5 r6 r7 r8 r9 r10 r11 r12 r13 r14 r15 r16 r17 r18 r19 r20 r21 r22 r23 r24
  cbv
  have hl := hl.h
  refine LOOP.ind (σ := List Int × Int) (fun (a, i) => [(0, .tl nl tB l), (3, .og 0 tB a), (4, .p (iv i))]) (fun (a, i) => ⟨[], [(ml (ln tB a) 1, 5)]⟩) (fun (a, i) => (l.length - i).toNat) (fun (a, i) => 0 ≤ i ∧ i ≤ l.length ∧ a ++ l.drop i.toNat = l) ([], 0) (by simp) (.inr ⟨[], [none], ?_⟩) ?_
  · rw [SIM_iff]; cbv; simp [nlLe_self]
  intro ⟨a, i⟩ hI X' hX
  cbv
  have hd := gtR_drop (t := tB) (l := l) (i := i)
  have he := gtR_end (l := l) (i := i)
  repeat' (first | exact True.intro | refine And.intro ?_ ?_ | (refine BR.mk ?_ ?_ <;> intro _) | (refine CASE.mk ?_; intro _) | refine NEXT.mk (hX (_, _) _ _ ?_ ?_ (.inl ⟨rfl, rfl⟩)))
  all_goals clear hX
  all_goals subst_vars
  all_goals try simp only [Short_iff, cmpR, arR, mxR, INB_iff, SLB_iff, SLM_iff, NZ_iff, NN_iff, EQN_iff, LEN_iff, LIM_iff, MK_iff, decide_eq_true_eq, decide_eq_false_iff_not, ne_eq, Bool.and_eq_true] at *
  all_goals try dsimp only [Ty.den] at *
  all_goals try simp only [nc_eq] at *
  all_goals try (simp (disch := omega) only [wrap64] at *)
  all_goals grind [nlLe_none, nlLe_self]
def hasM (l : List Int) (x : Int) : Bool := l.contains x
theorem hasM_cons {y : Int} {l : List Int} {x : Int} : hasM (y :: l) x = (decide (y = x) || hasM l x) := by
  simp only [hasM, List.contains_cons]
  by_cases h : y = x
  · subst h; simp
  · simp [h]; intro e; exact absurd e.symm h
theorem cHas (nl : Option Bool) (l : List Int) (x : Int) (hl : Short 2000 l) : PurS Tryd.prog 33 [injT (.sl tI) (nl, l), injT tI x] (.sb (hasM l x)) := by
  refine PurS.of (S := []) (T := []) (tbl := []) (n := 18) hmD cfg .nil .nil .nil 0 Tryd.call33 Tryd.func33 (ac33_ok (some (0, 0))) (by rw [Tryd.ntmps33]; exact Nat.le_refl _) rfl ⟨_, rfl⟩ ?_
  intro cmp ar cv tn ic ai mx an ad ml sb mn ln em gt up ap sc vw cp rp p1 p2 s1 s2 X Y hX hY r0 r1 r2 r3 r4 r5 r6 r7 r8 r9 r10 r11 r12 r13 r14 r15 r16 r17 r18 r19 r20 r21 r22 r23 r24
  generalize hg0 : hasM = g0
  cbv
  have hl := hl.h
  refine LOOP.ind (σ := Int) (fun i => [(0, .tl nl tI l), (1, .p (iv x)), (5, .p (iv i))]) (fun _ => ⟨[], []⟩) (fun i => (l.length - i).toNat) (fun i => 0 ≤ i ∧ i ≤ l.length ∧ hasM (l.drop i.toNat) x = hasM l x) 0 (by simp) (.inl ⟨rfl, rfl⟩) ?_
  intro i hI X' hX
  cbv
  have hd := gtR_drop (t := tI) (l := l) (i := i)
  have he := gtR_end (l := l) (i := i)
  have hc := hasM_cons (y := gtR tI l i) (l := l.drop (i + 1).toNat) (x := x)
  have h0 : hasM [] x = false := rfl
  repeat' (first | exact True.intro | refine And.intro ?_ ?_ | (refine BR.mk ?_ ?_ <;> intro _) | (refine CASE.mk ?_; intro _) | refine NEXT.mk (hX _ _ _ ?_ ?_ (.inl ⟨rfl, rfl⟩)))
  all_goals clear hX
  all_goals subst_vars
  all_goals try simp only [Short_iff, cmpR, arR, mxR, INB_iff, SLB_iff, SLM_iff, NZ_iff, NN_iff, EQN_iff, LEN_iff, LIM_iff, MK_iff, decide_eq_true_eq, decide_eq_false_iff_not, ne_eq, Bool.and_eq_true] at *
  all_goals try dsimp only [Ty.den] at *
  all_goals try simp only [nc_eq] at *
  all_goals try (simp (disch := omega) only [wrap64] at *)
  all_goals grind
theorem cOn (nl : Option Bool) (l : List Int) (x : Int) (hl : Short 2000 l) : PurS Tryd.prog 40 [injT (.sl tI) (nl, l), injT tI x] (.sb (hasM l x)) := by
  refine PurS.of (S := []) (T := []) (tbl := []) (n := 18) hmD cfg .nil .nil .nil 0 Tryd.call40 Tryd.func40 (ac40_ok (some (0, 0))) (by rw [Tryd.ntmps40]; exact Nat.le_refl _) rfl ⟨_, rfl⟩ ?_
  intro cmp ar cv tn ic ai mx an ad ml sb mn ln em gt up ap sc vw cp rp p1 p2 s1 s2 X Y hX hY r0 r1 r2 r3 r4 r5 r6 r7 r8 r9 r10 r11 r12 r13 r14 r15 r16 r17 r18 r19 r20 r21 r22 r23 r24
  generalize hg0 : hasM = g0
  cbv
  have hl := hl.h
  refine LOOP.ind (σ := Int) (fun i => [(0, .tl nl tI l), (1, .p (iv x)), (5, .p (iv i))]) (fun _ => ⟨[], []⟩) (fun i => (l.length - i).toNat) (fun i => 0 ≤ i ∧ i ≤ l.length ∧ hasM (l.drop i.toNat) x = hasM l x) 0 (by simp) (.inl ⟨rfl, rfl⟩) ?_
  intro i hI X' hX
  cbv
  have hd := gtR_drop (t := tI) (l := l) (i := i)
  have he := gtR_end (l := l) (i := i)
  have hc := hasM_cons (y := gtR tI l i) (l := l.drop (i + 1).toNat) (x := x)
  have h0 : hasM [] x = false := rfl
  repeat' (first | exact True.intro | refine And.intro ?_ ?_ | (refine BR.mk ?_ ?_ <;> intro _) | (refine CASE.mk ?_; intro _) | refine NEXT.mk (hX _ _ _ ?_ ?_ (.inl ⟨rfl, rfl⟩)))
  all_goals clear hX
  all_goals subst_vars
  all_goals try simp only [Short_iff, cmpR, arR, mxR, INB_iff, SLB_iff, SLM_iff, NZ_iff, NN_iff, EQN_iff, LEN_iff, LIM_iff, MK_iff, decide_eq_true_eq, decide_eq_false_iff_not, ne_eq, Bool.and_eq_true] at *
  all_goals try dsimp only [Ty.den] at *
  all_goals try simp only [nc_eq] at *
  all_goals try (simp (disch := omega) only [wrap64] at *)
  all_goals grind
end Go.Ab

