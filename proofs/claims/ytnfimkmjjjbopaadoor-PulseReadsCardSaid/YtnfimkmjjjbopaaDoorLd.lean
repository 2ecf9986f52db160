/- pulse.Make, pulse.Shift. -/
import Derived.Test.YtnfimkmjjjbopaaDoorLc
set_option linter.unusedSimpArgs false
set_option linter.unusedVariables false
set_option maxRecDepth 20000
set_option maxHeartbeats 4000000
namespace Go.Ab
open Go.Proofs
def makE (b : List Int) : Int := if bitsE b ≠ 0 then bitsE b else if b.length ≠ 56 ∧ b.length ≠ 112 then 2 else 0
def makS (k : Int) : List Int → List Int
  | [] => []
  | x :: l => (16 + 2 * k + 1 - x) :: makS (k + 1) l
def makT (b : List Int) : List Int := if makE b ≠ 0 then [] else [0, 2, 7, 9] ++ makS 0 b
def pMk (b : List Int) : Prop := ∀ x ∈ b, 0 ≤ x
theorem bigB_mem : ∀ {l : List Int}, bigB l = false → ∀ x ∈ l, x ≤ 1
  | [], _, x, hx => by simp at hx
  | y :: l, h, x, hx => by
    simp only [bigB, Bool.or_eq_false_iff, decide_eq_false_iff_not] at h
    rcases List.mem_cons.1 hx with rfl | hx
    · omega
    · exact bigB_mem h.2 x hx
theorem bitsE_mem {l : List Int} (h : bitsE l = 0) : ∀ x ∈ l, x ≤ 1 := by
  unfold bitsE at h
  split at h
  · cases h
  · split at h
    · cases h
    · exact bigB_mem (by simpa using ‹¬ bigB l = true›)
theorem bitsE_len {l : List Int} (h : bitsE l = 0) : l.length ≤ 128 := by
  unfold bitsE at h
  split at h
  · cases h
  · omega
theorem cMake (nb : Option Bool) (b T : List Int) (e : Int) (hT : T = makT b) (he : e = makE b) (h : PRE (pMk b)) : PurS Tryd.prog 13 [injT (.sl tB) (nb, b)] (.tup [.tl none tI T, .p (iv e)]) := by
  refine PurS.of (S := [(36, _)]) (T := []) (tbl := []) (n := 42) hmD cfg (.cons (spT1.ok (a := (.sl (.int .u8))) (pre := fun _ => True) fun x0 _ => cBits x0.1 x0.2) .nil) .nil .nil 0 Tryd.call13 Tryd.func13 (ac13_ok (some (0, 0))) (by rw [Tryd.ntmps13]; exact Nat.le_refl _) rfl ⟨_, rfl⟩ ?_
  intro cmp ar cv tn ic ai mx an ad ml sb mn ln em gt up ap sc vw cp rp p1 p2 s1 s2 X Y hX hY r0 r1 r2 r3 r4 r5 r6 r7 r8 r9 r10 r11 r12 r13 r14 r15 r16 r17 r18 r19 r20 r21 r22 r23 r24
  generalize hg0 : bitsE = g0
  cbv
  have hp := h.h
  clear h
  have hE : bitsE b = 0 → ∀ x ∈ b, x ≤ 1 := bitsE_mem
  have hLn : bitsE b = 0 → b.length ≤ 128 := bitsE_len
  obtain ⟨O0, hO⟩ : ∃ O0 : List Int, O0 = [0, 2, 7, 9] := ⟨_, rfl⟩
  have hm : makE b = if bitsE b ≠ 0 then bitsE b else if b.length ≠ 56 ∧ b.length ≠ 112 then 2 else 0 := rfl
  have hT2 : makT b = if makE b ≠ 0 then [] else O0 ++ makS 0 b := by rw [hO]; rfl
  have hn : nlLe (some true) none := by simp [nlLe_none]
  have hp' := hp
  clear hp
  repeat' (first | exact True.intro | refine And.intro ?_ ?_ | (refine BR.mk ?_ ?_ <;> intro _) | (refine CASE.mk ?_; intro _) | refine NEXT.mk (hX _ _ _ ?_ ?_ (.inl ⟨rfl, rfl⟩)))
  all_goals first | (show LOOP _ _ _ _ _ _; skip) | (clear hX; subst_vars; (all_goals try simp only [Short_iff, cmpR, arR, mxR, INB_iff, SLB_iff, SLM_iff, NZ_iff, NN_iff, EQN_iff, LEN_iff, LIM_iff, MK_iff, decide_eq_true_eq, decide_eq_false_iff_not, ne_eq, Bool.and_eq_true, cmpR] at *); (all_goals try dsimp only [Ty.den] at *); (all_goals try simp only [nc_eq] at *); (all_goals try (simp (disch := omega) only [wrap64] at *)); all_goals grind)
  all_goals
    refine LOOP.ind (σ := List Int × Int) (fun (O, k) => [(5, .og 0 tI O), (23, .tl nb tB b), (24, .p (iv (ic (ln tB b)))), (25, .p (iv k))]) (fun (O, k) => ⟨[], [(ml (ln tI O) 1, 3)]⟩) (fun (O, k) => (b.length - k).toNat)
      (fun (O, k) => 0 ≤ k ∧ k ≤ b.length ∧ O.length = k + 4 ∧ O ++ makS k (b.drop k.toNat) = O0 ++ makS 0 b) (O0, 0) (by simp [hO]) (.inl ⟨?_, ?_⟩) ?_
    · subst hO; rw [r14, r21, r22]; rfl
    · subst hO; rw [r14, r21, r22]; rfl
    intro ⟨O, k⟩ hJ X2 hY
    have hd2 := gtR_drop (t := tB) (l := b) (i := k)
    have hde2 := gtR_end (l := b) (i := k)
    have hwr : 0 ≤ k → k < b.length → bitsE b = 0 → IntKind.i64.wrap (16 + 2 * k + 1 - IntKind.i64.wrap (gtR tB b k)) = 16 + 2 * k + 1 - gtR tB b k := fun h0 h1 h2 => by
      have hmm := gtR_mem (t := tB) (l := b) (i := k) h0 h1
      have h3 := hp' _ hmm
      have h4 := hE h2 _ hmm
      have h5 := hLn h2
      obtain ⟨u, hu⟩ : ∃ u : Int, u = gtR tB b k := ⟨_, rfl⟩
      rw [← hu] at h3 h4 ⊢
      rw [wrap64 (n := u) (by omega) (by omega), wrap64 (by omega) (by omega)]
    cbv
    repeat' (first | exact True.intro | refine And.intro ?_ ?_ | (refine BR.mk ?_ ?_ <;> intro _) | (refine CASE.mk ?_; intro _) | refine NEXT.mk (hY (_, _) _ _ ?_ ?_ (.inl ⟨rfl, rfl⟩)))
    all_goals clear hY
    all_goals subst_vars
    all_goals try simp only [Short_iff, cmpR, arR, mxR, INB_iff, SLB_iff, SLM_iff, NZ_iff, NN_iff, EQN_iff, LEN_iff, LIM_iff, MK_iff, decide_eq_true_eq, decide_eq_false_iff_not, ne_eq, Bool.and_eq_true] at *
    all_goals try dsimp only [Ty.den] at *
    all_goals try simp only [nc_eq] at *
    all_goals try (simp (disch := omega) only [wrap64] at *)
    all_goals first | exact nlLe_none.2 trivial | grind [makS]
end Go.Ab

