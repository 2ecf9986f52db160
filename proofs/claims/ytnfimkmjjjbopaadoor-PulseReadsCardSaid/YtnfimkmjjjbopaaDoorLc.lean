/- bits.Check, pulse.Make, pulse.Shift. -/
import Derived.Test.YtnfimkmjjjbopaaDoorLb
set_option linter.unusedSimpArgs false
set_option linter.unusedVariables false
set_option maxRecDepth 20000
set_option maxHeartbeats 4000000
namespace Go.Ab
open Go.Proofs
theorem LOOP.ind0 {body : (Ax → EnvS → StS → Prop) → EnvS → StS → Prop} {keep : List Nat} {Q : Ax → EnvS → StS → Prop} {ρ0 : EnvS} {st0 : StS} {σ : Type}
    (env : σ → EnvS) (st : σ → StS) (μ : σ → Nat) (I : σ → Prop) (s0 : σ) (h0 : I s0) (hs : SIMX st0.box.length st0.grp.length ρ0 st0 (env s0) (st s0))
    (h : ∀ s, I s → ∀ X : EnvS → StS → Prop, (∀ (s' : σ) (ρ' : EnvS) (st' : StS), I s' → μ s' < μ s → SIMX st'.box.length st'.grp.length ρ' st' (env s') (st s') → X ρ' st') →
      body (Ax.thnS (fun ρ' st' => NEXT X (ρ'.keep keep) st') Q) (env s) (st s)) : LOOP body none keep Q ρ0 st0 := by
  refine ⟨μ s0 + 1, ?_⟩
  have key : ∀ k s, I s → μ s < k → ∀ ρ' st', SIMX st'.box.length st'.grp.length ρ' st' (env s) (st s) → LoopS body none keep Q k ρ' st' := by
    intro k
    induction k with
    | zero => intro s _ hk; omega
    | succ k ih =>
      intro s hs hk ρ' st' hsim
      exact ⟨env s, st s, by have := hsim.sim; simpa [SimQ, StS.conc] using this, h s hs _ fun s' ρ' st' hi hlt hsim => ih s' hi (by omega) ρ' st' hsim⟩
  exact key _ s0 h0 (Nat.lt_succ_self _) ρ0 st0 hs
def bigB : List Int → Bool
  | [] => false
  | x :: l => decide (x > 1) || bigB l
def bitsE (b : List Int) : Int := if b.length > 128 then 4 else if bigB b then 1 else 0
theorem cBits (nb : Option Bool) (b : List Int) : PurS Tryd.prog 36 [injT (.sl tB) (nb, b)] (.p (iv (bitsE b))) := by
  refine PurS.of (S := []) (T := []) (tbl := [(44, ac44 none, [.tmp 2], 17), (46, ac46 none, [.tmp 4], 9), (48, ac48 none, [.tmp 4], 19), (47, ac47 none, [.tmp 2], 5)]) (n := 6) hmD cfg .nil .nil (.cons Tryd.call44 Tryd.func44 (ac44_ok none) (by rw [Tryd.ntmps44]; exact Nat.le_refl _) (.cons Tryd.call46 Tryd.func46 (ac46_ok none) (by rw [Tryd.ntmps46]; exact Nat.le_refl _) (.cons Tryd.call48 Tryd.func48 (ac48_ok none) (by rw [Tryd.ntmps48]; exact Nat.le_refl _) (.cons Tryd.call47 Tryd.func47 (ac47_ok none) (by rw [Tryd.ntmps47]; exact Nat.le_refl _) .nil)))) 6 Tryd.call36 Tryd.func36 (ac36_ok (some (0, 0))) (by rw [Tryd.ntmps36]; exact Nat.le_refl _) rfl ⟨_, rfl⟩ ?_
  intro cmp ar cv tn ic ai mx an ad ml sb mn ln em gt up ap sc vw cp rp p1 p2 s1 s2 X Y hX hY r0 r1 r2 r3 r4 r5 r6 r7 r8 r9 r10 r11 r12 r13 r14 r15 r16 r17 r18 r19 r20 r21 r22 r23 r24
  generalize hg0 : bitsE = g0
  cbv
  obtain ⟨L, hL⟩ : ∃ L : List (Option Bool × List Int), L = [(nb, b)] := ⟨_, rfl⟩
  refine LOOP.ind0 (σ := Int) (fun i => [(5, .tl (some false) (.sl tB) L), (6, .p (iv (ic (ln (.sl tB) L)))), (7, .p (iv i))]) (fun _ => ⟨[], []⟩) (fun i => (1 - i).toNat) (fun i => 0 ≤ i ∧ i ≤ 1 ∧ (i = 1 → bitsE b = 0)) 0 (by omega) (.inl ⟨by rw [hL], rfl⟩) ?_
  intro i hI X' hX
  obtain ⟨a, ha⟩ : ∃ a, a = s2 tB (gt (.sl tB) L i) := ⟨_, rfl⟩
  obtain ⟨na, hna⟩ : ∃ a, a = s1 tB (gt (.sl tB) L i) := ⟨_, rfl⟩
  have hln : ic (ln (.sl tB) L) = 1 := by rw [r4, r12, hL]; rfl
  have hab : i < 1 → a = b ∧ na = nb := fun h => by
    obtain rfl : i = 0 := by omega
    rw [ha, hna, r14, r23, r24, hL]; exact ⟨rfl, rfl⟩
  have hla : ic (ln tB a) = a.length := by rw [r4, r12]
  have hE : bitsE b = if b.length > 128 then 4 else if bigB b then 1 else 0 := rfl
  cbv
  rw [← ha, ← hna]
  clear ha hna
  repeat' (first | exact True.intro | refine And.intro ?_ ?_ | (refine BR.mk ?_ ?_ <;> intro _) | (refine CASE.mk ?_; intro _) | refine NEXT.mk (hX _ _ _ ?_ ?_ (.inl ⟨rfl, rfl⟩)))
  all_goals first | (show LOOP _ _ _ _ _ _; skip) | (clear hX; subst_vars; (all_goals try simp only [Short_iff, cmpR, arR, mxR, INB_iff, SLB_iff, SLM_iff, NZ_iff, NN_iff, EQN_iff, LEN_iff, LIM_iff, MK_iff, decide_eq_true_eq, decide_eq_false_iff_not, ne_eq, Bool.and_eq_true, cmpR] at *); (all_goals try dsimp only [Ty.den] at *); (all_goals try simp only [nc_eq] at *); (all_goals try (simp (disch := omega) only [wrap64] at *)); all_goals grind [bigB])
  refine LOOP.ind0 (σ := Int) (fun k => [(0, .tl na tB a), (1, .fn (.func 47) [] []), (7, .p (iv (ic (ln tB a)))), (8, .p (iv k))]) (fun _ => ⟨[], []⟩) (fun k => (a.length - k).toNat) (fun k => 0 ≤ k ∧ k ≤ a.length ∧ bigB (a.drop k.toNat) = bigB a) 0 (by simp) (.inl ⟨rfl, rfl⟩) ?_
  intro k hJ X2 hY
  have hd2 := gtR_drop (t := tB) (l := a) (i := k)
  have hde2 := gtR_end (l := a) (i := k)
  cbv
  repeat' (first | exact True.intro | refine And.intro ?_ ?_ | (refine BR.mk ?_ ?_ <;> intro _) | (refine CASE.mk ?_; intro _) | refine NEXT.mk (hY _ _ _ ?_ ?_ (.inl ⟨rfl, rfl⟩)) | refine NEXT.mk (hX _ _ _ ?_ ?_ (.inl ⟨rfl, rfl⟩)))
  all_goals clear hY
  all_goals clear hX
  all_goals subst_vars
  all_goals try simp only [Short_iff, cmpR, arR, mxR, INB_iff, SLB_iff, SLM_iff, NZ_iff, NN_iff, EQN_iff, LEN_iff, LIM_iff, MK_iff, decide_eq_true_eq, decide_eq_false_iff_not, ne_eq, Bool.and_eq_true] at *
  all_goals try dsimp only [Ty.den] at *
  all_goals try simp only [nc_eq] at *
  all_goals try (simp (disch := omega) only [wrap64] at *)
  all_goals grind [bigB]
end Go.Ab

