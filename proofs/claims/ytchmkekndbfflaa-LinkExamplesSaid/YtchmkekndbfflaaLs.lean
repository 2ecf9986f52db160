/- Pending of an empty channel; 'hears' as a call. -/
import Derived.Test.YtchmkekndbfflaaLr
import Derived.Test.YtchmkekndbfflaaLen
set_option linter.unusedSimpArgs false
set_option linter.unusedVariables false
set_option maxRecDepth 20000
set_option maxHeartbeats 8000000
namespace Go.Ab
open Go.Proofs
theorem LOOP.ind0 {body : (Ax → EnvS → StS → Prop) → EnvS → StS → Prop} {keep : List Nat} {Q : Ax → EnvS → StS → Prop} {ρ0 : EnvS} {st0 : StS} {σ : Type}
    (env : σ → EnvS) (st : σ → StS) (μ : σ → Nat) (I : σ → Prop) (s0 : σ) (h0 : I s0) (hs : SIMX st0.box.length st0.grp.length ρ0 st0 (env s0) (st s0))
    (h : ∀ s, I s → ∀ X : EnvS → StS → Prop, (∀ (s' : σ) (ρ' : EnvS) (st' : StS), I s' → μ s' < μ s → SIMX st'.box.length st'.grp.length ρ' st' (env s') (st s') → X ρ' st') →
      body (Ax.thnS (fun ρ' st' => NEXT X (ρ'.keep keep) st') Q) (env s) (st s)) : LOOP body none keep Q ρ0 st0 := by
  refine ⟨μ s0 + 1, ?_⟩
  have key : ∀ k s, I s → μ s < k → ∀ ρ' st', SIMX st'.box.length st'.grp.length ρ' st' (env s) (st s) → LoopS body none keep Q k ρ' st' := by
    intro k
    induction k with
    | zero => intro s _ hk; omega
    | succ k ih =>
      intro s hs hk ρ' st' hsim
      exact ⟨env s, st s, by have := hsim.sim; simpa [SimQ, StS.conc] using this, h s hs _ fun s' ρ' st' hi hlt hsim => ih s' hi (by omega) ρ' st' hsim⟩
  exact key _ s0 h0 (Nat.lt_succ_self _) ρ0 st0 hs
def lenB (n : Int) : Int := Lib.bitLen n.toNat
theorem c49 (n : Int) (h : INB n 18446744073709551616) : PurS Try.prog 49 [injT (.int .u64) n] (.p (iv (lenB n))) := by
  refine ⟨_, rfl, ?_⟩
  have := PurFn.of_calls (P := Try.prog) (f := 49) (vs := [.int .u64 n]) Try.call49 fun w => Try.bits_Len n w h.lo (by have := h.hi; omega)
  have e : concL [injT (.int .u64) n] = [.p (.v (.int .u64 n))] := by simp [injT, concL, DC.conc]
  rw [e]; exact this
theorem cPend0 (F : List Int) (now sent : Int) (N : Nat) (q : List tPar.den) (hq : q.length = N) : FnS Try.prog 18 ([.ptr 0 0]) (linkS F now sent N 0 q ) fun x_ s_ => x_ = (.ms 3 0 6 none 0) ∧ s_ = (⟨(linkS F now sent N 0 q).box ++ [{ cells := [.arr 0 tPar []], e := 49, fz := false, ap := true }], []⟩) := by
  refine FnS.of (S := [(49, _)]) (T := []) (tbl := [(39, ac39 none, [.tmp 2], 8), (40, ac40 none, [], 14), (48, ac48 none, [], 148), (51, ac51 none, [], 53)]) (n := 23) hm33 cfg (.cons (spT1.ok (a := (.int .u64)) fun x0 h => c49 x0 h) .nil) .nil (.cons Try.call39 Try.func39 (ac39_ok none) (by rw [Try.ntmps39]; exact Nat.le_refl _) (.cons Try.call40 Try.func40 (ac40_ok none) (by rw [Try.ntmps40]; exact Nat.le_refl _) (.cons Try.call48 Try.func48 (ac48_ok none) (by rw [Try.ntmps48]; exact Nat.le_refl _) (.cons Try.call51 Try.func51 (ac51_ok none) (by rw [Try.ntmps51]; exact Nat.le_refl _) .nil)))) 6 Try.call18 Try.func18 (ac18_ok (some (3, 0))) (by rw [Try.ntmps18]; exact Nat.le_refl _) rfl _ _ _ (by rfl) ?_
  intro cmp ar cv tn ic ai mx an ad ml sb mn ln em gt up ap sc vw cp rp p1 p2 s1 s2 X Y hX hY r0 r1 r2 r3 r4 r5 r6 r7 r8 r9 r10 r11 r12 r13 r14 r15 r16 r17 r18 r19 r20 r21 r22 r23 r24
  generalize hg0 : lenB = g0
  cbv
  have hv : vw tPar N q 0 0 = [] := by rw [r18]; simp [vwR]
  have hl : ln tPar [] = 0 := by rw [r12]; rfl
  have ha : ad 0 0 = 0 := by rw [r8]
  have hi : ic 0 = 0 := by rw [r4]; rfl
  have hc : cv .u64 0 = 0 := by rw [r2]; rfl
  rw [hv, hl, ha, hi, hc]
  refine ⟨⟨by omega⟩, ⟨by omega⟩, ⟨by omega, by decide⟩, ⟨by decide, by decide⟩, ?_⟩
  refine LOOP.ind0 (σ := Unit) (fun _ => _) (fun _ => _) (fun _ => 0) (fun _ => True) () trivial (.inl ⟨rfl, rfl⟩) ?_
  intro _ _ X1 hX1
  have hs : ar .sub .i64 0 0 = 0 := by rw [r1]; rfl
  cbv
  rw [hs]
  refine BR.mk (fun _ => ?_) fun h => absurd h (by rw [r0]; simp [cmpR])
  refine LOOP.ind0 (σ := Unit) (fun _ => _) (fun _ => _) (fun _ => 0) (fun _ => True) () trivial (.inl ⟨rfl, rfl⟩) ?_
  intro _ _ X2 hX2
  have h01 : ar .add .i64 0 1 = 1 := by rw [r1]; rfl
  cbv
  rw [h01]
  refine BR.mk (fun h => absurd h (by rw [r0]; simp [cmpR])) fun _ => ?_
  refine RET.mk ⟨[some 0, some 1, some 2, some 4], [], ?_⟩
  rw [SIM_iff]; cbv
  have hap : ap tPar (vw tPar 0 [] 0 0) [] = [] := by rw [r16, r18]; simp [vwR]
  rw [hap]
  simp [lstEq]
structure PEN0 (N n : Nat) (q : List tPar.den) : Prop where
  h : n = 0
  q : q.length = N
def spPend0 : OpsS → CallS := fun _ _ ds st K => match ds with
  | [.ptr a 0] => linkAt a st fun b c F now sent N n q => PEN0 N n q ∧ frS [a, b, c] [] [.ptr 0 0] (linkS F now sent N n q) (.ms 3 0 6 none 0) ⟨(linkS F now sent N n q).box ++ [{ cells := [.arr 0 tPar []], e := 49, fz := false, ap := true }], []⟩ ds st K
  | _ => False
theorem cPend0T : ∀ ds st K, spPend0 OpsS.real 18 ds st K → FnS Try.prog 18 ds st K := fun ds st K h => by
  unfold spPend0 at h
  split at h
  · obtain ⟨b, c, F, now, sent, N, n, q, hu, h⟩ := linkAt_some h
    obtain ⟨rfl, h2⟩ := hu
    exact frS_ok (cPend0 F now sent N q h2) h
  · exact h.elim
end Go.Ab

