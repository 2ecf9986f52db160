/- Pending of an empty channel; 'hears' as a call. -/
import Derived.Test.YtchmkekndbfflaaLq
import Derived.Test.YtchmkekndbfflaaLen
set_option linter.unusedSimpArgs false
set_option linter.unusedVariables false
set_option maxRecDepth 20000
set_option maxHeartbeats 8000000
namespace Go.Ab
open Go.Proofs
theorem LOOP.ind0 {body : (Ax → EnvS → StS → Prop) → EnvS → StS → Prop} {keep : List Nat} {Q : Ax → EnvS → StS → Prop} {ρ0 : EnvS} {st0 : StS} {σ : Type}
    (env : σ → EnvS) (st : σ → StS) (μ : σ → Nat) (I : σ → Prop) (s0 : σ) (h0 : I s0) (hs : SIMX st0.box.length st0.grp.length ρ0 st0 (env s0) (st s0))
    (h : ∀ s, I s → ∀ X : EnvS → StS → Prop, (∀ (s' : σ) (ρ' : EnvS) (st' : StS), I s' → μ s' < μ s → SIMX st'.box.length st'.grp.length ρ' st' (env s') (st s') → X ρ' st') →
      body (Ax.thnS (fun ρ' st' => NEXT X (ρ'.keep keep) st') Q) (env s) (st s)) : LOOP body none keep Q ρ0 st0 := by
  refine ⟨μ s0 + 1, ?_⟩
  have key : ∀ k s, I s → μ s < k → ∀ ρ' st', SIMX st'.box.length st'.grp.length ρ' st' (env s) (st s) → LoopS body none keep Q k ρ' st' := by
    intro k
    induction k with
    | zero => intro s _ hk; omega
    | succ k ih =>
      intro s hs hk ρ' st' hsim
      exact ⟨env s, st s, by have := hsim.sim; simpa [SimQ, StS.conc] using this, h s hs _ fun s' ρ' st' hi hlt hsim => ih s' hi (by omega) ρ' st' hsim⟩
  exact key _ s0 h0 (Nat.lt_succ_self _) ρ0 st0 hs
def lenB (n : Int) : Int := Lib.bitLen n.toNat
theorem c49 (n : Int) (h : INB n 18446744073709551616) : PurS Try.prog 49 [injT (.int .u64) n] (.p (iv (lenB n))) := by
  refine ⟨_, rfl, ?_⟩
  have := PurFn.of_calls (P := Try.prog) (f := 49) (vs := [.int .u64 n]) Try.call49 fun w => Try.bits_Len n w h.lo (by have := h.hi; omega)
  have e : concL [injT (.int .u64) n] = [.p (.v (.int .u64 n))] := by simp [injT, concL, DC.conc]
  rw [e]; exact this
end Go.Ab

