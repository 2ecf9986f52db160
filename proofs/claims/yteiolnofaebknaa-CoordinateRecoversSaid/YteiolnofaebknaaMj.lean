/- The law of recovery, plain. -/
import Derived.Test.YteiolnofaebknaaMh
set_option linter.unusedSimpArgs false
set_option linter.unusedVariables false
set_option maxRecDepth 20000
set_option maxHeartbeats 4000000
namespace Go.Ab
open Go.Proofs
/-- The k fates ahead of u are losses. -/
def LOSS (F : List Int) (u k : Int) : Prop := k ≤ u ∧ ∀ j : Int, u - k ≤ j → j < u → fateM F j = -1
/-- The last change of the leader's wish ahead of cycle i, and the wish. -/
def chgS (w : List tW.den) : Nat → Int × Int
  | 0 => (0, 0)
  | i + 1 => if (gtR tW w i).1 ≠ (chgS w i).2 then ((i : Int), (gtR tW w i).1) else chgS w i
structure RINV (F : List Int) (w : List tW.den) (i : Nat) (c : CY) : Prop where
  em : c.2.2.1.2 = []
  se : c.1.2.2.1 = (chgS w i).2
  ch : 0 ≤ (chgS w i).1 ∧ (chgS w i).1 ≤ i
  u : 0 ≤ c.2.2.1.1
  heard : c.2.1.2.2.2.2.2 = c.1.2.2.2.1 ∨ 1 ≤ c.1.2.2.2.1 ∧ LOSS F c.2.2.1.1 (i - (chgS w i).1)
theorem sIns_nil {F : List Int} {u t : Int} {c : CD} : sIns F u t c [] = if fateM F u = -1 then [] else [(t + fateM F u, (u, c))] := by unfold sIns insP; rfl
theorem out_now {t u : Int} {c : CD} : outP t [((t + 0, (u, c)) : PT)] = [c] ∧ ([((t + 0, (u, c)) : PT)]).dropWhile (dueT t) = [] := by
  have : dueT t ((t + 0, (u, c)) : PT) = true := by unfold dueT; simp
  constructor
  · unfold outP; rw [List.takeWhile, this]; rfl
  · rw [List.dropWhile, this]; rfl
theorem RINV.all {a b : Int} {Fa Fb : List Int} {w : List tW.den} (v : VA a b) (hab : a < b) (hw : ∀ p ∈ w, 0 ≤ p.1 ∧ p.1 ≤ 2 ∧ 0 ≤ p.2 ∧ p.2 ≤ 2) (hl : w.length ≤ 100) (hF : ∀ j, fateM Fa j = -1 ∨ fateM Fa j = 0) :
    ∀ i : Nat, i ≤ w.length → RINV Fa w i (cyN Fa Fb w ((a, b, 0, 0, 0, 0), (b, a, 0, 0, 0, 0), (0, []), (0, [])) i)
  | 0, _ => ⟨rfl, rfl, ⟨Int.le_refl _, Int.le_refl _⟩, Int.le_refl _, .inl rfl⟩
  | i + 1, h => by
    have ih := RINV.all (Fb := Fb) v hab hw hl hF i (by omega)
    have hi := INV.all (Fa := Fa) (Fb := Fb) v hw hl i (by omega)
    have hm := hw _ (gtR_mem (t := tW) (l := w) (i := (i : Int)) (by omega) (by omega))
    obtain ⟨se, n, h', hn, se1, n1, se2, h2, hn2, n2, ye, yn, yh, yhn, ye1, yn1, ye2, yh2, yhn2, yn2, S⟩ := hi.stp (t := (i : Int)) (Fa := Fa) (Fb := Fb) v ⟨by omega, by omega⟩ hm
    have r4 := HD.mk S.r4'
    have r6 := S.r6'
    have la := S.la
    have x0 := S.x0; have y0 := S.y0
    have q5 := S.q5 hab
    have c1 := S.c1
    have c2 : se1 = (gtR tW w i).1 := S.c2 hab
    have kle := S.k.le
    have knle := S.kn.le
    have gn := S.g.2.2.1
    have gn0 := S.g.2.2.2.2.2.2.1
    have sm := S.s
    have x2 : (cyN Fa Fb w ((a, b, 0, 0, 0, 0), (b, a, 0, 0, 0, 0), (0, []), (0, [])) (i + 1)).1 = _ := S.x2
    have y2 : (cyN Fa Fb w ((a, b, 0, 0, 0, 0), (b, a, 0, 0, 0, 0), (0, []), (0, [])) (i + 1)).2.1 = _ := S.y2
    have la2 : (cyN Fa Fb w ((a, b, 0, 0, 0, 0), (b, a, 0, 0, 0, 0), (0, []), (0, [])) (i + 1)).2.2.1 = _ := la
    have r5 := S.r5'
    clear S la
    obtain ⟨em, ise, ich, iu, ih5⟩ := ih
    rw [x0] at ise ih5
    rw [y0] at ih5
    generalize cyN Fa Fb w ((a, b, 0, 0, 0, 0), (b, a, 0, 0, 0, 0), (0, []), (0, [])) (i + 1) = c2' at *
    generalize cyN Fa Fb w ((a, b, 0, 0, 0, 0), (b, a, 0, 0, 0, 0), (0, []), (0, [])) i = c at *
    obtain ⟨x, y, ⟨ua, za⟩, lb⟩ := c
    obtain ⟨x', y', ⟨ua', za'⟩, lb'⟩ := c2'
    dsimp only at *
    subst em x0 y0 x2 y2
    obtain ⟨ch, hch⟩ : ∃ z, z = chgS w i := ⟨_, rfl⟩
    obtain ⟨chi, chw⟩ := ch
    have e2 : chgS w (i + 1) = if se1 ≠ chw then ((i : Int), se1) else (chi, chw) := by rw [chgS, ← hch, c2]
    rw [← hch] at ise ich ih5
    dsimp only at ise ich ih5
    subst ise
    have q5a := q5.1.symm
    have q5b := q5.2.symm
    subst q5a q5b
    -- what is sent
    by_cases h0 : n1 = 0
    · have hs : sayP (a, b, se1, n1, h', hn) Fa i (ua, []) = (ua, []) := by
        unfold sayP; rw [sm, if_pos h0, if_neg (show ¬ ((zeroCd, (9 : Int)).2 = 0) by decide)]
      rw [hs] at la2 r4
      obtain ⟨rfl, rfl⟩ := Prod.mk.inj la2
      have hn1 : se1 = se ∧ n1 = n := by omega
      have e3 : chgS w (i + 1) = (chi, se) := by rw [e2, if_neg (by simp [hn1.1]), ← hn1.1]
      refine ⟨rfl, by rw [e3]; exact hn1.1, by rw [e3]; dsimp only; omega, iu, .inl ?_⟩
      show yhn2 = n1
      rcases r4.h with ⟨e4, _⟩ | ⟨d, hd, _⟩
      · omega
      · simp [outP] at hd
    · have hs : sayP (a, b, se1, n1, h', hn) Fa i (ua, []) = (ua + 1, sIns Fa ua i (a, b, se1, n1) []) := by
        unfold sayP; rw [sm, if_neg h0, if_pos rfl]
      rw [hs, sIns_nil] at la2 r4 r6
      rcases hF ua with hf | hf
      · -- it is lost
        rw [if_pos hf] at la2 r4
        obtain ⟨rfl, rfl⟩ := Prod.mk.inj la2
        have hy : yhn2 = yhn := by
          rcases r4.h with ⟨e4, _⟩ | ⟨d, hd, _⟩
          · exact e4
          · simp [outP] at hd
        rcases c1 with ⟨d1, d2⟩ | ⟨d1, d2⟩
        · have e3 : chgS w (i + 1) = (chi, se) := by rw [e2, if_neg (by simp [d1])]
          refine ⟨rfl, by rw [e3]; exact d1, by rw [e3]; dsimp only; omega, by show 0 ≤ ua + 1; omega, ?_⟩
          show yhn2 = n1 ∨ 1 ≤ n1 ∧ LOSS Fa (ua + 1) (((i + 1 : Nat) : Int) - (chgS w (i + 1)).1)
          rcases ih5 with e5 | ⟨e5, e6, e7⟩
          · exact .inl (by rw [hy, d2]; exact e5)
          · refine .inr ⟨by omega, by rw [e3]; dsimp only at e6 ⊢; omega, fun j j1 j2 => ?_⟩
            rw [e3] at j1
            dsimp only at j1 e7
            by_cases hj : j = ua
            · rw [hj]; exact hf
            · exact e7 j (by omega) (by omega)
        · have e3 : chgS w (i + 1) = ((i : Int), se1) := by rw [e2, if_pos d1]
          refine ⟨rfl, by rw [e3], by rw [e3]; dsimp only; omega, by show 0 ≤ ua + 1; omega, ?_⟩
          show yhn2 = n1 ∨ 1 ≤ n1 ∧ LOSS Fa (ua + 1) (((i + 1 : Nat) : Int) - (chgS w (i + 1)).1)
          refine .inr ⟨by omega, by rw [e3]; dsimp only; omega, fun j j1 j2 => ?_⟩
          rw [e3] at j1
          dsimp only at j1
          have : j = ua := by omega
          rw [this]; exact hf
      · -- it arrives
        rw [if_neg (by omega), hf] at la2 r6
        rw [out_now.1] at r6
        rw [out_now.2] at la2
        obtain ⟨rfl, rfl⟩ := Prod.mk.inj la2
        have hy : n1 ≤ yhn2 := r6 _ List.mem_cons_self
        have hc : (chgS w (i + 1)).2 = se1 ∧ 0 ≤ (chgS w (i + 1)).1 ∧ (chgS w (i + 1)).1 ≤ (i : Int) + 1 := by
          rw [e2]
          by_cases hq : se1 = se
          · rw [if_neg (by simp [hq])]; exact ⟨hq.symm, by dsimp only; omega, by dsimp only; omega⟩
          · rw [if_pos hq]; exact ⟨rfl, by dsimp only; omega, by dsimp only; omega⟩
        exact ⟨rfl, hc.1.symm, ⟨hc.2.1, by omega⟩, by show 0 ≤ ua + 1; omega, .inl (by show yhn2 = n1; omega)⟩
end Go.Ab

