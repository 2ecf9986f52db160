/- A run, cycle by cycle; the leader's law; the law of recovery. -/
import Derived.Test.YteiolnofaebknaaMg
set_option linter.unusedSimpArgs false
set_option linter.unusedVariables false
set_option maxRecDepth 20000
set_option maxHeartbeats 4000000
namespace Go.Ab
open Go.Proofs
/-- The state ahead of cycle i. -/
def cyN (Fa Fb : List Int) (w : List tW.den) (c : CY) : Nat → CY
  | 0 => c
  | i + 1 => cycP Fa Fb i (gtR tW w i) (cyN Fa Fb w c i)
theorem runP_get (Fa Fb : List Int) (w : List tW.den) (c : CY) : ∀ (k i : Nat), i + k = w.length → runP Fa Fb i (w.drop i) (cyN Fa Fb w c i) = (List.range' i k).map fun j => ((cyN Fa Fb w c (j + 1)).1, (cyN Fa Fb w c (j + 1)).2.1)
  | 0, i, h => by rw [List.drop_eq_nil_of_le (by omega)]; rfl
  | k + 1, i, h => by
    have hi : i < w.length := by omega
    have hd := gtR_drop (t := tW) (l := w) (i := (i : Int)) (by omega) (by omega)
    simp only [Int.toNat_natCast] at hd
    rw [hd, runP, List.range'_succ, List.map_cons]
    have := runP_get Fa Fb w c k (i + 1) (by omega)
    have e : ((i : Int) + 1).toNat = i + 1 := by omega
    rw [e]
    have e2 : ((i : Int) + 1) = ((i + 1 : Nat) : Int) := by omega
    rw [e2]
    exact congrArg (_ :: ·) this
theorem runR_get {a b : Int} {w : List tW.den} {F G : List Int} {i : Nat} (h : i < w.length) : gtR tMeet (runR a b w F G) i = ((cyN (fatesM F) (fatesM G) w ((newM a b).1, (newM b a).1, (0, []), (0, [])) (i + 1)).1, (cyN (fatesM F) (fatesM G) w ((newM a b).1, (newM b a).1, (0, []), (0, [])) (i + 1)).2.1) := by
  have := runP_get (fatesM F) (fatesM G) w ((newM a b).1, (newM b a).1, (0, []), (0, [])) w.length 0 (by omega)
  rw [List.drop_zero] at this
  have e : runP (fatesM F) (fatesM G) 0 w ((newM a b).1, (newM b a).1, (0, []), (0, [])) = _ := this
  unfold runR gtR
  rw [e, List.getD_eq_getElem?_getD, List.getElem?_map, Int.toNat_natCast, List.getElem?_range' (by simpa using h)]
  simp
/-- One cycle, in all its parts. -/
structure STP (a b t : Int) (Fa Fb : List Int) (w : Int × Int) (c : CY) (se n h hn se1 n1 se2 h2 hn2 n2 se' n' h' hn' se1' n1' se2' h2' hn2' n2' : Int) : Prop where
  x0 : c.1 = (a, b, se, n, h, hn)
  y0 : c.2.1 = (b, a, se', n', h', hn')
  g : GSc a b se n h hn
  g' : GSc b a se' n' h' hn'
  k : CHN a b se n h' hn' c.2.2.1.2
  k' : CHN b a se' n' h hn c.2.2.2.2
  c1 : se1 = se ∧ n1 = n ∨ se1 ≠ se ∧ n1 = n + 1
  c2 : a < b → se1 = w.1
  c3 : se1 = w.1 ∨ (w.1 ≠ 0 ∧ h = w.1 ∧ se1 = 3 - w.1)
  c1' : se1' = se' ∧ n1' = n' ∨ se1' ≠ se' ∧ n1' = n' + 1
  c2' : b < a → se1' = w.2
  c3' : se1' = w.2 ∨ (w.2 ≠ 0 ∧ h' = w.2 ∧ se1' = 3 - w.2)
  s : sayM (a, b, se1, n1, h, hn) = if n1 = 0 then (zeroCd, 9) else ((a, b, se1, n1), 0)
  s' : sayM (b, a, se1', n1', h', hn') = if n1' = 0 then (zeroCd, 9) else ((b, a, se1', n1'), 0)
  x2 : (cycP Fa Fb t w c).1 = (a, b, se2, n2, h2, hn2)
  y2 : (cycP Fa Fb t w c).2.1 = (b, a, se2', n2', h2', hn2')
  la : (cycP Fa Fb t w c).2.2.1 = ((sayP (a, b, se1, n1, h, hn) Fa t c.2.2.1).1, (sayP (a, b, se1, n1, h, hn) Fa t c.2.2.1).2.dropWhile (dueT t))
  q5 : a < b → se2 = se1 ∧ n2 = n1
  r4' : hn2' = hn' ∧ h2' = h' ∨ ∃ d ∈ outP t (sayP (a, b, se1, n1, h, hn) Fa t c.2.2.1).2, hn2' = d.2.2.2 ∧ h2' = d.2.2.1
  r5' : hn' ≤ hn2'
  r6' : ∀ d ∈ outP t (sayP (a, b, se1, n1, h, hn) Fa t c.2.2.1).2, d.2.2.2 ≤ hn2'
  r7' : se2' = se1' ∨ se2' ≠ 0 ∧ ∃ d ∈ outP t (sayP (a, b, se1, n1, h, hn) Fa t c.2.2.1).2, d.2.2.1 ≠ 0 ∧ se2' = 3 - d.2.2.1
  gn : GSc a b se2 n2 h2 hn2
  gn' : GSc b a se2' n2' h2' hn2'
  kn : CHN a b se2 n2 h2' hn2' (cycP Fa Fb t w c).2.2.1.2
theorem INV.stp {a b T t : Int} {Fa Fb : List Int} {w : Int × Int} {c : CY} (v : VA a b) (hT : 0 ≤ T ∧ T ≤ 100) (hw : 0 ≤ w.1 ∧ w.1 ≤ 2 ∧ 0 ≤ w.2 ∧ w.2 ≤ 2) (i : INV a b T c) :
    ∃ se n h hn se1 n1 se2 h2 hn2 n2 se' n' h' hn' se1' n1' se2' h2' hn2' n2', STP a b t Fa Fb w c se n h hn se1 n1 se2 h2 hn2 n2 se' n' h' hn' se1' n1' se2' h2' hn2' n2' := by
  obtain ⟨⟨se, n, h, hn, se', n', h', hn', ex, ey, g, g', k, k', l, l'⟩, hua, hub⟩ := i
  obtain ⟨x, y, ⟨ua, za⟩, ⟨ub, zb⟩⟩ := c
  dsimp only at ex ey k k' l l' hua hub
  subst ex ey
  have hle := k.le
  have hle' := k'.le
  obtain ⟨se1, n1, e1, g1, p1, p2, p3⟩ := choose_ok (w := w.1) v g (by omega) (by omega) ⟨hw.1, hw.2.1⟩
  obtain ⟨se1', n1', e1', g1', p1', p2', p3'⟩ := choose_ok (w := w.2) v.symm g' (by omega) (by omega) ⟨hw.2.2.1, hw.2.2.2⟩
  have k1 := k.snd (se' := se1) (n' := n1) (by omega) (by omega)
  have k1' := k'.snd (se' := se1') (n' := n1') (by omega) (by omega)
  have s := say_ok v g1 (by omega) (by omega)
  have s' := say_ok v.symm g1' (by omega) (by omega)
  obtain ⟨k2, l2, u1, u2⟩ := k1.say (F := Fa) (t := t) (u := ua) v g1 (by omega) (by omega)
  obtain ⟨k2', l2', u1', u2'⟩ := k1'.say (F := Fb) (t := t) (u := ub) v.symm g1' (by omega) (by omega)
  have o1 := outP_len t (sayP (a, b, se1, n1, h, hn) Fa t (ua, za)).2
  have o2 := outP_len t (sayP (b, a, se1', n1', h', hn') Fb t (ub, zb)).2
  obtain ⟨se2, n2, h2, hn2, e2, g2, q1, q2, q3, q4, q5, q6, q7, q8, q9⟩ := recv_ok v (outP t (sayP (b, a, se1', n1', h', hn') Fb t (ub, zb)).2) g1 (by omega) (by omega) fun c hc => by
    obtain ⟨p, hp, rfl⟩ := outP_mem hc
    exact (k2'.msg p hp).1
  replace q6 := HD.mk q6
  replace q9 := HD.mk q9
  obtain ⟨se2', n2', h2', hn2', e2', g2', q1', q2', q3', q4', q5', q6', q7', q8', q9'⟩ := recv_ok v.symm (outP t (sayP (a, b, se1, n1, h, hn) Fa t (ua, za)).2) g1' (by omega) (by omega) fun c hc => by
    obtain ⟨p, hp, rfl⟩ := outP_mem hc
    exact (k2.msg p hp).1
  have r := (k2.rcv q6').snd (se' := se2) (n' := n2) q2 q4
  refine ⟨se, n, h, hn, se1, n1, se2, h2, hn2, n2, se', n', h', hn', se1', n1', se2', h2', hn2', n2', rfl, rfl, g, g', k, k', p1, p2, p3, p1', p2', p3', s, s', ?_, ?_, ?_, q5, q6', q7', q8', q9', g2, g2', ?_⟩
  · unfold cycP; dsimp only; rw [e1, e1']; exact e2
  · unfold cycP; dsimp only; rw [e1, e1']; exact e2'
  · unfold cycP; dsimp only; rw [e1]
  · unfold cycP; dsimp only; rw [e1]; exact r
theorem INV.all {a b : Int} {Fa Fb : List Int} {w : List tW.den} (v : VA a b) (hw : ∀ p ∈ w, 0 ≤ p.1 ∧ p.1 ≤ 2 ∧ 0 ≤ p.2 ∧ p.2 ≤ 2) (hl : w.length ≤ 100) : ∀ i : Nat, i ≤ w.length → INV a b i (cyN Fa Fb w ((a, b, 0, 0, 0, 0), (b, a, 0, 0, 0, 0), (0, []), (0, [])) i)
  | 0, _ => INV.start
  | i + 1, h => by
    have := INV.all (Fa := Fa) (Fb := Fb) v hw hl i (by omega)
    have hm := hw _ (gtR_mem (t := tW) (l := w) (i := (i : Int)) (by omega) (by omega))
    have h2 := this.step (t := (i : Int)) (Fa := Fa) (Fb := Fb) v ⟨by omega, by omega⟩ hm
    exact h2
/-- What the leader has wished. -/
def HAD (w : List tW.den) (i : Nat) (s : Int) : Prop := ∃ j : Nat, j < i ∧ (gtR tW w j).1 = s
structure LINV (w : List tW.den) (i : Nat) (c : CY) : Prop where
  msg : ∀ p ∈ c.2.2.1.2, HAD w i (pc p).2.2.1
  heard : c.2.1.2.2.2.2.1 ≠ 0 → HAD w i c.2.1.2.2.2.2.1
theorem HAD.mono {w : List tW.den} {i : Nat} {s : Int} (h : HAD w i s) : HAD w (i + 1) s := by
  obtain ⟨j, h1, h2⟩ := h
  exact ⟨j, by omega, h2⟩
theorem LINV.all {a b : Int} {Fa Fb : List Int} {w : List tW.den} (v : VA a b) (hab : a < b) (hw : ∀ p ∈ w, 0 ≤ p.1 ∧ p.1 ≤ 2 ∧ 0 ≤ p.2 ∧ p.2 ≤ 2) (hl : w.length ≤ 100) : ∀ i : Nat, i ≤ w.length → LINV w i (cyN Fa Fb w ((a, b, 0, 0, 0, 0), (b, a, 0, 0, 0, 0), (0, []), (0, [])) i)
    ∧ (0 < i → ∀ m, m = cyN Fa Fb w ((a, b, 0, 0, 0, 0), (b, a, 0, 0, 0, 0), (0, []), (0, [])) i → m.1.2.2.1 = (gtR tW w ((i - 1 : Nat) : Int)).1 ∧ 0 ≤ m.2.1.2.2.1 ∧ m.2.1.2.2.1 ≤ 2 ∧ (m.2.1.2.2.1 = (gtR tW w ((i - 1 : Nat) : Int)).2 ∨ m.2.1.2.2.1 ≠ 0 ∧ HAD w i (3 - m.2.1.2.2.1)))
  | 0, _ => ⟨⟨fun p hp => by simp [cyN] at hp, fun h => absurd rfl h⟩, fun h => by omega⟩
  | i + 1, h => by
    obtain ⟨ih, _⟩ := LINV.all (Fa := Fa) (Fb := Fb) v hab hw hl i (by omega)
    have hi := INV.all (Fa := Fa) (Fb := Fb) v hw hl i (by omega)
    have hm := hw _ (gtR_mem (t := tW) (l := w) (i := (i : Int)) (by omega) (by omega))
    obtain ⟨se, n, h', hn, se1, n1, se2, h2, hn2, n2, ye, yn, yh, yhn, ye1, yn1, ye2, yh2, yhn2, yn2, S⟩ := hi.stp (t := (i : Int)) (Fa := Fa) (Fb := Fb) v ⟨by omega, by omega⟩ hm
    have hcur : HAD w (i + 1) (gtR tW w i).1 := ⟨i, by omega, rfl⟩
    obtain ⟨u2, hu2⟩ : ∃ u : Int, u = (gtR tW w i).2 := ⟨_, rfl⟩
    have m3 : 0 ≤ u2 := by rw [hu2]; exact hm.2.2.1
    have m4 : u2 ≤ 2 := by rw [hu2]; exact hm.2.2.2
    have c3' : ye1 = u2 ∨ (u2 ≠ 0 ∧ yh = u2 ∧ ye1 = 3 - u2) := by rw [hu2]; exact S.c3'
    have hA : ∀ p ∈ (sayP (a, b, se1, n1, h', hn) Fa i (cyN Fa Fb w ((a, b, 0, 0, 0, 0), (b, a, 0, 0, 0, 0), (0, []), (0, [])) i).2.2.1).2, HAD w (i + 1) (pc p).2.2.1 := by
      intro p hp
      unfold sayP at hp
      rw [S.s] at hp
      split at hp
      · split at hp
        · rename_i h9; cases h9
        · exact (ih.msg p hp).mono
      · rw [if_pos rfl] at hp
        rcases sIns_mem hp with hp | ⟨_, rfl⟩
        · exact (ih.msg p hp).mono
        · show HAD w (i + 1) se1
          rw [S.c2 hab]; exact hcur
    have hO : ∀ d ∈ outP (i : Int) (sayP (a, b, se1, n1, h', hn) Fa i (cyN Fa Fb w ((a, b, 0, 0, 0, 0), (b, a, 0, 0, 0, 0), (0, []), (0, [])) i).2.2.1).2, HAD w (i + 1) d.2.2.1 := by
      intro d hd
      obtain ⟨p, hp, rfl⟩ := outP_mem hd
      exact hA p hp
    have hH : yh ≠ 0 → HAD w i yh := by
      have := ih.heard
      rw [S.y0] at this
      exact this
    refine ⟨⟨fun p hp => ?_, ?_⟩, ?_⟩
    · have hp : p ∈ (cycP Fa Fb (i : Int) (gtR tW w i) (cyN Fa Fb w ((a, b, 0, 0, 0, 0), (b, a, 0, 0, 0, 0), (0, []), (0, [])) i)).2.2.1.2 := hp
      rw [S.la] at hp
      exact hA p (dropW_mem hp)
    · show (cycP Fa Fb (i : Int) (gtR tW w i) (cyN Fa Fb w ((a, b, 0, 0, 0, 0), (b, a, 0, 0, 0, 0), (0, []), (0, [])) i)).2.1.2.2.2.2.1 ≠ 0 → HAD w (i + 1) (cycP Fa Fb (i : Int) (gtR tW w i) (cyN Fa Fb w ((a, b, 0, 0, 0, 0), (b, a, 0, 0, 0, 0), (0, []), (0, [])) i)).2.1.2.2.2.2.1
      rw [S.y2]
      intro h0
      rcases S.r4' with ⟨_, e⟩ | ⟨d, hd, _, e⟩
      · have h0' : yh2 ≠ 0 := h0
        show HAD w (i + 1) yh2
        rw [e] at h0' ⊢
        exact (hH h0').mono
      · show HAD w (i + 1) yh2
        rw [e]; exact hO d hd
    · rintro _ m rfl
      show (cycP Fa Fb (i : Int) (gtR tW w i) (cyN Fa Fb w ((a, b, 0, 0, 0, 0), (b, a, 0, 0, 0, 0), (0, []), (0, [])) i)).1.2.2.1 = (gtR tW w i).1 ∧ 0 ≤ (cycP Fa Fb (i : Int) (gtR tW w i) (cyN Fa Fb w ((a, b, 0, 0, 0, 0), (b, a, 0, 0, 0, 0), (0, []), (0, [])) i)).2.1.2.2.1 ∧ (cycP Fa Fb (i : Int) (gtR tW w i) (cyN Fa Fb w ((a, b, 0, 0, 0, 0), (b, a, 0, 0, 0, 0), (0, []), (0, [])) i)).2.1.2.2.1 ≤ 2 ∧
        ((cycP Fa Fb (i : Int) (gtR tW w i) (cyN Fa Fb w ((a, b, 0, 0, 0, 0), (b, a, 0, 0, 0, 0), (0, []), (0, [])) i)).2.1.2.2.1 = (gtR tW w i).2 ∨ (cycP Fa Fb (i : Int) (gtR tW w i) (cyN Fa Fb w ((a, b, 0, 0, 0, 0), (b, a, 0, 0, 0, 0), (0, []), (0, [])) i)).2.1.2.2.1 ≠ 0 ∧ HAD w (i + 1) (3 - (cycP Fa Fb (i : Int) (gtR tW w i) (cyN Fa Fb w ((a, b, 0, 0, 0, 0), (b, a, 0, 0, 0, 0), (0, []), (0, [])) i)).2.1.2.2.1))
      rw [S.x2, S.y2]
      refine ⟨(S.q5 hab).1.trans (S.c2 hab), S.gn'.1, S.gn'.2.1, ?_⟩
      show ye2 = (gtR tW w i).2 ∨ ye2 ≠ 0 ∧ HAD w (i + 1) (3 - ye2)
      rcases S.r7' with e | ⟨e, d, hd, h3, h4⟩
      · rcases c3' with f | ⟨f1, f2, f3⟩
        · exact .inl ((e.trans f).trans hu2)
        · refine .inr ⟨by omega, ?_⟩
          rw [e, f3, show 3 - (3 - u2) = yh by omega]
          exact (hH (by omega)).mono
      · refine .inr ⟨e, ?_⟩
        rw [h4, Int.sub_sub_self]
        exact hO d hd
end Go.Ab

