/- The plain law of a run: what the sides and the messages under way satisfy. -/
import Derived.Test.YteiolnofaebknaaMd
set_option linter.unusedSimpArgs false
set_option linter.unusedVariables false
set_option maxRecDepth 20000
set_option maxHeartbeats 2000000
namespace Go.Ab
open Go.Proofs
def VA (a b : Int) : Prop := 0 ≤ a ∧ a ≤ 16777215 ∧ 0 ≤ b ∧ b ≤ 16777215 ∧ a ≠ b
theorem VA.symm {a b : Int} (h : VA a b) : VA b a := ⟨h.2.2.1, h.2.2.2.1, h.1, h.2.1, fun e => h.2.2.2.2 e.symm⟩
def GSc (a b se n h hn : Int) : Prop := 0 ≤ se ∧ se ≤ 2 ∧ 0 ≤ n ∧ 0 ≤ h ∧ h ≤ 2 ∧ 0 ≤ hn ∧ (n = 0 → se = 0) ∧ (hn = 0 → h = 0) ∧ (¬ a < b → se ≠ 0 → se ≠ h)
theorem check_ok {a b se n h hn : Int} (v : VA a b) (g : GSc a b se n h hn) (hn1 : n ≤ 1048575) (hn2 : hn ≤ 1048575) : checkM (a, b, se, n, h, hn) = 0 := by
  obtain ⟨v1, v2, v3, v4, v5⟩ := v
  obtain ⟨g1, g2, g3, g4, g5, g6, g7, g8, g9⟩ := g
  show (if a < 0 ∨ a > 16777215 ∨ b < 0 ∨ b > 16777215 ∨ a = b then (1 : Int) else if se > 2 ∨ h > 2 then 6 else if n < 0 ∨ n > 1048575 ∨ hn < 0 ∨ hn > 1048575 then 1 else if (n = 0 ∧ se ≠ 0) ∨ (hn = 0 ∧ h ≠ 0) then 16 else 0) = 0
  rw [if_neg (by omega), if_neg (by omega), if_neg (by omega), if_neg (by omega)]
theorem wrap_u8' {n : Int} (h : 0 ≤ n ∧ n < 256) : IntKind.u8.wrap n = n := by simp [IntKind.wrap, IntKind.bits, IntKind.signed]; omega
theorem yield_eq {a b se n h hn w : Int} (hw : 0 ≤ w ∧ w ≤ 2) : yieldM (a, b, se, n, h, hn) w = if ¬ a < b ∧ w ≠ 0 ∧ w = h then 3 - w else w := by
  unfold yieldM likeM
  simp only [decide_eq_true_eq]
  split
  · rw [wrap_u8' (by omega)]
  · rfl
theorem take_eq {a b se n h hn w : Int} (hn1 : 0 ≤ n ∧ n < 1048575) : takeS (a, b, se, n, h, hn) w = (if w = se then ((a, b, se, n, h, hn), 0) else ((a, b, w, n + 1, h, hn), 0)) := by
  unfold takeS
  simp only
  split
  · rfl
  · rw [if_neg (by omega), wrap64 (by omega) (by omega)]
theorem choose_ok {a b se n h hn w : Int} (v : VA a b) (g : GSc a b se n h hn) (hn1 : n < 1048575) (hn2 : hn ≤ 1048575) (hw : 0 ≤ w ∧ w ≤ 2) :
    ∃ se' n', chooseM (a, b, se, n, h, hn) w = ((a, b, se', n', h, hn), 0) ∧ GSc a b se' n' h hn ∧ (se' = se ∧ n' = n ∨ se' ≠ se ∧ n' = n + 1) ∧ (a < b → se' = w) ∧ (se' = w ∨ (w ≠ 0 ∧ h = w ∧ se' = 3 - w)) := by
  have hc := check_ok v g (by omega) hn2
  have g' := g
  obtain ⟨g1, g2, g3, g4, g5, g6, g7, g8, g9⟩ := g'
  unfold chooseM
  rw [if_neg (by rw [hc]; simp), if_neg (by omega), yield_eq hw, take_eq ⟨g3, hn1⟩]
  by_cases hy : ¬ a < b ∧ w ≠ 0 ∧ w = h
  · rw [if_pos hy]
    by_cases e : 3 - w = se
    · rw [if_pos e]
      exact ⟨se, n, rfl, g, .inl ⟨rfl, rfl⟩, by omega, by omega⟩
    · rw [if_neg e]
      exact ⟨3 - w, n + 1, rfl, ⟨by omega, by omega, by omega, g4, g5, g6, by omega, g8, by omega⟩, .inr ⟨e, rfl⟩, by omega, by omega⟩
  · rw [if_neg hy]
    by_cases e : w = se
    · rw [if_pos e]
      exact ⟨se, n, rfl, g, .inl ⟨rfl, rfl⟩, by omega, by omega⟩
    · rw [if_neg e]
      exact ⟨w, n + 1, rfl, ⟨by omega, by omega, by omega, g4, g5, g6, by omega, g8, by omega⟩, .inr ⟨e, rfl⟩, by omega, by omega⟩
/-- A message for a side with addresses a, b. -/
def MSG (a b : Int) (c : CD) : Prop := c.1 = b ∧ c.2.1 = a ∧ 0 ≤ c.2.2.1 ∧ c.2.2.1 ≤ 2 ∧ 1 ≤ c.2.2.2 ∧ c.2.2.2 ≤ 1048575
theorem msg_check {a b : Int} {c : CD} (v : VA a b) (m : MSG a b c) : lcheckM c = 0 := by
  obtain ⟨v1, v2, v3, v4, v5⟩ := v
  obtain ⟨m1, m2, m3, m4, m5, m6⟩ := m
  obtain ⟨c1, c2, c3, c4⟩ := c
  simp only at m1 m2 m3 m4 m5 m6
  subst m1 m2
  show (if c1 < 0 ∨ c1 > 16777215 ∨ c2 < 0 ∨ c2 > 16777215 ∨ c1 = c2 then (1 : Int) else if c3 > 2 then 6 else if c4 < 1 ∨ c4 > 1048575 then 1 else 0) = 0
  rw [if_neg (by omega), if_neg (by omega), if_neg (by omega)]
theorem hear_ok {a b se n h hn : Int} {c : CD} (v : VA a b) (g : GSc a b se n h hn) (hn1 : n < 1048575) (hn2 : hn ≤ 1048575) (m : MSG a b c) :
    ∃ se' n' h' hn', shearM (a, b, se, n, h, hn) c = ((a, b, se', n', h', hn'), 0) ∧ GSc a b se' n' h' hn' ∧ hn' ≤ 1048575 ∧ (se' = se ∧ n' = n ∨ n' = n + 1) ∧ (a < b → se' = se ∧ n' = n) ∧
      (hn' = hn ∧ h' = h ∨ hn' = c.2.2.2 ∧ h' = c.2.2.1) ∧ hn ≤ hn' ∧ c.2.2.2 ≤ hn' ∧ (se' = se ∨ se' ≠ 0 ∧ c.2.2.1 ≠ 0 ∧ se' = 3 - c.2.2.1) := by
  have hc := check_ok v g (by omega) hn2
  have hm := msg_check v m
  have g' := g
  obtain ⟨g1, g2, g3, g4, g5, g6, g7, g8, g9⟩ := g'
  obtain ⟨m1, m2, m3, m4, m5, m6⟩ := m
  obtain ⟨c1, c2, c3, c4⟩ := c
  simp only at m1 m2 m3 m4 m5 m6
  unfold shearM
  rw [if_neg (by rw [hc]; simp), if_neg (by rw [hm]; simp), if_neg (by simp only; omega)]
  simp only
  by_cases hl : c4 ≤ hn
  · rw [if_pos hl]
    exact ⟨se, n, h, hn, rfl, g, hn2, .inl ⟨rfl, rfl⟩, fun _ => ⟨rfl, rfl⟩, .inl ⟨rfl, rfl⟩, by omega, by omega, .inl rfl⟩
  · rw [if_neg hl, yield_eq ⟨g1, g2⟩, take_eq ⟨g3, hn1⟩]
    by_cases hy : ¬ a < b ∧ se ≠ 0 ∧ se = c3
    · rw [if_pos hy, if_neg (by omega)]
      exact ⟨3 - se, n + 1, c3, c4, rfl, ⟨by omega, by omega, by omega, by omega, by omega, by omega, by omega, by omega, by omega⟩, by omega, .inr rfl, by omega, .inr ⟨rfl, rfl⟩, by omega, by omega, by omega⟩
    · rw [if_neg hy, if_pos rfl]
      exact ⟨se, n, c3, c4, rfl, ⟨by omega, by omega, by omega, by omega, by omega, by omega, by omega, by omega, by omega⟩, by omega, .inl ⟨rfl, rfl⟩, by omega, .inr ⟨rfl, rfl⟩, by omega, by omega, by omega⟩
structure HD (p : Prop) : Prop where
  h : p
theorem recv_ok {a b : Int} (v : VA a b) : ∀ (o : List CD) {se n h hn : Int}, GSc a b se n h hn → n + o.length < 1048575 → hn ≤ 1048575 → (∀ c ∈ o, MSG a b c) →
    ∃ se' n' h' hn', recvM (a, b, se, n, h, hn) o = (a, b, se', n', h', hn') ∧ GSc a b se' n' h' hn' ∧ hn' ≤ 1048575 ∧ n ≤ n' ∧ n' ≤ n + o.length ∧ (n' = n → se' = se) ∧ (a < b → se' = se ∧ n' = n) ∧
      (hn' = hn ∧ h' = h ∨ ∃ c ∈ o, hn' = c.2.2.2 ∧ h' = c.2.2.1) ∧ hn ≤ hn' ∧ (∀ c ∈ o, c.2.2.2 ≤ hn') ∧ (se' = se ∨ se' ≠ 0 ∧ ∃ c ∈ o, c.2.2.1 ≠ 0 ∧ se' = 3 - c.2.2.1)
  | [], se, n, h, hn, g, h1, h2, _ => ⟨se, n, h, hn, rfl, g, h2, by omega, by simp, fun _ => rfl, fun _ => ⟨rfl, rfl⟩, .inl ⟨rfl, rfl⟩, by omega, fun c hc => by simp at hc, .inl rfl⟩
  | c :: o, se, n, h, hn, g, h1, h2, hm => by
    simp only [List.length_cons] at h1
    obtain ⟨se1, n1, h3, hn3, e1, g1, k1, k2, k3, k4, k5, k6, k7⟩ := hear_ok (c := c) v g (by omega) h2 (hm c List.mem_cons_self)
    obtain ⟨se2, n2, h4, hn4, e2, g2, q1, q2, q3, q4, q5, q6, q7, q8, q9⟩ := recv_ok v o g1 (by omega) k1 fun d hd => hm d (List.mem_cons_of_mem _ hd)
    replace q6 := HD.mk q6
    replace q9 := HD.mk q9
    refine ⟨se2, n2, h4, hn4, by rw [recvM, e1]; exact e2, g2, q1, by omega, by simp only [List.length_cons]; omega, fun e => ?_, fun e => ?_, ?_, by omega, fun d hd => ?_, ?_⟩
    · rw [q4 (by omega)]; omega
    · have := q5 e; have := k3 e; omega
    · rcases q6.h with ⟨e3, e4⟩ | ⟨d, hd, e3⟩
      · rcases k4 with k4 | k4
        · exact .inl ⟨by omega, by omega⟩
        · exact .inr ⟨c, List.mem_cons_self, by omega, by omega⟩
      · exact .inr ⟨d, List.mem_cons_of_mem _ hd, e3⟩
    · rcases List.mem_cons.1 hd with rfl | hd
      · omega
      · exact q8 d hd
    · rcases q9.h with e | ⟨e, d, hd, e3⟩
      · rcases k7 with k7 | k7
        · exact .inl (by omega)
        · exact .inr ⟨by omega, c, List.mem_cons_self, k7.2.1, by omega⟩
      · exact .inr ⟨e, d, List.mem_cons_of_mem _ hd, e3⟩
def pc (p : PT) : CD := p.2.2
/-- What lies on the way from a side to another one (by the sender's number and sense, and what the other one has heard). -/
structure CHN (a b se n h hn : Int) (z : List PT) : Prop where
  msg : ∀ p ∈ z, MSG b a (pc p) ∧ (pc p).2.2.2 ≤ n ∧ ((pc p).2.2.2 = n → (pc p).2.2.1 = se)
  le : hn ≤ n
  eq : hn = n → h = se
theorem CHN.sub {a b se n h hn : Int} {z z' : List PT} (c : CHN a b se n h hn z) (hs : ∀ p ∈ z', p ∈ z) : CHN a b se n h hn z' := ⟨fun p hp => c.msg p (hs p hp), c.le, c.eq⟩
/-- The sender's number grows, or its sense stays. -/
theorem CHN.snd {a b se n h hn se' n' : Int} {z : List PT} (c : CHN a b se n h hn z) (h1 : n ≤ n') (h2 : n' = n → se' = se) : CHN a b se' n' h hn z :=
  ⟨fun p hp => ⟨(c.msg p hp).1, by have := (c.msg p hp).2.1; omega, fun e => by
    have h3 := (c.msg p hp).2.1
    have h4 := (c.msg p hp).2.2 (by omega)
    rw [h4, h2 (by omega)]⟩, by have := c.le; omega, fun e => by have := c.le; rw [c.eq (by omega), h2 (by omega)]⟩
/-- A run's invariant. -/
structure INV (a b T : Int) (c : CY) : Prop where
  ex : ∃ se n h hn se' n' h' hn', c.1 = (a, b, se, n, h, hn) ∧ c.2.1 = (b, a, se', n', h', hn') ∧ GSc a b se n h hn ∧ GSc b a se' n' h' hn' ∧ CHN a b se n h' hn' c.2.2.1.2 ∧ CHN b a se' n' h hn c.2.2.2.2 ∧
    n + c.2.2.2.2.length ≤ T + c.2.2.2.1 ∧ n' + c.2.2.1.2.length ≤ T + c.2.2.1.1
  ua : 0 ≤ c.2.2.1.1 ∧ c.2.2.1.1 ≤ T
  ub : 0 ≤ c.2.2.2.1 ∧ c.2.2.2.1 ≤ T
theorem sIns_mem {F : List Int} {u t : Int} {c : CD} {z : List PT} {p : PT} (h : p ∈ sIns F u t c z) : p ∈ z ∨ fateM F u ≠ -1 ∧ p = (t + fateM F u, (u, c)) := by
  unfold sIns at h
  split at h
  · exact .inl h
  · rename_i hf
    rcases List.mem_cons.1 ((insP_perm _ _).mem_iff.1 h) with rfl | h
    · exact .inr ⟨hf, rfl⟩
    · exact .inl h
theorem sIns_len {F : List Int} {u t : Int} {c : CD} {z : List PT} : (sIns F u t c z).length ≤ z.length + 1 := by
  unfold sIns
  split
  · omega
  · rw [(insP_perm _ _).length_eq]; simp
theorem say_ok {a b se n h hn : Int} (v : VA a b) (g : GSc a b se n h hn) (hn1 : n ≤ 1048575) (hn2 : hn ≤ 1048575) : sayM (a, b, se, n, h, hn) = if n = 0 then (zeroCd, 9) else ((a, b, se, n), 0) := by
  unfold sayM
  rw [if_neg (by rw [check_ok v g hn1 hn2]; simp)]
/-- Saying. -/
theorem CHN.say {a b se n h hn h' hn' : Int} {F : List Int} {t u : Int} {z : List PT} (v : VA a b) (g : GSc a b se n h hn) (hn1 : n ≤ 1048575) (hn2 : hn ≤ 1048575) (c : CHN a b se n h' hn' z) :
    CHN a b se n h' hn' (sayP (a, b, se, n, h, hn) F t (u, z)).2 ∧ (sayP (a, b, se, n, h, hn) F t (u, z)).2.length + u ≤ z.length + (sayP (a, b, se, n, h, hn) F t (u, z)).1 ∧ u ≤ (sayP (a, b, se, n, h, hn) F t (u, z)).1 ∧ (sayP (a, b, se, n, h, hn) F t (u, z)).1 ≤ u + 1 := by
  unfold sayP
  rw [say_ok v g hn1 hn2]
  by_cases h0 : n = 0
  · rw [if_pos h0, if_neg (show ¬ ((zeroCd, (9 : Int)).2 = 0) by decide)]
    dsimp only
    exact ⟨c, by omega, by omega, by omega⟩
  · rw [if_neg h0, if_pos (show (((a, b, se, n) : CD), (0 : Int)).2 = 0 from rfl)]
    dsimp only
    refine ⟨⟨fun p hp => ?_, c.le, c.eq⟩, ?_, by omega, by omega⟩
    · rcases sIns_mem hp with hp | ⟨_, rfl⟩
      · exact c.msg p hp
      · exact ⟨⟨rfl, rfl, g.1, g.2.1, by have := g.2.2.1; show 1 ≤ n; omega, hn1⟩, Int.le_refl _, fun _ => rfl⟩
    · have := sIns_len (F := F) (u := u) (t := t) (c := (a, b, se, n)) (z := z)
      omega
theorem outP_mem {t : Int} {z : List PT} {c : CD} (h : c ∈ outP t z) : ∃ p ∈ z, pc p = c := by
  obtain ⟨p, hp, rfl⟩ := List.mem_map.1 h
  exact ⟨p, (List.takeWhile_sublist _).subset hp, rfl⟩
theorem outP_len (t : Int) (z : List PT) : (outP t z).length + (z.dropWhile (dueT t)).length = z.length := by
  rw [outP, List.length_map, ← List.length_append, List.takeWhile_append_dropWhile]
theorem dropW_mem {t : Int} {z : List PT} {p : PT} (h : p ∈ z.dropWhile (dueT t)) : p ∈ z := (List.dropWhile_sublist _).subset h
theorem CHN.rcv {a b se n h hn h2 hn2 t : Int} {z : List PT} (c : CHN a b se n h hn z) (hr : hn2 = hn ∧ h2 = h ∨ ∃ d ∈ outP t z, hn2 = d.2.2.2 ∧ h2 = d.2.2.1) : CHN a b se n h2 hn2 (z.dropWhile (dueT t)) := by
  have c' := c.sub (z' := z.dropWhile (dueT t)) fun p hp => dropW_mem hp
  rcases hr with ⟨rfl, rfl⟩ | ⟨d, hd, rfl, rfl⟩
  · exact c'
  · obtain ⟨p, hp, rfl⟩ := outP_mem hd
    exact ⟨c'.msg, (c.msg p hp).2.1, (c.msg p hp).2.2⟩
theorem INV.start {a b : Int} : INV a b 0 ((a, b, 0, 0, 0, 0), (b, a, 0, 0, 0, 0), (0, []), (0, [])) where
  ex := ⟨0, 0, 0, 0, 0, 0, 0, 0, rfl, rfl, by unfold GSc; omega, by unfold GSc; omega, ⟨fun p hp => by simp at hp, by omega, fun _ => rfl⟩, ⟨fun p hp => by simp at hp, by omega, fun _ => rfl⟩, by simp, by simp⟩
  ua := by simp
  ub := by simp
theorem INV.step {a b T t : Int} {Fa Fb : List Int} {w : Int × Int} {c : CY} (v : VA a b) (hT : 0 ≤ T ∧ T ≤ 100) (hw : 0 ≤ w.1 ∧ w.1 ≤ 2 ∧ 0 ≤ w.2 ∧ w.2 ≤ 2) (i : INV a b T c) : INV a b (T + 1) (cycP Fa Fb t w c) := by
  obtain ⟨⟨se, n, h, hn, se', n', h', hn', ex, ey, g, g', k, k', l, l'⟩, hua, hub⟩ := i
  obtain ⟨x, y, ⟨ua, za⟩, ⟨ub, zb⟩⟩ := c
  dsimp only at ex ey k k' l l' hua hub
  subst ex ey
  have hle := k.le
  have hle' := k'.le
  obtain ⟨se1, n1, e1, g1, p1, p2, p3⟩ := choose_ok (w := w.1) v g (by omega) (by omega) ⟨hw.1, hw.2.1⟩
  obtain ⟨se1', n1', e1', g1', p1', p2', p3'⟩ := choose_ok (w := w.2) v.symm g' (by omega) (by omega) ⟨hw.2.2.1, hw.2.2.2⟩
  have k1 := k.snd (se' := se1) (n' := n1) (by omega) (by omega)
  have k1' := k'.snd (se' := se1') (n' := n1') (by omega) (by omega)
  obtain ⟨k2, l2, u1, u2⟩ := k1.say (F := Fa) (t := t) (u := ua) v g1 (by omega) (by omega)
  obtain ⟨k2', l2', u1', u2'⟩ := k1'.say (F := Fb) (t := t) (u := ub) v.symm g1' (by omega) (by omega)
  unfold cycP
  dsimp only
  rw [e1, e1']
  dsimp only
  generalize sayP (a, b, se1, n1, h, hn) Fa t (ua, za) = A at *
  generalize sayP (b, a, se1', n1', h', hn') Fb t (ub, zb) = B at *
  obtain ⟨ua1, za1⟩ := A
  obtain ⟨ub1, zb1⟩ := B
  dsimp only at k2 l2 u1 u2 k2' l2' u1' u2' ⊢
  have o1 := outP_len t za1
  have o2 := outP_len t zb1
  obtain ⟨se2, n2, h2, hn2, e2, g2, q1, q2, q3, q4, q5, q6, q7, q8, q9⟩ := recv_ok v (outP t zb1) g1 (by omega) (by omega) fun c hc => by
    obtain ⟨p, hp, rfl⟩ := outP_mem hc
    exact (k2'.msg p hp).1
  replace q6 := HD.mk q6
  replace q9 := HD.mk q9
  obtain ⟨se2', n2', h2', hn2', e2', g2', q1', q2', q3', q4', q5', q6', q7', q8', q9'⟩ := recv_ok v.symm (outP t za1) g1' (by omega) (by omega) fun c hc => by
    obtain ⟨p, hp, rfl⟩ := outP_mem hc
    exact (k2.msg p hp).1
  have r := (k2.rcv q6').snd (se' := se2) (n' := n2) q2 q4
  have r' := (k2'.rcv q6.h).snd (se' := se2') (n' := n2') q2' q4'
  clear q6 q6' q9 q9'
  exact ⟨⟨se2, n2, h2, hn2, se2', n2', h2', hn2', e2, e2', g2, g2', r, r', by dsimp only; omega, by dsimp only; omega⟩, by dsimp only; omega, by dsimp only; omega⟩
def soundM (x y : SD) : Bool :=
  (!agreedM x y || safeM x y) && (if leadsM x then decide (y.2.2.2.2.2 ≠ x.2.2.2.1) else decide (x.2.2.2.2.2 ≠ y.2.2.2.1)) || safeM x y
theorem INV.sound {a b T : Int} {c : CY} (v : VA a b) (i : INV a b T c) : soundM c.1 c.2.1 = true := by
  obtain ⟨⟨se, n, h, hn, se', n', h', hn', ex, ey, g, g', k, k', l, l'⟩, hua, hub⟩ := i
  rw [ex, ey]
  unfold soundM agreedM safeM leadsM likeM
  dsimp only
  have k3 := k.eq
  have k4 := k'.eq
  have g3 := g.2.2.2.2.2.2.2.2
  have g4 := g'.2.2.2.2.2.2.2.2
  have v5 := v.2.2.2.2
  by_cases e : se ≠ 0 ∧ se = se'
  · have h1 : ¬ (hn' = n ∧ a < b) := fun hh => by have := k3 hh.1; have := g4 (by omega); omega
    have h2 : ¬ (hn = n' ∧ ¬ a < b) := fun hh => by have := k4 hh.1; have := g3 (by omega); omega
    by_cases hab : a < b
    · have h3 : ¬ hn' = n := fun hh => h1 ⟨hh, hab⟩
      simp [hab, h3]
    · have h3 : ¬ hn = n' := fun hh => h2 ⟨hh, hab⟩
      simp [hab, h3]
  · simp [e]
/-- All meetings of a run satisfy what an invariant says. -/
theorem runP_all {P : SD → SD → Prop} {a b : Int} {Fa Fb : List Int} (v : VA a b) (hP : ∀ T c, INV a b T c → P c.1 c.2.1) : ∀ (l : List (Int × Int)) (t T : Int) (c : CY), INV a b T c → 0 ≤ T → T + l.length ≤ 100 → (∀ w ∈ l, 0 ≤ w.1 ∧ w.1 ≤ 2 ∧ 0 ≤ w.2 ∧ w.2 ≤ 2) → ∀ m ∈ runP Fa Fb t l c, P m.1 m.2
  | [], t, T, c, _, _, _, _, m, hm => by simp [runP] at hm
  | w :: l, t, T, c, i, h0, h1, hw, m, hm => by
    simp only [List.length_cons] at h1
    have i2 := i.step (Fa := Fa) (Fb := Fb) (t := t) v ⟨h0, by omega⟩ (hw w List.mem_cons_self)
    rcases List.mem_cons.1 hm with rfl | hm
    · exact hP _ _ i2
    · exact runP_all v hP l _ _ _ i2 (by omega) (by omega) (fun w hw' => hw w (List.mem_cons_of_mem _ hw')) m hm
end Go.Ab

