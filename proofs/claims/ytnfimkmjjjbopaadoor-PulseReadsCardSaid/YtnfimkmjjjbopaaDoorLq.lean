/- Plain laws of trains: merging, shifting, growing. -/
import Derived.Test.YtnfimkmjjjbopaaDoorLp
set_option linter.unusedSimpArgs false
set_option linter.unusedVariables false
set_option maxRecDepth 20000
namespace Go.Ab
abbrev TL := Option Bool × List Int
theorem mrgT_bad {l : List TL} (h : mrgE l ≠ 0) : mrgT l = [] := by rw [mrgT, if_pos h]
theorem shiT_bad {t : List Int} {n : Int} (h : shiE t n ≠ 0) : shiT t n = [] := by rw [shiT, if_pos h]
theorem shiT_ok {t : List Int} {n : Int} (h : shiE t n = 0) : shiT t n = t.map (· + n) := by rw [shiT, if_neg (by simp [h])]
theorem onB_cons {t : TL} {l : List TL} {n : Int} : onB (t :: l) n = (t.2.contains n || onB l n) := rfl
theorem onB_nil {n : Int} : onB [] n = false := rfl
/-- Two merged trains are the same if they have the same slots. -/
theorem mrgT_congr {l m : List TL} (h : mrgE l = 0) (h' : mrgE m = 0) (e : ∀ x, onB l x = onB m x) : mrgT l = mrgT m := by
  rw [mrgT_eq h, mrgT_eq h']; exact slP_congr fun x _ _ => e x
theorem mrgT_eq_of {l : List TL} {c : List Int} (h : mrgE l = 0) (hc : chkE c = 0) (e : ∀ x, onB l x = c.contains x) : mrgT l = c := by
  rw [mrgT_eq h, ← slP_of hc]; rw [slP_of hc]
  conv => rhs; rw [← slP_of hc]
  exact slP_congr fun x _ _ => e x
theorem mrgE_cons {a : TL} {l : List TL} (h : (a :: l).length ≤ 8) : mrgE (a :: l) = 0 ↔ chkE a.2 = 0 ∧ ∀ t ∈ l, chkE t.2 = 0 := by
  rw [mrgE_iff]; simp at h; simp; omega
theorem mrg2 {a b : TL} : mrgE [a, b] = 0 ↔ chkE a.2 = 0 ∧ chkE b.2 = 0 := by rw [mrgE_iff]; simp
theorem mrg1 {a : TL} : mrgE [a] = 0 ↔ chkE a.2 = 0 := by rw [mrgE_iff]; simp
theorem mrg3 {a b c : TL} : mrgE [a, b, c] = 0 ↔ chkE a.2 = 0 ∧ chkE b.2 = 0 ∧ chkE c.2 = 0 := by rw [mrgE_iff]; simp
/-! ### Shifting -/
theorem chkP_lo {y : Int} : ∀ {t : List Int}, chkP y t = true → ∀ x ∈ t, gtR tI t 0 ≤ x
  | [], _, x, hx => by simp at hx
  | n :: l, h, x, hx => by
    have e : gtR tI (n :: l) 0 = n := rfl
    rw [e]
    rcases List.mem_cons.1 hx with rfl | hx
    · exact Int.le_refl _
    · rw [chkP] at h
      split at h
      · cases h
      · exact Int.le_of_lt (chkP_gt h x hx).1
theorem chkP_hi {y : Int} : ∀ {t : List Int}, chkP y t = true → ∀ x ∈ t, x ≤ gtR tI t (t.length - 1)
  | [], _, x, hx => by simp at hx
  | [n], h, x, hx => by
    have e : gtR tI [n] (([n] : List Int).length - 1) = n := rfl
    rw [e]; simp at hx; omega
  | n :: m :: l, h, x, hx => by
    have e : gtR tI (n :: m :: l) ((n :: m :: l).length - 1) = gtR tI (m :: l) ((m :: l).length - 1) := by
      unfold gtR
      rw [show (((n :: m :: l).length : Int) - 1).toNat = (((m :: l).length : Int) - 1).toNat + 1 by simp only [List.length_cons]; omega]
      rfl
    rw [e]
    rw [chkP] at h
    split at h
    · cases h
    · rcases List.mem_cons.1 hx with rfl | hx
      · have h1 := chkP_hi h m (by simp)
        have h2 := chkP_gt h m (by simp)
        omega
      · exact chkP_hi h x hx
theorem gtR_mem0 {t : List Int} (h : t ≠ []) : gtR tI t 0 ∈ t := gtR_mem (t := tI) (by omega) (by have := List.length_pos_iff.2 h; omega)
theorem gtR_memL {t : List Int} (h : t ≠ []) : gtR tI t (t.length - 1) ∈ t := gtR_mem (t := tI) (by have := List.length_pos_iff.2 h; omega) (by omega)
theorem shiE_iff {t : List Int} {n : Int} (h : chkE t = 0) : shiE t n = 0 ↔ ∀ x ∈ t, 0 ≤ x + n ∧ x + n < 1024 := by
  unfold shiE
  rw [if_neg (by simp [h])]
  have hc := chkE_iff.1 h
  by_cases h0 : t = []
  · subst h0; simp
  · have hl := List.length_pos_iff.2 h0
    rw [if_neg (by omega)]
    have l1 := chkP_lo hc
    have l2 := chkP_hi hc
    have m1 := gtR_mem0 h0
    have m2 := gtR_memL h0
    obtain ⟨u, hu⟩ : ∃ u : Int, u = gtR tI t 0 := ⟨_, rfl⟩
    obtain ⟨v, hv⟩ : ∃ v : Int, v = gtR tI t (t.length - 1) := ⟨_, rfl⟩
    rw [← hu] at m1 ⊢
    rw [← hv] at m2 ⊢
    have l1' : ∀ x ∈ t, u ≤ x := fun x hx => by rw [hu]; exact l1 x hx
    have l2' : ∀ x ∈ t, x ≤ v := fun x hx => by rw [hv]; exact l2 x hx
    clear l1 l2
    constructor
    · intro hh x hx
      split at hh
      · cases hh
      · have := l1' x hx; have := l2' x hx; omega
    · intro hh
      have := hh _ m1; have := hh _ m2
      rw [if_neg (by omega)]
theorem shiE_chk {t : List Int} {n : Int} (h : shiE t n = 0) : chkE t = 0 := by
  unfold shiE at h; split at h
  · exact absurd h ‹_›
  · simp_all
theorem chkP_map {n : Int} : ∀ {t : List Int} {y : Int}, chkP y t = true → (∀ x ∈ t, x + n < 1024) → chkP (y + n) (t.map (· + n)) = true
  | [], _, _, _ => rfl
  | x :: l, y, h, hb => by
    rw [chkP] at h
    split at h
    · cases h
    · rw [List.map_cons, chkP, if_neg (by have := hb x (by simp); omega)]
      exact chkP_map h fun z hz => hb z (by simp [hz])
theorem chkP_ge : ∀ {t : List Int} {y z : Int}, chkP y t = true → (∀ x ∈ t, z < x) → chkP z t = true
  | [], _, _, _, _ => rfl
  | x :: l, y, z, h, hb => by
    rw [chkP] at h ⊢
    split at h
    · cases h
    · rw [if_neg (by have := hb x (by simp); omega)]; exact h
theorem shiT_chk {t : List Int} {n : Int} (h : shiE t n = 0) : chkE (shiT t n) = 0 := by
  have hc := shiE_chk h
  have hb := (shiE_iff hc).1 h
  rw [shiT_ok h, chkE_iff]
  refine chkP_ge (chkP_map (chkE_iff.1 hc) fun x hx => (hb x hx).2) fun x hx => ?_
  obtain ⟨z, hz, rfl⟩ := List.mem_map.1 hx
  have := (hb z hz).1; show -1 < z + n; omega
theorem shiT_mem {t : List Int} {n x : Int} (h : shiE t n = 0) : x ∈ shiT t n ↔ x - n ∈ t := by
  rw [shiT_ok h, List.mem_map]
  constructor
  · rintro ⟨z, hz, rfl⟩; show z + n - n ∈ t; rwa [show z + n - n = z by omega]
  · intro hx; exact ⟨x - n, hx, by show x - n + n = x; omega⟩
theorem shiT_con {t : List Int} {n x : Int} (h : shiE t n = 0) : (shiT t n).contains x = t.contains (x - n) := by
  rw [Bool.eq_iff_iff, List.contains_iff_mem, List.contains_iff_mem, shiT_mem h]
/-! ### Merging -/
section
variable {na nb nc nx : Option Bool} {a b c : List Int} {n : Int}
theorem mrg_ok (h : mrgE [(na, a), (nb, b)] = 0) : chkE a = 0 ∧ chkE b = 0 := mrg2.1 h
theorem mrg_flip : mrgE [(na, a), (nb, b)] = 0 → mrgE [(nb, b), (na, a)] = 0 ∧ mrgT [(nb, b), (na, a)] = mrgT [(na, a), (nb, b)] := fun h => by
  have h' : mrgE [(nb, b), (na, a)] = 0 := by rw [mrg2] at h ⊢; exact ⟨h.2, h.1⟩
  exact ⟨h', mrgT_congr h' h fun x => by simp only [onB_cons, onB_nil, Bool.or_false]; exact Bool.or_comm _ _⟩
theorem mrg_idem (h : mrgE [(na, a), (nb, b)] = 0) : mrgE [(na, a), (nx, mrgT [(na, a), (nb, b)])] = 0 ∧ mrgT [(na, a), (nx, mrgT [(na, a), (nb, b)])] = mrgT [(na, a), (nb, b)] := by
  have h' : mrgE [(na, a), (nx, mrgT [(na, a), (nb, b)])] = 0 := by rw [mrg2]; exact ⟨(mrg2.1 h).1, mrgT_chk h⟩
  refine ⟨h', mrgT_congr h' h fun x => ?_⟩
  simp only [onB_cons, onB_nil, Bool.or_false]
  rw [on_mrgT h]
  simp only [onB_cons, onB_nil, Bool.or_false]
  cases a.contains x <;> simp
theorem mrg_same (h : chkE a = 0) : mrgE [(na, a)] = 0 ∧ mrgT [(na, a)] = a := by
  have h' : mrgE [(na, a)] = 0 := mrg1.2 h
  exact ⟨h', mrgT_eq_of h' h fun x => by simp [onB_cons, onB_nil]⟩
theorem mrg_shiE (h : mrgE [(na, a), (nb, b)] = 0) : shiE (mrgT [(na, a), (nb, b)]) n = 0 ↔ shiE a n = 0 ∧ shiE b n = 0 := by
  obtain ⟨h1, h2⟩ := mrg2.1 h
  rw [shiE_iff (mrgT_chk h), shiE_iff h1, shiE_iff h2]
  simp only [mem_mrgT h, List.mem_cons, List.mem_nil_iff, or_false, exists_eq_or_imp, exists_eq_left]
  exact ⟨fun h => ⟨fun x hx => h x (.inl hx), fun x hx => h x (.inr hx)⟩, fun h x hx => hx.elim (h.1 x) (h.2 x)⟩
theorem mrg_shiT (h : mrgE [(na, a), (nb, b)] = 0) (hs : shiE (mrgT [(na, a), (nb, b)]) n = 0) : mrgE [(nx, shiT a n), (nc, shiT b n)] = 0 ∧ mrgT [(nx, shiT a n), (nc, shiT b n)] = shiT (mrgT [(na, a), (nb, b)]) n := by
  obtain ⟨s1, s2⟩ := (mrg_shiE h).1 hs
  have h' : mrgE [(nx, shiT a n), (nc, shiT b n)] = 0 := mrg2.2 ⟨shiT_chk s1, shiT_chk s2⟩
  refine ⟨h', mrgT_eq_of h' (shiT_chk hs) fun x => ?_⟩
  simp only [onB_cons, onB_nil, Bool.or_false]
  rw [shiT_con s1, shiT_con s2, shiT_con hs, on_mrgT h]
  simp only [onB_cons, onB_nil, Bool.or_false]
theorem mrg_assoc (h : mrgE [(na, a), (nb, b)] = 0) (h2 : mrgE [(nb, b), (nc, c)] = 0) {n1 n2 : Option Bool} : mrgE [(n1, mrgT [(na, a), (nb, b)]), (nc, c)] = 0 ∧ mrgE [(na, a), (n2, mrgT [(nb, b), (nc, c)])] = 0 ∧ mrgE [(na, a), (nb, b), (nc, c)] = 0 ∧
    mrgT [(na, a), (n2, mrgT [(nb, b), (nc, c)])] = mrgT [(n1, mrgT [(na, a), (nb, b)]), (nc, c)] ∧ mrgT [(na, a), (nb, b), (nc, c)] = mrgT [(n1, mrgT [(na, a), (nb, b)]), (nc, c)] := by
  obtain ⟨a1, a2⟩ := mrg2.1 h
  obtain ⟨_, a3⟩ := mrg2.1 h2
  have k1 : mrgE [(n1, mrgT [(na, a), (nb, b)]), (nc, c)] = 0 := mrg2.2 ⟨mrgT_chk h, a3⟩
  have k2 : mrgE [(na, a), (n2, mrgT [(nb, b), (nc, c)])] = 0 := mrg2.2 ⟨a1, mrgT_chk h2⟩
  have k3 : mrgE [(na, a), (nb, b), (nc, c)] = 0 := mrg3.2 ⟨a1, a2, a3⟩
  refine ⟨k1, k2, k3, mrgT_congr k2 k1 fun x => ?_, mrgT_congr k3 k1 fun x => ?_⟩
  · simp only [onB_cons, onB_nil, Bool.or_false]
    rw [on_mrgT h, on_mrgT h2]
    simp only [onB_cons, onB_nil, Bool.or_false, Bool.or_assoc]
  · simp only [onB_cons, onB_nil, Bool.or_false]
    rw [on_mrgT h]
    simp only [onB_cons, onB_nil, Bool.or_false, Bool.or_assoc]
end
/-! ### Growing -/
theorem staE0 {t : List Int} (h : chkE t = 0) : staE t = 0 := by rw [staE_eq, h]
theorem stMp_mono {p q : Int → Bool} (h : ∀ x, p x = true → q x = true) {n : Int} (hp : stMp p n = true) : stMp q n = true := by
  simp only [stMp, List.all_cons, List.all_nil, Bool.and_eq_true, decide_eq_true_eq, Bool.and_true] at hp ⊢
  exact ⟨⟨hp.1.1, h _ hp.1.2⟩, ⟨hp.2.1.1, h _ hp.2.1.2⟩, ⟨hp.2.2.1.1, h _ hp.2.2.1.2⟩, ⟨hp.2.2.2.1, h _ hp.2.2.2.2⟩⟩
theorem sta_mono {s t : List Int} (hs : chkE s = 0) (ht : chkE t = 0) (h : ∀ x, s.contains x = true → t.contains x = true) {x : Int} (hx : x ∈ staT s) : x ∈ staT t := by
  rw [staT_eq hs, List.mem_filter] at hx
  rw [staT_eq ht, List.mem_filter]
  exact ⟨by have := h x (by simpa using hx.1); simpa using this, stMp_mono h hx.2⟩
theorem okP_mono {p q : Int → Bool} (h : ∀ x, p x = true → q x = true) {n : Int} : ∀ {j : Nat} {k : Int}, okP p n j k = true → okP q n j k = true
  | 0, _, _ => rfl
  | j + 1, k, hh => by
    simp only [okP, biPO, Bool.and_eq_true, Bool.or_eq_true] at hh ⊢
    exact ⟨hh.1.imp (h _) (h _), okP_mono h hh.2⟩
theorem biP_len {p : Int → Bool} {n : Int} : ∀ {j : Nat} {k : Int}, (biP p n j k).length = j
  | 0, _ => rfl
  | j + 1, k => by simp only [biP, List.length_cons, biP_len]
theorem biP_get {p : Int → Bool} {n : Int} : ∀ {j : Nat} {k i : Int}, 0 ≤ i → i < j → gtR tB (biP p n j k) i = biPV p n (k + i)
  | 0, _, i, h0, h1 => by omega
  | j + 1, k, i, h0, h1 => by
    by_cases e : i = 0
    · subst e; show biPV p n k = _; rw [Int.add_zero]
    · have := biP_get (p := p) (n := n) (j := j) (k := k + 1) (i := i - 1) (by omega) (by omega)
      unfold gtR at this ⊢
      rw [show i.toNat = (i - 1).toNat + 1 by omega, biP]
      rw [show k + 1 + (i - 1) = k + i by omega] at this
      exact this
theorem biPV_mono {p q : Int → Bool} (h : ∀ x, p x = true → q x = true) {n k : Int} (ho : biPO p n k = true) : biPV p n k = biPV q n k ∨ biPV q n k = 2 := by
  unfold biPO at ho
  unfold biPV
  have h1 := h (n + 16 + 2 * k)
  have h2 := h (n + 16 + 2 * k + 1)
  revert ho h1 h2
  cases p (n + 16 + 2 * k) <;> cases p (n + 16 + 2 * k + 1) <;> cases q (n + 16 + 2 * k) <;> cases q (n + 16 + 2 * k + 1) <;> simp
theorem okP_get {p : Int → Bool} {n : Int} : ∀ {j : Nat} {k i : Int}, okP p n j k = true → 0 ≤ i → i < j → biPO p n (k + i) = true
  | 0, _, i, _, h0, h1 => by omega
  | j + 1, k, i, h, h0, h1 => by
    simp only [okP, Bool.and_eq_true] at h
    by_cases e : i = 0
    · subst e; rw [Int.add_zero]; exact h.1
    · have := okP_get (i := i - 1) h.2 (by omega) (by omega)
      rwa [show k + 1 + (i - 1) = k + i by omega] at this
theorem reaP_ok {c : Int} {p : Int → Bool} {n : Int} {lg : Bool} : reaP c p n lg = 0 ↔ c = 0 ∧ 0 ≤ n ∧ n ≤ 1008 - 2 * reaM lg ∧ stMp p n = true ∧ okP p n (reaM lg) 0 = true := by
  unfold reaP
  split
  · rename_i h; exact ⟨fun hh => absurd hh h, fun hh => absurd hh.1 h⟩
  · split
    · simp; omega
    · split
      · simp_all
      · split
        · simp_all
        · rename_i h1 h2 h3 h4
          simp only [Bool.not_eq_false] at h3 h4
          simp only [true_iff]
          exact ⟨by simpa using h1, by omega, by omega, h3, h4⟩
theorem reaP_mono {p q : Int → Bool} (h : ∀ x, p x = true → q x = true) {n : Int} {lg : Bool} (hr : reaP 0 p n lg = 0) : reaP 0 q n lg = 0 := by
  rw [reaP_ok] at hr ⊢
  exact ⟨rfl, hr.2.1, hr.2.2.1, stMp_mono h hr.2.2.2.1, okP_mono h hr.2.2.2.2⟩
theorem rea_len {t : List Int} {n : Int} {lg : Bool} (h : reaE t n lg = 0) : (reaB t n lg).length = reaM lg := by rw [reaB_eq h, biP_len]
theorem rea_mono {s t : List Int} (hs : chkE s = 0) (ht : chkE t = 0) (h : ∀ x, s.contains x = true → t.contains x = true) {n : Int} {lg : Bool} (hr : reaE s n lg = 0) : reaE t n lg = 0 ∧ (reaB t n lg).length = (reaB s n lg).length ∧
    ∀ k : Int, 0 ≤ k → k < (reaB s n lg).length → gtR tB (reaB s n lg) k = gtR tB (reaB t n lg) k ∨ gtR tB (reaB t n lg) k = 2 := by
  have h1 : reaP 0 (fun x => s.contains x) n lg = 0 := by rw [← hs, ← reaE_eq, hr]; exact hs.symm
  have h2 : reaE t n lg = 0 := by rw [reaE_eq, ht]; exact reaP_mono h h1
  refine ⟨h2, by rw [rea_len h2, rea_len hr], fun k h0 hk => ?_⟩
  rw [rea_len hr] at hk
  rw [reaB_eq hr, reaB_eq h2, biP_get h0 (by omega), biP_get h0 (by omega)]
  have ho := okP_get (reaP_ok.1 h1).2.2.2.2 h0 (by omega)
  exact biPV_mono h ho
/-! ### Reading what was made -/
def gB (l : List Int) (i : Nat) : Int := gtR tB l i
theorem makS_len : ∀ {l : List Int} {k : Int}, (makS k l).length = l.length
  | [], _ => rfl
  | x :: l, k => by simp only [makS, List.length_cons, makS_len]
theorem makS_chk : ∀ {l : List Int} {k y : Int}, (∀ x ∈ l, 0 ≤ x ∧ x ≤ 1) → 0 ≤ k → 16 + 2 * (k + l.length) ≤ 1024 → y < 16 + 2 * k → chkP y (makS k l) = true
  | [], _, _, _, _, _, _ => rfl
  | x :: l, k, y, h, h0, h1, hy => by
    have := h x (by simp)
    simp only [List.length_cons] at h1
    rw [makS, chkP, if_neg (by omega)]
    exact makS_chk (fun z hz => h z (by simp [hz])) (by omega) (by omega) (by omega)
theorem makS_mem : ∀ {l : List Int} {k x : Int}, x ∈ makS k l ↔ ∃ i : Nat, i < l.length ∧ x = 16 + 2 * (k + i) + 1 - gB l i
  | [], k, x => by simp [makS]
  | y :: l, k, x => by
    rw [makS, List.mem_cons, makS_mem]
    constructor
    · rintro (rfl | ⟨i, hi, rfl⟩)
      · exact ⟨0, by simp, by show _ = 16 + 2 * (k + (0 : Nat)) + 1 - y; simp⟩
      · refine ⟨i + 1, by simpa using hi, ?_⟩
        rw [show gB (y :: l) (i + 1) = gB l i from rfl]
        omega
    · rintro ⟨i, hi, rfl⟩
      cases i with
      | zero => left; show 16 + 2 * (k + (0 : Nat)) + 1 - y = _; simp
      | succ i =>
        right
        refine ⟨i, by simpa using hi, ?_⟩
        rw [show gB (y :: l) (i + 1) = gB l i from rfl]
        omega
theorem mak_ok {b : List Int} (h : makE b = 0) (h0 : ∀ x ∈ b, 0 ≤ x) : (b.length = 56 ∨ b.length = 112) ∧ (∀ x ∈ b, 0 ≤ x ∧ x ≤ 1) ∧ makT b = [0, 2, 7, 9] ++ makS 0 b := by
  have hT : makT b = [0, 2, 7, 9] ++ makS 0 b := by rw [makT, if_neg (by simp [h])]
  unfold makE at h
  split at h
  · exact absurd h ‹_›
  · rename_i hb
    simp only [ne_eq, Decidable.not_not] at hb
    split at h
    · cases h
    · exact ⟨by omega, fun x hx => ⟨h0 x hx, bitsE_mem hb x hx⟩, hT⟩
theorem mak_chk {b : List Int} (h : makE b = 0) (h0 : ∀ x ∈ b, 0 ≤ x) : chkE (makT b) = 0 := by
  obtain ⟨h1, h2, h3⟩ := mak_ok h h0
  rw [h3, chkE_iff]
  have := makS_chk (k := 0) (y := 9) h2 (by omega) (by omega) (by omega)
  simp [chkP, this]
theorem mak_mem {b : List Int} (h : makE b = 0) (h0 : ∀ x ∈ b, 0 ≤ x) {x : Int} : x ∈ makT b ↔ x = 0 ∨ x = 2 ∨ x = 7 ∨ x = 9 ∨ ∃ i : Nat, i < b.length ∧ x = 16 + 2 * i + 1 - gB b i := by
  obtain ⟨h1, h2, h3⟩ := mak_ok h h0
  rw [h3, List.mem_append, makS_mem]
  simp [or_assoc]
theorem okP_of {p : Int → Bool} {n : Int} : ∀ {j : Nat} {k : Int}, (∀ i : Int, k ≤ i → i < k + j → biPO p n i = true) → okP p n j k = true
  | 0, _, _ => rfl
  | j + 1, k, h => by
    rw [okP, h k (by omega) (by omega), Bool.true_and]
    exact okP_of fun i h0 h1 => h i (by omega) (by omega)
theorem biP_of {p : Int → Bool} {n : Int} : ∀ {l : List Int} {k : Int}, (∀ i : Nat, i < l.length → biPV p n (k + i) = gB l i) → biP p n l.length k = l
  | [], _, _ => rfl
  | x :: l, k, h => by
    show biPV p n k :: biP p n l.length (k + 1) = _
    rw [biP_of (l := l) fun i hi => by
      have := h (i + 1) (by simpa using hi)
      rw [show gB (x :: l) (i + 1) = gB l i from rfl] at this
      rw [← this]; congr 1; omega]
    have := h 0 (by simp)
    rw [show gB (x :: l) 0 = x from rfl] at this
    rw [← this]; simp
/-- A train alone is read without garbled bits. -/
theorem read_made {b : List Int} {n : Int} (h : makE b = 0) (h0 : ∀ x ∈ b, 0 ≤ x) (hs : shiE (makT b) n = 0) (hn : 0 ≤ n) (hf : n + 15 + 2 * b.length < 1024) :
    reaE (shiT (makT b) n) n (decide (b.length = 112)) = 0 ∧ reaB (shiT (makT b) n) n (decide (b.length = 112)) = b ∧ n ∈ staT (shiT (makT b) n) ∧ chkE (shiT (makT b) n) = 0 := by
  obtain ⟨h1, h2, h3⟩ := mak_ok h h0
  have hc := shiT_chk hs
  have hM : reaM (decide (b.length = 112)) = b.length := by unfold reaM; rcases h1 with h1 | h1 <;> simp [h1]
  have hin : ∀ x, (shiT (makT b) n).contains x = true ↔ x - n = 0 ∨ x - n = 2 ∨ x - n = 7 ∨ x - n = 9 ∨ ∃ i : Nat, i < b.length ∧ x - n = 16 + 2 * i + 1 - gB b i := fun x => by
    rw [List.contains_iff_mem, shiT_mem hs, mak_mem h h0]
  have hb : ∀ i : Nat, i < b.length → 0 ≤ gB b i ∧ gB b i ≤ 1 := fun i hi => h2 _ (gtR_mem (t := tB) (by omega) (by omega))
  have hst : stMp (fun x => (shiT (makT b) n).contains x) n = true := by
    simp only [stMp, List.all_cons, List.all_nil, Bool.and_eq_true, decide_eq_true_eq, Bool.and_true, hin]
    refine ⟨⟨by omega, by omega⟩, ⟨by omega, by omega⟩, ⟨by omega, by omega⟩, by omega, by omega⟩
  have e1 : ∀ i : Nat, i < b.length → ((shiT (makT b) n).contains (n + 16 + 2 * i) = true ↔ gB b i = 1) := fun i hi => by
    rw [hin]
    constructor
    · rintro (hh | hh | hh | hh | ⟨j, hj, hh⟩)
      · omega
      · omega
      · omega
      · omega
      · have a1 := hb i hi
        have a2 := hb j hj
        obtain ⟨u, hu⟩ : ∃ u : Int, u = gB b j := ⟨_, rfl⟩
        rw [← hu] at hh a2
        have : j = i := by omega
        subst this
        rw [← hu]; omega
    · intro hh
      refine .inr (.inr (.inr (.inr ⟨i, hi, ?_⟩)))
      rw [hh]; omega
  have e2 : ∀ i : Nat, i < b.length → ((shiT (makT b) n).contains (n + 16 + 2 * i + 1) = true ↔ gB b i = 0) := fun i hi => by
    rw [hin]
    constructor
    · rintro (hh | hh | hh | hh | ⟨j, hj, hh⟩)
      · omega
      · omega
      · omega
      · omega
      · have a1 := hb i hi
        have a2 := hb j hj
        obtain ⟨u, hu⟩ : ∃ u : Int, u = gB b j := ⟨_, rfl⟩
        rw [← hu] at hh a2
        have : j = i := by omega
        subst this
        rw [← hu]; omega
    · intro hh
      refine .inr (.inr (.inr (.inr ⟨i, hi, ?_⟩)))
      rw [hh]; omega
  have hv : ∀ i : Nat, i < b.length → biPV (fun x => (shiT (makT b) n).contains x) n (0 + i) = gB b i := fun i hi => by
    have f1 := e1 i hi
    have f2 := e2 i hi
    have f3 := hb i hi
    rw [Int.zero_add]
    unfold biPV
    obtain ⟨u, hu⟩ : ∃ u : Int, u = gB b i := ⟨_, rfl⟩
    rw [← hu] at f1 f2 f3 ⊢
    by_cases hu1 : u = 1
    · rw [if_pos (f1.2 hu1), if_neg (fun hh => by have := f2.1 hh; omega), hu1]
    · rw [if_neg (fun hh => hu1 (f1.1 hh))]; omega
  have hr : reaE (shiT (makT b) n) n (decide (b.length = 112)) = 0 := by
    rw [reaE_eq, reaP_ok]
    refine ⟨hc, hn, by rw [hM]; omega, hst, ?_⟩
    rw [hM]
    refine okP_of fun i i0 i1 => ?_
    have hi : i.toNat < b.length := by omega
    have f1 := e1 i.toNat hi
    have f2 := e2 i.toNat hi
    have f3 := hb i.toNat hi
    rw [show ((i.toNat : Nat) : Int) = i by omega] at f1 f2
    unfold biPO
    rw [Bool.or_eq_true]
    obtain ⟨u, hu⟩ : ∃ u : Int, u = gB b i.toNat := ⟨_, rfl⟩
    rw [← hu] at f1 f2 f3
    by_cases hu1 : u = 1
    · exact .inl (f1.2 hu1)
    · exact .inr (f2.2 (by omega))
  refine ⟨hr, ?_, ?_, hc⟩
  · rw [reaB_eq hr, hM]; exact biP_of hv
  · rw [staT_eq hc, List.mem_filter]
    refine ⟨?_, hst⟩
    have := (hin n).2 (by omega)
    simpa using this
end Go.Ab

