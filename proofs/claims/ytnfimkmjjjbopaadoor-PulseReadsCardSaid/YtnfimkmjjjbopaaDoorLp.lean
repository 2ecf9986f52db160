/- Plain laws of trains: a sweep is a set of slots. -/
import Derived.Test.YtnfimkmjjjbopaaDoorLh
set_option linter.unusedSimpArgs false
set_option linter.unusedVariables false
set_option maxRecDepth 20000
namespace Go.Ab
def slP (p : Int → Bool) : Nat → List Int
  | 0 => []
  | m + 1 => if p (1024 - (m + 1 : Nat)) then (1024 - (m + 1 : Nat) : Int) :: slP p m else slP p m
theorem slF_eq (S : List Bool) : ∀ m, slF S m = slP (fun n => gtR .bool S n) m
  | 0 => rfl
  | m + 1 => by rw [slF, slP, slF_eq S m]
theorem slP_congr {p q : Int → Bool} : ∀ {m : Nat}, (∀ x : Int, 1024 - m ≤ x → x < 1024 → p x = q x) → slP p m = slP q m
  | 0, _ => rfl
  | m + 1, h => by
    rw [slP, slP, h _ (by omega) (by omega), slP_congr (m := m) fun x h1 h2 => h x (by omega) h2]
theorem mem_slP {p : Int → Bool} {x : Int} : ∀ {m : Nat}, x ∈ slP p m ↔ 1024 - m ≤ x ∧ x < 1024 ∧ p x = true
  | 0 => by simp [slP]; omega
  | m + 1 => by
    have ih := mem_slP (p := p) (x := x) (m := m)
    rw [slP]
    by_cases e : x = 1024 - (m + 1 : Nat)
    · split
      · rename_i hp
        rw [← e] at hp
        exact ⟨fun _ => ⟨by omega, by omega, hp⟩, fun _ => by rw [e]; exact List.mem_cons_self⟩
      · rename_i hp
        rw [← e] at hp
        rw [ih]; exact ⟨fun h => absurd h.1 (by omega), fun h => absurd h.2.2 hp⟩
    · split
      · rw [List.mem_cons, ih]; constructor
        · rintro (h | h); exact absurd h e; exact ⟨by omega, h.2⟩
        · rintro h; exact .inr ⟨by omega, h.2⟩
      · rw [ih]; constructor
        · rintro h; exact ⟨by omega, h.2⟩
        · rintro h; exact ⟨by omega, h.2⟩
theorem chk_slP {p : Int → Bool} : ∀ {m : Nat} {y : Int}, y < 1024 - m → chkP y (slP p m) = true
  | 0, y, _ => rfl
  | m + 1, y, h => by
    rw [slP]
    split
    · rw [chkP, if_neg (by omega)]; exact chk_slP (by omega)
    · exact chk_slP (by omega)
theorem chkP_low {y z : Int} : ∀ {l : List Int}, chkP y l = true → z ≤ y → chkP z l = true
  | [], _, _ => rfl
  | n :: l, h, hz => by
    rw [chkP] at h ⊢
    split at h
    · cases h
    · rw [if_neg (by omega)]; exact h
theorem chkP_gt {y : Int} : ∀ {l : List Int}, chkP y l = true → ∀ x ∈ l, y < x ∧ x < 1024
  | [], _, x, hx => by simp at hx
  | n :: l, h, x, hx => by
    rw [chkP] at h
    split at h
    · cases h
    · rcases List.mem_cons.1 hx with rfl | hx
      · omega
      · have := chkP_gt h x hx; omega
theorem slP_self : ∀ {m : Nat} {t : List Int}, chkP (1023 - m) t = true → slP (fun n => t.contains n) m = t
  | 0, [], _ => rfl
  | 0, n :: l, h => by have := chkP_gt h n (by simp); omega
  | m + 1, [], h => by rw [slP]; simp; exact slP_self (m := m) (t := []) rfl
  | m + 1, n :: l, h => by
    have hg := chkP_gt h
    rw [slP]
    by_cases e : n = 1024 - (m + 1 : Nat)
    · have hl : chkP (1023 - m) l = true := by
        rw [chkP] at h
        split at h
        · cases h
        · exact chkP_low h (by omega)
      rw [if_pos (by simp [e])]
      have := slP_self hl
      rw [← e, slP_congr (q := fun n => l.contains n), this]
      intro x h1 h2
      have : x ≠ n := by omega
      simp [this]
    · have hn := hg n (by simp)
      have hc : chkP (1023 - m) (n :: l) = true := by
        rw [chkP] at h ⊢
        split at h
        · cases h
        · rw [if_neg (by omega)]; exact h
      rw [if_neg, slP_self hc]
      intro h2
      have h3 := chkP_gt hc _ (by simpa using h2)
      omega
theorem chkE_iff {t : List Int} : chkE t = 0 ↔ chkP (-1) t = true := by
  unfold chkE; split <;> simp_all
theorem slP_of {t : List Int} (h : chkE t = 0) : slP (fun n => t.contains n) 1024 = t := slP_self (chkE_iff.1 h)
theorem gtR_norm {S : List Bool} {n : Int} (h0 : 0 ≤ n) (h1 : n < 1024) : gtR .bool (Ty.norm .bool 1024 S) n = gtR .bool S n := by
  have h : n.toNat < 1024 := by omega
  rw [gtR, List.getD_eq_getElem?_getD, Ty.norm_get .bool S h]; rfl
theorem gtR_up {S : List Bool} {k n : Int} (hk : 0 ≤ k) (hk1 : k < 1024) (h0 : 0 ≤ n) (h1 : n < 1024) : gtR .bool (upR .bool 1024 S k true) n = (decide (n = k) || gtR .bool S n) := by
  rw [← gtR_norm (S := S) h0 h1]
  have hl := Ty.norm_length .bool 1024 S
  unfold gtR upR
  rw [List.getD_eq_getElem?_getD, List.getD_eq_getElem?_getD, List.getElem?_set]
  by_cases e : n = k
  · subst e; rw [if_pos rfl, if_pos (by rw [hl]; omega)]; simp
  · rw [if_neg (by omega)]; simp [e]
theorem gtR_swS {n : Int} (h0 : 0 ≤ n) (h1 : n < 1024) : ∀ {l : List Int} {S : List Bool}, (∀ x ∈ l, 0 ≤ x ∧ x < 1024) → gtR .bool (swS S l) n = (l.contains n || gtR .bool S n)
  | [], S, _ => by show gtR .bool S n = _; simp
  | x :: l, S, h => by
    have hx := h x (by simp)
    show gtR .bool (swS (upR .bool 1024 S x true) l) n = _
    rw [gtR_swS h0 h1 (l := l) fun y hy => h y (by simp [hy]), gtR_up hx.1 hx.2 h0 h1, List.contains_cons, ← Bool.or_assoc, Bool.or_comm (l.contains n)]
    simp [show (n == x) = decide (n = x) from rfl]
theorem swO_ok {n : Int} (h0 : 0 ≤ n) (h1 : n < 1024) : ∀ {l : List (Option Bool × List Int)} {S : List Bool}, (swO S l).2 = 0 → gtR .bool (swO S l).1 n = (l.any (fun t => t.2.contains n) || gtR .bool S n)
  | [], S, _ => by simp [swO]
  | t :: l, S, h => by
    rw [swO] at h ⊢
    split at h
    · exact absurd h ‹_›
    · rename_i hc
      rw [if_neg hc, swO_ok h0 h1 h, gtR_swS h0 h1 (chkE_rng (by simpa using hc)), List.any_cons, ← Bool.or_assoc, Bool.or_comm (l.any _)]
theorem swO_err : ∀ {l : List (Option Bool × List Int)} {S : List Bool}, (swO S l).2 = 0 ↔ ∀ t ∈ l, chkE t.2 = 0
  | [], S => by simp [swO]
  | t :: l, S => by
    rw [swO]
    split
    · rename_i h; simp; intro h2; exact absurd h2 h
    · rename_i h; rw [swO_err]; simp at h; simp [h]
def onB (l : List (Option Bool × List Int)) (n : Int) : Bool := l.any fun t => t.2.contains n
theorem swA_on {l : List (Option Bool × List Int)} {n : Int} (h0 : 0 ≤ n) (h1 : n < 1024) (h : swE l = 0) : gtR .bool (swA l) n = onB l n := by
  rw [swA, swO_ok h0 h1 h]; rw [show gtR .bool [] n = false by rw [gtR]; rfl, Bool.or_false]; rfl
theorem swE_iff {l : List (Option Bool × List Int)} : swE l = 0 ↔ ∀ t ∈ l, chkE t.2 = 0 := swO_err
theorem swE1' {nt : Option Bool} {t : List Int} : swE [(nt, t)] = chkE t := by
  simp only [swE, swO]; split <;> simp_all
theorem mrgT_eq {l : List (Option Bool × List Int)} (h : mrgE l = 0) : mrgT l = slP (onB l) 1024 := by
  have hs : swE l = 0 := by unfold mrgE at h; split at h; cases h; exact h
  rw [mrgT, if_neg (by simp [h]), slF_eq]
  exact slP_congr fun x h1 h2 => swA_on (by omega) h2 hs
theorem mrgE_iff {l : List (Option Bool × List Int)} : mrgE l = 0 ↔ l.length ≤ 8 ∧ ∀ t ∈ l, chkE t.2 = 0 := by
  unfold mrgE
  split
  · simp; omega
  · rw [swE_iff]; simp; omega
theorem mrgT_chk {l : List (Option Bool × List Int)} (h : mrgE l = 0) : chkE (mrgT l) = 0 := by
  rw [mrgT_eq h, chkE_iff]; exact chk_slP (by omega)
theorem mem_mrgT {l : List (Option Bool × List Int)} {x : Int} (h : mrgE l = 0) : x ∈ mrgT l ↔ ∃ t ∈ l, x ∈ t.2 := by
  rw [mrgT_eq h, mem_slP]
  simp only [onB, List.any_eq_true, List.contains_iff_mem]
  constructor
  · rintro ⟨_, _, h⟩; exact h
  · rintro ⟨t, ht, hx⟩
    have := chkE_rng ((mrgE_iff.1 h).2 t ht) x hx
    exact ⟨by omega, by omega, t, ht, hx⟩
theorem on_mrgT {l : List (Option Bool × List Int)} {x : Int} (h : mrgE l = 0) : (mrgT l).contains x = onB l x := by
  rw [Bool.eq_iff_iff, List.contains_iff_mem, mem_mrgT h]
  simp [onB]
theorem swA_one {t : List Int} {n : Int} (h0 : 0 ≤ n) (h1 : n < 1024) (h : chkE t = 0) : gtR .bool (swA [(none, t)]) n = t.contains n := by
  rw [swA_on h0 h1 (by rw [swE1', h])]; simp [onB]
def stMp (p : Int → Bool) (n : Int) : Bool := [0, 2, 7, 9].all fun k => decide (n + k < 1024) && p (n + k)
theorem stM_p {S : List Bool} {p : Int → Bool} {n : Int} (hn : 0 ≤ n) (h : ∀ x, 0 ≤ x → x < 1024 → gtR .bool S x = p x) : stM S n = stMp p n := by
  rw [Bool.eq_iff_iff, stM_iff]
  simp only [stC, stMp, List.all_cons, List.all_nil, Bool.and_eq_true, decide_eq_true_eq, Bool.and_true]
  constructor
  · rintro ⟨h1, h2, h3, h4⟩
    exact ⟨⟨h1.1, by rw [← h _ (by omega) h1.1]; exact h1.2⟩, ⟨h2.1, by rw [← h _ (by omega) h2.1]; exact h2.2⟩, ⟨h3.1, by rw [← h _ (by omega) h3.1]; exact h3.2⟩, ⟨h4.1, by rw [← h _ (by omega) h4.1]; exact h4.2⟩⟩
  · rintro ⟨h1, h2, h3, h4⟩
    exact ⟨⟨h1.1, by rw [h _ (by omega) h1.1]; exact h1.2⟩, ⟨h2.1, by rw [h _ (by omega) h2.1]; exact h2.2⟩, ⟨h3.1, by rw [h _ (by omega) h3.1]; exact h3.2⟩, ⟨h4.1, by rw [h _ (by omega) h4.1]; exact h4.2⟩⟩
def biPO (p : Int → Bool) (n k : Int) : Bool := p (n + 16 + 2 * k) || p (n + 16 + 2 * k + 1)
def biPV (p : Int → Bool) (n k : Int) : Int := if p (n + 16 + 2 * k) then (if p (n + 16 + 2 * k + 1) then 2 else 1) else 0
def okP (p : Int → Bool) (n : Int) : Nat → Int → Bool
  | 0, _ => true
  | j + 1, k => biPO p n k && okP p n j (k + 1)
def biP (p : Int → Bool) (n : Int) : Nat → Int → List Int
  | 0, _ => []
  | j + 1, k => biPV p n k :: biP p n j (k + 1)
theorem okL_p {S : List Bool} {p : Int → Bool} {n : Int} (hn : 0 ≤ n) (h : ∀ x, 0 ≤ x → x < 1024 → gtR .bool S x = p x) : ∀ {j : Nat} {k : Int}, 0 ≤ k → n + 16 + 2 * (k + j) ≤ 1024 → okL S n j k = okP p n j k ∧ biL S n j k = biP p n j k
  | 0, k, _, _ => ⟨rfl, rfl⟩
  | j + 1, k, h0, h1 => by
    obtain ⟨i1, i2⟩ := okL_p hn h (j := j) (k := k + 1) (by omega) (by omega)
    have e1 := h (n + 16 + 2 * k) (by omega) (by omega)
    have e2 := h (n + 16 + 2 * k + 1) (by omega) (by omega)
    exact ⟨by rw [okL, okP, i1, biO, biPO, e1, e2], by rw [biL, biP, i2, biV, biPV, e1, e2]⟩
def reaP (c : Int) (p : Int → Bool) (n : Int) (lg : Bool) : Int := if c ≠ 0 then c else if n < 0 ∨ n > 1008 - 2 * reaM lg then 7 else if stMp p n = false then 9 else if okP p n (reaM lg) 0 = false then 9 else 0
theorem staE_eq {t : List Int} : staE t = chkE t := swE1'
theorem rea_eq (t : List Int) (n : Int) (lg : Bool) : reaE t n lg = reaP (chkE t) (fun x => t.contains x) n lg ∧ (reaE t n lg = 0 → reaB t n lg = biP (fun x => t.contains x) n (reaM lg) 0) := by
  unfold reaB
  unfold reaE reaP
  rw [staE_eq]
  by_cases hc : chkE t = 0
  · simp only [hc, ne_eq, not_true_eq_false, if_false]
    by_cases hn : n < 0 ∨ n > 1008 - 2 * reaM lg
    · simp [hn]
    · simp only [hn, if_false]
      have h : ∀ x, 0 ≤ x → x < 1024 → gtR .bool (swA [(none, t)]) x = (fun x => t.contains x) x := fun x h0 h1 => swA_one h0 h1 hc
      have hn0 : 0 ≤ n := by omega
      obtain ⟨h1, h2⟩ := okL_p hn0 h (j := reaM lg) (k := 0) (by omega) (by omega)
      rw [stM_p hn0 h, h1, h2]
      refine ⟨rfl, fun h => ?_⟩
      rw [if_neg (fun hh => hh h)]
  · simp [hc]
theorem reaE_eq (t : List Int) (n : Int) (lg : Bool) : reaE t n lg = reaP (chkE t) (fun x => t.contains x) n lg := (rea_eq t n lg).1
theorem reaB_eq {t : List Int} {n : Int} {lg : Bool} (h : reaE t n lg = 0) : reaB t n lg = biP (fun x => t.contains x) n (reaM lg) 0 := (rea_eq t n lg).2 h
theorem slP_filter {p q : Int → Bool} : ∀ {m : Nat}, slP (fun n => p n && q n) m = (slP p m).filter q
  | 0 => rfl
  | m + 1 => by
    rw [slP, slP, slP_filter (m := m)]
    by_cases hp : p (1024 - (m + 1 : Nat)) = true
    · by_cases hq : q (1024 - (m + 1 : Nat)) = true
      · rw [if_pos (by rw [hp, hq]; rfl), if_pos hp, List.filter_cons_of_pos hq]
      · rw [if_neg (by rw [hp]; simpa using hq), if_pos hp, List.filter_cons_of_neg hq]
    · rw [if_neg (by rw [Bool.and_eq_true]; exact fun hh => hp hh.1), if_neg hp]
theorem stF_eq (S : List Bool) : ∀ m, stF S m = slP (fun n => gtR .bool S n && stM S n) m
  | 0 => rfl
  | m + 1 => by rw [stF, slP, stF_eq S m]
theorem staT_eq {t : List Int} (h : chkE t = 0) : staT t = t.filter (stMp fun x => t.contains x) := by
  rw [staT, if_neg (by rw [staE_eq]; simp [h]), stF_eq]
  have h2 : ∀ x, 0 ≤ x → x < 1024 → gtR .bool (swA [(none, t)]) x = (fun x => t.contains x) x := fun x h0 h1 => swA_one h0 h1 h
  rw [slP_congr (q := fun n => t.contains n && stMp (fun x => t.contains x) n) fun x h0 h1 => by rw [h2 x (by omega) h1, stM_p (by omega) h2], slP_filter, slP_of h]
/-- A merged train, found by other means. -/
theorem mrgT_is {l : List (Option Bool × List Int)} {c : List Int} (h : mrgE l = 0) (hc : chkE c = 0) (h1 : (c.all fun x => onB l x) = true) (h2 : (l.all fun t => t.2.all fun x => c.contains x) = true) : mrgT l = c := by
  rw [mrgT_eq h, ← slP_of hc]
  refine slP_congr fun x _ _ => ?_
  rw [Bool.eq_iff_iff]
  simp only [List.all_eq_true, List.contains_iff_mem] at h1 h2 ⊢
  constructor
  · intro hx
    simp only [onB, List.any_eq_true, List.contains_iff_mem] at hx
    obtain ⟨t, ht, hx⟩ := hx
    exact h2 t ht x hx
  · exact h1 x
def insI (x : Int) : List Int → List Int
  | [] => [x]
  | y :: l => if x < y then x :: y :: l else if x = y then y :: l else y :: insI x l
def unI (a b : List Int) : List Int := a.foldr insI b
end Go.Ab

