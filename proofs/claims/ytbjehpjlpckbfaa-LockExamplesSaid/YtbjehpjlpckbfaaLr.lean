/- The table's methods as contracts in the caller's state. -/
import Derived.Test.YtbjehpjlpckbfaaLq
set_option linter.unusedSimpArgs false
set_option linter.unusedVariables false
set_option maxRecDepth 20000
set_option maxHeartbeats 8000000
namespace Go.Ab
open Go.Proofs
structure TAB (c : Int) (n : Nat) (l : LE) : Prop where
 ok : MOK l c
 c0 : 0 ≤ c
 nl : l.length = n
 n1 : n ≤ 16
 v : ∀ e ∈ l, e.2.1.1 = e.1 ∧ 0 ≤ e.1 ∧ e.1 ≤ 16777215 ∧ 0 ≤ e.2.1.2.1 ∧ e.2.1.2.1 ≤ 2
theorem TAB.empty : TAB 0 0 [] := ⟨⟨by simp, by simp, by simp⟩, by omega, rfl, by omega, by simp⟩
theorem TAB.live {c : Int} {n : Nat} {l : LE} (h : TAB c n l) (t : Int) : TAB c (liveL t l).length (liveL t l) :=
 ⟨h.ok.sub (liveL_sub _ _), h.c0, rfl, by have := (liveL_sub t l).length_le; have := h.nl; have := h.n1; omega, fun e he => h.v e ((liveL_sub _ _).subset he)⟩
theorem TAB.put {c : Int} {n : Nat} {l : LE} (h : TAB c n l) {a : Int} {v : LKV} {l' : LE} {c' : Int} (hp : MPut l a v c l' c') (hv : v.1 = a ∧ 0 ≤ a ∧ a ≤ 16777215 ∧ 0 ≤ v.2.1 ∧ v.2.1 ≤ 2) (hn : MNot l a → l.length ≠ 16) : TAB c' l'.length l' := by
 rcases hp with ⟨l1, v0, b, l2, e, h1, rfl, rfl⟩ | ⟨hno, rfl, rfl⟩
 · have hok := h.ok
   rw [e] at hok
   refine ⟨⟨fun x hx => ?_, ?_, ?_⟩, h.c0, rfl, ?_, fun x hx => ?_⟩
   · rcases List.mem_append.1 hx with hx | hx
     · exact hok.b x (by simp [hx])
     · rcases List.mem_cons.1 hx with rfl | hx
       · exact hok.b (a, v0, b) (by simp)
       · exact hok.b x (by simp [hx])
   · have := hok.nb
     rw [List.pairwise_append, List.pairwise_cons] at this ⊢
     refine ⟨this.1, ⟨fun x hx => this.2.1.1 x hx, this.2.1.2⟩, fun x hx y hy => ?_⟩
     rcases List.mem_cons.1 hy with rfl | hy
     · exact this.2.2 x hx (a, v0, b) (by simp)
     · exact this.2.2 x hx y (by simp [hy])
   · have := hok.nk
     rw [List.pairwise_append, List.pairwise_cons] at this ⊢
     refine ⟨this.1, ⟨fun x hx => this.2.1.1 x hx, this.2.1.2⟩, fun x hx y hy => ?_⟩
     rcases List.mem_cons.1 hy with rfl | hy
     · exact this.2.2 x hx (a, v0, b) (by simp)
     · exact this.2.2 x hx y (by simp [hy])
   · have := h.nl; have := h.n1
     rw [e] at *
     simp only [List.length_append, List.length_cons] at *; omega
   · rcases List.mem_append.1 hx with hx | hx
     · exact h.v x (by rw [e]; simp [hx])
     · rcases List.mem_cons.1 hx with rfl | hx
       · exact hv
       · exact h.v x (by rw [e]; simp [hx])
 · refine ⟨⟨fun x hx => ?_, ?_, ?_⟩, by have := h.c0; omega, rfl, ?_, fun x hx => ?_⟩
   · rcases List.mem_append.1 hx with hx | hx
     · have := h.ok.b x hx; omega
     · obtain rfl := List.mem_singleton.1 hx
       exact ⟨h.c0, by show c < c + 1; omega⟩
   · rw [List.pairwise_append]
     refine ⟨h.ok.nb, by simp, fun x hx y hy => ?_⟩
     obtain rfl := List.mem_singleton.1 hy
     have := h.ok.b x hx
     show x.2.2 ≠ c
     omega
   · rw [List.pairwise_append]
     refine ⟨h.ok.nk, by simp, fun x hx y hy => ?_⟩
     obtain rfl := List.mem_singleton.1 hy
     exact hno x hx
   · have := hn hno; have := h.nl; have := h.n1
     simp only [List.length_append, List.length_singleton]; omega
   · rcases List.mem_append.1 hx with hx | hx
     · exact h.v x hx
     · obtain rfl := List.mem_singleton.1 hx
       exact hv
theorem TAB.set {k tw c : Int} {n : Nat} {l : LE} {t : Int} {ch : Int × Int × Int × Int} {e tw' c' : Int} {l' : LE} (h : TAB c n l) (hR : SETR k tw c l t ch e tw' l' c') (hse : 0 ≤ ch.2.2.1) : TAB c' l'.length l' := by
 cases hR with
 | «at» => rw [h.nl]; exact h
 | chk => rw [h.nl]; exact h
 | full => rw [h.nl]; exact h
 | ok _ _ h1 h2 h3 =>
   obtain ⟨a, to, se, m⟩ := ch
   have hl := h.live t
   obtain ⟨k1, k2, _, _, _, k3, _⟩ := lchk_ok h2
   rcases h3 with ⟨v, b, _, _, rfl, rfl⟩ | ⟨v, b, hh, hle, hp⟩ | ⟨hn, hne, hp⟩
   · exact hl
   · refine hl.put hp ?_ (fun hn => absurd hn hh.not)
     unfold newV
     split
     · exact ⟨rfl, k1, k2, hse, k3⟩
     · obtain ⟨l1, l2, e, _⟩ := hh
       have := hl.v (a, v, b) (by rw [e]; simp)
       exact ⟨this.1, k1, k2, this.2.2.2.1, this.2.2.2.2⟩
   · exact hl.put hp ⟨rfl, k1, k2, hse, k3⟩ fun _ => hne
theorem SETR_ex (k tw c : Int) (l : LE) (t : Int) (ch : Int × Int × Int × Int) : ∃ e tw' l' c', SETR k tw c l t ch e tw' l' c' := by
 by_cases h1 : atE tw t = 0
 · by_cases h2 : lcheckM ch = 0
   · by_cases h3 : MNot (liveL t l) ch.1 ∧ (liveL t l).length = 16
     · exact ⟨_, _, _, _, .full h1 h2 h3.1 h3.2⟩
     · rcases MHas_or (liveL t l) ch.1 with hn | ⟨v, b, hh⟩
       · obtain ⟨l', c', hp⟩ := MPut_ex (liveL t l) ch.1 (ch.1, (ch.2.2.1, (ch.2.2.2, t + k))) c
         exact ⟨_, _, _, _, .ok l' c' h1 h2 (.inr (.inr ⟨hn, fun h => h3 ⟨hn, h⟩, hp⟩))⟩
       · by_cases hv : v.2.2.1 > ch.2.2.2
         · exact ⟨_, _, _, _, .ok _ _ h1 h2 (.inl ⟨v, b, hh, hv, rfl, rfl⟩)⟩
         · obtain ⟨l', c', hp⟩ := MPut_ex (liveL t l) ch.1 (newV k t ch v) c
           exact ⟨_, _, _, _, .ok l' c' h1 h2 (.inr (.inl ⟨v, b, hh, by omega, hp⟩))⟩
   · exact ⟨_, _, _, _, .chk h1 h2⟩
 · exact ⟨_, _, _, _, .at h1⟩
theorem TICKR_ex (tw : Int) (l : LE) (t : Int) : ∃ e tw' l', TICKR tw l t e tw' l' := by
 by_cases h1 : atE tw t = 0
 · exact ⟨_, _, _, .ok h1⟩
 · exact ⟨_, _, _, .at h1⟩
def tabAt (a : Nat) (st : StS) (K : Nat → Int → Int → Int → Nat → LE → Prop) : Prop := match nthD st.box a with
 | some B => (match B.cells with
   | [.p (.v (.int .i64 k)), .p (.v (.int .i64 w)), .mref b] => mapAt b st fun c n l => K b k w c n l
   | _ => False)
 | none => False
theorem tabAt_some {a : Nat} {st : StS} {K : Nat → Int → Int → Int → Nat → LE → Prop} (h : tabAt a st K) : ∃ b k w c n l, K b k w c n l := by
 unfold tabAt at h
 repeat' split at h
 all_goals first | (obtain ⟨_, _, _, h⟩ := mapAt_some h; exact ⟨_, _, _, _, _, _, h⟩) | exact h.elim
structure SETK (k tw c : Int) (n : Nat) (l : LE) (t : Int) (ch : Int × Int × Int × Int) (K : Int → Int → Int → Nat → LE → Prop) : Prop where
 tab : TAB c n l
 kp : 1 ≤ k ∧ k ≤ 60
 tw0 : 0 ≤ tw
 h : ∀ e tw' c' n' l', SETR k tw c l t ch e tw' l' c' → n' = l'.length → K e tw' c' n' l'
def spSet : OpsS → CallS := fun _ _ ds st K => match ds with
 | [.ptr a 0, .p (.v (.int .i64 t)), x] => (match getT tChoice x with
   | some ch => tabAt a st fun b k w c n l => SETK k w c n l t (ch.1, (ch.2.1, (ch.2.2.1, ch.2.2.2))) fun e w' c' n' l' => frS [a, b] [] [.ptr 0 0, .p (iv t), injT tChoice ch] (tabS k w c n l) (.p (iv e)) (tabE k w' c' n' l') ds st K
   | none => False)
 | _ => False
theorem tSet : ∀ ds st K, spSet OpsS.real 14 ds st K → FnS Try.prog 14 ds st K := fun ds st K h => by
 unfold spSet at h
 split at h
 · split at h
   · rename_i t x _ ch _
     obtain ⟨b, k, w, c, n, l, h⟩ := tabAt_some h
     obtain ⟨h1, h2, h3, h4⟩ := h
     obtain ⟨a', to, se, m⟩ := ch
     obtain ⟨e, w', l', c', hR⟩ := SETR_ex k w c l t (a', (to, (se, m)))
     exact frS_ok (cSet k w c n l t a' to se m e w' c' _ l' hR rfl h1.ok h1.c0 h1.nl h1.n1 h2 h3) (h4 _ _ _ _ _ hR rfl)
   · exact h.elim
 · exact h.elim
structure TICKK (tw c : Int) (n : Nat) (l : LE) (t : Int) (K : Int → Int → Nat → LE → Prop) : Prop where
 tab : TAB c n l
 tw0 : 0 ≤ tw
 h : ∀ e tw' n' l', TICKR tw l t e tw' l' → n' = l'.length → K e tw' n' l'
def spTick : OpsS → CallS := fun _ _ ds st K => match ds with
 | [.ptr a 0, .p (.v (.int .i64 t))] => tabAt a st fun b k w c n l => TICKK w c n l t fun e w' n' l' => frS [a, b] [] [.ptr 0 0, .p (iv t)] (tabS k w c n l) (.p (iv e)) (tabE k w' c n' l') ds st K
 | _ => False
theorem tTick : ∀ ds st K, spTick OpsS.real 16 ds st K → FnS Try.prog 16 ds st K := fun ds st K h => by
 unfold spTick at h
 split at h
 · rename_i t
   obtain ⟨b, k, w, c, n, l, h⟩ := tabAt_some h
   obtain ⟨h1, h3, h4⟩ := h
   obtain ⟨e, w', l', hR⟩ := TICKR_ex w l t
   exact frS_ok (cTick k w c n l t e w' _ l' hR rfl h1.ok h1.c0 h1.nl h1.n1 h3) (h4 _ _ _ _ hR rfl)
 · exact h.elim
structure SENK (c : Int) (n : Nat) (l : LE) (x : Int) (K : Int → Prop) : Prop where
 tab : TAB c n l
 h : ∀ s, SENS l x s → K s
structure LOKK (c : Int) (n : Nat) (l : LE) (K : List LKV → Nat → Prop) : Prop where
 tab : TAB c n l
 h : ∀ R r, R = locksL l → r = R.length * 4 → K R r
def spLocks : OpsS → CallS := fun _ _ ds st K => match ds with
 | [.ptr a 0] => tabAt a st fun b k w c n l => LOKK c n l fun R r => frS [a, b] [] [.ptr 0 0] (tabS k w c n l) (.og 0 tLock R) ⟨(tabS k w c n l).box, [(r, 50)]⟩ ds st K
 | _ => False
theorem tLocks : ∀ ds st K, spLocks OpsS.real 18 ds st K → FnS Try.prog 18 ds st K := fun ds st K h => by
 unfold spLocks at h
 split at h
 · obtain ⟨b, k, w, c, n, l, h⟩ := tabAt_some h
   obtain ⟨h1, h4⟩ := h
   exact frS_ok (cLocks k w c n l _ _ rfl rfl h1.ok h1.c0 h1.nl (by have := h1.n1; omega) (fun e he => by have := h1.v e he; omega)) (h4 _ _ rfl rfl)
 · exact h.elim
structure NEWK (k : Int) (A B : Prop) : Prop where
 t : (1 ≤ k ∧ k ≤ 60) → A
 f : ¬ (1 ≤ k ∧ k ≤ 60) → B
def spNew : OpsS → CallS := fun _ _ ds st K => match ds with
 | [.p (.v (.int .i64 k))] => NEWK k (frS [] [] [.p (iv k)] ⟨[], []⟩ (.tup [.ptr 0 0, .p (iv 0)]) (tabS k 0 0 0 []) ds st K) (frS [] [] [.p (iv k)] ⟨[], []⟩ (.tup [.p (.v (.pointer none)), .p (iv 1)]) ⟨[], []⟩ ds st K)
 | _ => False
theorem tNew : ∀ ds st K, spNew OpsS.real 12 ds st K → FnS Try.prog 12 ds st K := fun ds st K h => by
 unfold spNew at h
 split at h
 · rename_i k
   by_cases hk : 1 ≤ k ∧ k ≤ 60
   · exact frS_ok (cNew k hk) (h.t hk)
   · exact frS_ok (cNewX k hk) (h.f hk)
 · exact h.elim
end Go.Ab
