/- The reference's Unpack. -/
import Derived.Test.YtbjehpjlpckbfaaLi
set_option linter.unusedSimpArgs false
set_option linter.unusedVariables false
set_option maxRecDepth 20000
set_option maxHeartbeats 4000000
namespace Go.Ab
open Go.Proofs
theorem cNumT (nb : Option Bool) (b : List Int) (f t : Int) (h : NUMP b f t) : PurS Try.prog 50 [injT (.sl tB) (nb, b), injT tI f, injT tI t] (.p (iv (getM b f (t - f)))) := cNum nb b f t _ rfl h
theorem numM_zero : ∀ {l : List Int}, BIT l → (numM l = 0 ↔ ∀ x ∈ l, x = 0)
  | [], _ => by simp [numM]
  | x :: l, h => by
    have hb : BIT l := fun y hy => h y (by simp [hy])
    have ih := numM_zero hb
    have hl := numM_lt hb
    have hp : (0 : Int) < 2 ^ l.length := Int.pow_pos (by decide)
    simp only [numM, List.mem_cons, forall_eq_or_imp]
    rcases h x (by simp) with rfl | rfl
    · rw [Int.zero_mul, Int.zero_add, ih]; simp
    · rw [Int.one_mul]; constructor
      · intro h; omega
      · intro h; omega
def formM (b : List Int) : Prop := ∀ j : Int, 0 ≤ j → j < 56 → (gtR tB b j : Int) ≤ 1 ∧ (46 ≤ j → (gtR tB b j : Int) = 0)
theorem gtR_of_mem {b : List Int} {x : Int} (h : x ∈ b) : ∃ j : Int, 0 ≤ j ∧ j < b.length ∧ gtR tB b j = x := by
  obtain ⟨i, hi⟩ := List.getElem?_of_mem h
  have hlt := (List.getElem?_eq_some_iff.1 hi).1
  refine ⟨i, by omega, by omega, ?_⟩
  simp [gtR, List.getD, hi]
theorem form_iff {b : List Int} (hl : b.length = 56) (h0 : ∀ x ∈ b, 0 ≤ x) : formM b ↔ bitsE b = 0 ∧ getM b 46 10 = 0 := by
  constructor
  · intro h
    have hbit : BIT b := fun x hx => by
      obtain ⟨j, h1, h2, rfl⟩ := gtR_of_mem hx
      have := (h j h1 (by omega)).1
      have := h0 _ hx
      have key : ∀ y : Int, 0 ≤ y → y ≤ 1 → y = 0 ∨ y = 1 := by omega
      exact key _ ‹_› ‹_›
    refine ⟨by unfold bitsE; rw [if_neg (by omega), bigB_bit hbit]; rfl, ?_⟩
    unfold getM
    rw [numM_zero fun x hx => hbit x (List.mem_of_mem_drop (List.mem_of_mem_take hx))]
    intro x hx
    obtain ⟨i, hi⟩ := List.getElem?_of_mem hx
    have hlt := (List.getElem?_eq_some_iff.1 hi).1
    rw [List.length_take, List.length_drop] at hlt
    rw [List.getElem?_take, if_pos (by omega), List.getElem?_drop] at hi
    have := (h (46 + i) (by omega) (by omega)).2 (by omega)
    rw [← this]
    have e : ((46 : Int) + i).toNat = (46 : Int).toNat + i := by omega
    simp only [gtR, List.getD, e, hi, Option.getD_some]
  · rintro ⟨h1, h2⟩ j hj0 hj1
    have hbit := BIT.of h0 h1
    have hm : gtR tB b j ∈ b := gtR_mem (t := tB) hj0 (by omega)
    refine ⟨by have key : ∀ y : Int, y = 0 ∨ y = 1 → y ≤ 1 := by omega
               exact key _ (hbit _ hm), fun hj => ?_⟩
    unfold getM at h2
    rw [numM_zero fun x hx => hbit x (List.mem_of_mem_drop (List.mem_of_mem_take hx))] at h2
    refine h2 _ ?_
    have hlt : j.toNat < b.length := by omega
    refine List.mem_of_getElem? (i := j.toNat - 46) ?_
    rw [List.getElem?_take, if_pos (by show j.toNat - 46 < 10; omega), List.getElem?_drop, show (46 : Int).toNat + (j.toNat - 46) = j.toNat by show 46 + (j.toNat - 46) = j.toNat; omega]
    simp [gtR, List.getD, hlt]
theorem cUnpackR (nb : Option Bool) (b : List Int) (to e : Int) (c : tChoice.den) (hc : c = unpC b to) (he : e = unpE b to) (h0 : ∀ x ∈ b, 0 ≤ x) (hto : -9223372036854775808 ≤ to ∧ to ≤ 9223372036854775807) (hbl : b.length ≤ maxLen) : PurS Try.prog 28 [injT (.sl tB) (nb, b), injT tI to] (.tup [.agg [.p (iv c.1), .p (iv c.2.1), .p (uv c.2.2.1), .p (iv c.2.2.2)], .p (iv e)]) := by
  refine PurS.of (S := [(32, _), (50, _)]) (T := []) (U := []) (tbl := []) (n := 54) hm32 cfg (.cons (spT1.ok (a := (.pair (.int .i64) (.pair (.int .i64) (.pair (.int .u8) (.int .i64))))) (pre := fun _ => True) fun x0 _ => cRChk x0.1 x0.2.1 x0.2.2.1 x0.2.2.2) (.cons (spT3.ok (a := (.sl (.int .u8))) (b := (.int .i64)) (c := (.int .i64)) fun x0 x1 x2 h => cNumT x0.1 x0.2 x1 x2 h) .nil)) .nil .nil .nil 0 Try.call28 Try.func28 (ac28_ok (some (0, 0))) (by rw [Try.ntmps28]; exact Nat.le_refl _) rfl ⟨_, rfl⟩ ?_
  intro cmp ar cv tn ic ai mx an ad ml sb mn ln em gt up ap sc vw cp rp p1 p2 s1 s2 X Y hX hY r0 r1 r2 r3 r4 r5 r6 r7 r8 r9 r10 r11 r12 r13 r14 r15 r16 r17 r18 r19 r20 r21 r22 r23 r24
  generalize hg0 : lcheckM = g0
  generalize hg1 : getM = g1
  cbv
  obtain ⟨c1, c2, c3, c4⟩ : Int × Int × Int × Int := c
  simp only [maxLen] at hbl
  have hE : e = if b.length < 56 then 3 else if b.length > 56 then 4 else if bitsE b ≠ 0 then 2 else if g1 b 46 10 ≠ 0 then 2 else g0 (unpF b to) := by rw [he, ← hg0, ← hg1]; rfl
  have hC : (c1, c2, c3, c4) = if e = 0 then (g1 b 0 24, to, g1 b 24 2, g1 b 26 20) else ((0 : Int), (0 : Int), (0 : Int), (0 : Int)) := by rw [hc, he, ← hg1]; rfl
  have hU : unpF b to = (g1 b 0 24, to, g1 b 24 2, g1 b 26 20) := by rw [← hg1]; rfl
  rw [hU] at hE
  have hlb : ∀ {x y : Int} {z w : Int}, (c1, c2, c3, c4) = (x, y, z, w) → c1 = x ∧ c2 = y ∧ c3 = z ∧ c4 = w := fun h => by simpa using h
  obtain ⟨q, hq⟩ : ∃ q : Int, q = b.length := ⟨_, rfl⟩
  have hln : ic (ln tB b) = q := by rw [r4, r12, hq]
  dsimp only
  rw [hln]
  have fin : ∀ x, e = x → x ≠ 0 → (0 = c1 ∧ 0 = c2 ∧ 0 = c3 ∧ 0 = c4 ∧ True) ∧ x = e ∧ True := fun x hx h => by
    rw [hx, if_neg h] at hC
    obtain ⟨h1, h2, h3, h4⟩ := hlb hC
    exact ⟨⟨h1.symm, h2.symm, h3.symm, h4.symm, trivial⟩, hx.symm, trivial⟩
  refine BR.lss r0 (fun hl => fin 3 (by rw [hE, if_pos (by omega)]) (by decide)) (fun hl => ?_)
  refine BR.gtr r0 (fun hl2 => fin 4 (by rw [hE, if_neg (by omega), if_pos (by omega)]) (by decide)) (fun hl2 => ?_)
  have hlen : b.length = 56 := by omega
  have hfm := form_iff hlen h0
  have hg146 : getM b 46 10 = g1 b 46 10 := by rw [hg1]
  rw [hg146] at hfm
  refine LOOP.ind (σ := Int) (fun i => [(0, .tl nb tB b), (1, .p (iv to)), (4, .ptr 0 0), (6, .p (iv i))]) (fun _ => ⟨[{ cells := [.p (iv 0), .p (iv 0), .p (uv 0), .p (iv 0)], e := 34, fz := false }], []⟩) (fun i => (56 - i).toNat) (fun i => 0 ≤ i ∧ i ≤ 56 ∧ ∀ j : Int, 0 ≤ j → j < i → (gtR tB b j : Int) ≤ 1 ∧ (46 ≤ j → (gtR tB b j : Int) = 0)) 0 ⟨by omega, by omega, fun j h1 h2 => by omega⟩ (.inl ⟨rfl, rfl⟩) ?_
  intro i hI X' hX
  obtain ⟨hI1, hI2, hI3⟩ := hI
  obtain ⟨x, hx⟩ : ∃ x : Int, x = gt tB b i := ⟨_, rfl⟩
  have hxr : x = gtR tB b i := by rw [hx, r14]
  have hadd : i < 56 → ar .add .i64 i 1 = i + 1 := fun h => by rw [r1]; exact wrap64 (n := i + 1) (by omega) (by omega)
  have hbad : i < 56 → (x > 1 ∨ (i ≥ 46 ∧ x ≠ 0)) → e = 2 := fun h1 h2 => by
    have hn : ¬ formM b := fun hf => by
      have h3 : x ≤ 1 ∧ (46 ≤ i → x = 0) := by rw [hxr]; exact hf i hI1 h1
      omega
    rw [hfm] at hn
    rw [hE, if_neg (by omega), if_neg (by omega)]
    by_cases hb : bitsE b = 0
    · rw [if_neg (by rw [hb]; simp), if_pos (fun h => hn ⟨hb, h⟩)]
    · rw [if_pos hb]
  cbv
  try simp only [nc_eq] at *
  rw [← hx, hln]
  have nxt : i < 56 → x ≤ 1 → (46 ≤ i → x = 0) → (0 ≤ i + 1 ∧ i + 1 ≤ 56 ∧ ∀ j : Int, 0 ≤ j → j < i + 1 → (gtR tB b j : Int) ≤ 1 ∧ (46 ≤ j → (gtR tB b j : Int) = 0)) := fun h1 h2 h3 => by
    refine ⟨by omega, by omega, fun j hj0 hj1 => ?_⟩
    by_cases hji : j < i
    · exact hI3 j hj0 hji
    · obtain rfl : j = i := by omega
      exact ⟨by rw [← hxr]; exact h2, fun h => by rw [← hxr]; exact h3 h⟩
  refine BR.lss r0 (fun h1 => ?_) (fun h1 => ?_)
  · rw [hadd h1]
    have hib : INB i q := ⟨hI1, by omega⟩
    refine ⟨hib, hib, BR.gtr r0 (fun h2 => fin 2 (hbad h1 (.inl h2)) (by decide)) fun h2 => BR.geq r0 (fun h3 => ⟨hib, hib, BR.neq r0 (fun h4 => fin 2 (hbad h1 (.inr ⟨h3, h4⟩)) (by decide)) fun h4 => NEXT.mk (hX _ _ _ (nxt h1 (by omega) fun _ => Classical.not_not.1 h4) (by show (56 - (i + 1)).toNat < (56 - i).toNat; omega) (.inl ⟨rfl, rfl⟩))⟩) fun h3 => NEXT.mk (hX _ _ _ (nxt h1 (by omega) fun h => absurd h (by omega)) (by show (56 - (i + 1)).toNat < (56 - i).toNat; omega) (.inl ⟨rfl, rfl⟩))⟩
  obtain rfl : i = 56 := by omega
  obtain ⟨hb, hz⟩ := hfm.1 hI3
  have hbit : BIT b := BIT.of h0 hb
  rw [if_neg (by omega), if_neg (by omega), if_neg (by rw [hb]; simp), if_neg (by rw [hz]; simp)] at hE
  have k2 : 0 ≤ g1 b 24 2 ∧ g1 b 24 2 < 4 := by rw [← hg1]; exact getM_lt hbit
  have hcv8 : cv .u8 (g1 b 24 (26 - 24)) = g1 b 24 2 := by
    rw [r2, show (26 : Int) - 24 = 2 from rfl]
    simp [IntKind.wrap, IntKind.signed, IntKind.bits]
    omega
  rw [hcv8, show (24 : Int) - 0 = 24 from rfl, show (46 : Int) - 26 = 20 from rfl]
  have num : ∀ f t : Int, 0 ≤ f → f ≤ t → t ≤ 56 → t - f ≤ 60 → NUMP b f t := fun f t h1 h2 h3 h4 => ⟨hbit, h1, h2, by rw [hlen]; exact h3, h4, by rw [hlen]; decide⟩
  refine ⟨num _ _ (by decide) (by decide) (by decide) (by decide), num _ _ (by decide) (by decide) (by decide) (by decide), num _ _ (by decide) (by decide) (by decide) (by decide), BR.neq r0 (fun h => fin _ hE h) (fun h => ?_)⟩
  have h := Classical.not_not.1 h
  rw [h] at hE
  rw [hE, if_pos rfl] at hC
  obtain ⟨q1, q2, q3, q4⟩ := hlb hC
  exact ⟨⟨q1.symm, q2.symm, q3.symm, q4.symm, trivial⟩, hE.symm, trivial⟩
end Go.Ab

