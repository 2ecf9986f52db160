/- Pack and Unpack undo one another: plain laws. -/
import Derived.Test.YtbjehpjlpckbfaaLj
set_option linter.unusedSimpArgs false
set_option linter.unusedVariables false
set_option maxRecDepth 20000
set_option maxHeartbeats 4000000
namespace Go.Ab
open Go.Proofs Go.RowKit
theorem PurS.weak {P : Program} {f : FuncId} {xs : List DC} {d d' : DC} (h : PurS P f xs d) (hle : leS [] [] d d') {x' : PD} (hx : d'.conc = .p x') : PurS P f xs d' := by
  obtain ⟨x, hd, h1, h2⟩ := h
  refine ⟨x', hx, h1, fun G w vs hG hgl hs hR => (h2 G w vs hG hgl hs hR).mono ?_⟩
  rintro e w' ⟨v, G', rfl, g1, g2, g3, hb, hr⟩
  refine ⟨v, G', rfl, g1, g2, g3, hb, ?_⟩
  have hnm : Nm (fN []) (fN []) (noE G') (noE G') := ⟨rfl, fun j i x h => by simp [fN, nthD] at h, fun j i t h => by simp [fN, nthD] at h⟩
  have := leS_sound _ _ hle (noE G') (noE G') v hnm (by rw [hd]; exact .p _ _ hr)
  rw [hx] at this
  exact this.p_inv
theorem OwnL.pur {P : Program} {f : FuncId} {xs : List DC} {t : Ty} {e : TypeId} {l : List t.den} {y : PD} (h : OwnL P f xs t e l (shT y)) (hy : lePD y y) : PurS P f xs (.tup [.tl none t l, .p y]) := by
  by_cases hl : l = []
  · have h1 := (h.nil hl).pur (x := .tup [.sl (some true) 0 [], y]) (by
      simp only [shT, DC.conc, concL]
      show viewD [] 3 (mkTup [.p (.sl (some true) 0 []), .p y]) = _
      simp [mkTup, allP, viewD])
    subst hl
    refine PurS.weak (d := .tup [.p (.sl (some true) 0 []), .p y]) ⟨_, ?_, h1⟩ ?_ (x' := .tup [.sl none 0 [], y]) ?_
    · simp only [DC.conc, concL]; simp [mkTup, allP]
    · simp only [leS, leSs]; exact ⟨⟨nlLe_none.2 trivial, trivial⟩, hy, trivial⟩
    · simp only [DC.conc, concL]; simp [mkTup, allP]
  · have h1 := (h.box hl).pur (x := .tup [.sl (some false) l.length (t.rows l), y]) (by
      simp only [shT, DC.conc, concL]
      have e1 : concCs [DC.arr l.length t l] = (t.rows l).map .p := by rw [concCs_cons, concCs_nil, List.append_nil]; simp only [cellS, arrCells, Ty.norm_eq t rfl]
      rw [e1]
      show viewD [_] 3 (.tup [.ms 0 (0 + 0 * t.size) l.length, .p y]) = _
      have hv := view_ps [⟨(t.rows l).map .p, e, false, false, false⟩] 1 (t.rows l)
      simp only [viewD, List.map_cons, List.map_nil, Nat.zero_mul, Nat.add_zero, List.getElem?_cons_zero, Option.bind_some, Bool.false_eq_true, if_false, List.drop_zero, hv, Option.map_some]
      rfl)
    refine PurS.weak (d := .tup [.tl (some false) t l, .p y]) ⟨_, ?_, h1⟩ ?_ (x' := .tup [.sl none l.length (t.rows l), y]) ?_
    · simp only [DC.conc, concL]; simp [mkTup, allP]
    · simp only [leS, leSs]; exact ⟨⟨nlLe_none.2 trivial, lstEq_refl t l⟩, hy, trivial⟩
    · simp only [DC.conc, concL]; simp [mkTup, allP]
theorem numM_enc {v : Int} : ∀ {n : Nat}, 0 ≤ v → numM (encM v n) = v % 2 ^ n
  | 0, h => by simp [encM, numM, Int.emod_one]
  | n + 1, h => by
    simp only [encM, numM, encM_len, numM_enc (n := n) h]
    obtain ⟨m, rfl⟩ : ∃ m : Nat, v = m := ⟨v.toNat, by omega⟩
    have := Nat.mod_mul (x := m) (a := 2 ^ n) (b := 2)
    have e : ((m % (2 ^ n * 2) : Nat) : Int) = ((m % 2 ^ n + 2 ^ n * (m / 2 ^ n % 2) : Nat) : Int) := by rw [this]
    simp only [Int.natCast_emod, Int.natCast_mul, Int.natCast_pow, Int.natCast_add, Int.natCast_ediv] at e
    rw [Int.pow_succ]
    show (m : Int) / 2 ^ n % 2 * 2 ^ n + m % 2 ^ n = m % (2 ^ n * 2)
    have e' : (m : Int) % (2 ^ n * 2) = m % 2 ^ n + 2 ^ n * (m / 2 ^ n % 2) := e
    rw [e', Int.mul_comm ((2 : Int) ^ n)]
    exact Int.add_comm _ _
theorem enc_num : ∀ {l : List Int}, BIT l → ∀ a : Int, encM (a * 2 ^ l.length + numM l) l.length = l
  | [], _, a => rfl
  | x :: l, h, a => by
    have hb : BIT l := fun y hy => h y (by simp [hy])
    have hl := numM_lt hb
    have hp : (0 : Int) < 2 ^ l.length := Int.pow_pos (by decide)
    have e1 : a * 2 ^ (l.length + 1) + (x * 2 ^ l.length + numM l) = (2 * a + x) * 2 ^ l.length + numM l := by
      rw [Int.pow_succ, Int.add_mul, Int.mul_comm 2 a, Int.mul_assoc a, Int.mul_comm 2 (2 ^ l.length), Int.add_assoc]
    simp only [List.length_cons, numM, encM]
    rw [e1, enc_num hb]
    congr 1
    rw [Int.add_comm, Int.add_mul_ediv_right _ _ (by omega), Int.ediv_eq_zero_of_lt hl.1 hl.2]
    rcases h x (by simp) with rfl | rfl <;> omega
theorem packL_get (a t se m : Int) : (packL (a, (t, (se, m)))).length = 56 ∧ ((packL (a, (t, (se, m)))).drop (0 : Int).toNat).take (24 : Int).toNat = encM a 24 ∧ ((packL (a, (t, (se, m)))).drop (24 : Int).toNat).take (2 : Int).toNat = encM se 2 ∧
    ((packL (a, (t, (se, m)))).drop (26 : Int).toNat).take (20 : Int).toNat = encM m 20 ∧ ((packL (a, (t, (se, m)))).drop (46 : Int).toNat).take (10 : Int).toNat = List.replicate 10 0 := ⟨rfl, rfl, rfl, rfl, rfl⟩
theorem packL_bit (c : tChoice.den) : BIT (packL c) := fun x hx => by
  unfold packL at hx
  rcases List.mem_append.1 hx with hx | hx
  · rcases List.mem_append.1 hx with hx | hx
    · rcases List.mem_append.1 hx with hx | hx
      · exact encM_bit _ _ x hx
      · exact encM_bit _ _ x hx
    · exact encM_bit _ _ x hx
  · exact rep_bit _ x hx
theorem bitsE_bit {b : List Int} (h : BIT b) (hl : b.length ≤ 128) : bitsE b = 0 := by unfold bitsE; rw [if_neg (by omega), bigB_bit h]; rfl
theorem trip1 {a t se m : Int} (h : lcheckM (a, (t, (se, m))) = 0) (hse : 0 ≤ se) : unpE (packL (a, (t, (se, m)))) t = 0 ∧ unpC (packL (a, (t, (se, m)))) t = (a, (t, (se, m))) := by
  obtain ⟨h1, h2, h3, h4, h5, h6, h7, h8⟩ := lchk_ok h
  obtain ⟨l, e1, e2, e3, e4⟩ := packL_get a t se m
  have g1 : getM (packL (a, (t, (se, m)))) 0 24 = a := by
    unfold getM; rw [e1, numM_enc h1]; exact Int.emod_eq_of_lt h1 (by show a < 16777216; omega)
  have g2 : getM (packL (a, (t, (se, m)))) 24 2 = se := by
    unfold getM; rw [e2, numM_enc hse]; exact Int.emod_eq_of_lt hse (by show se < 4; omega)
  have g3 : getM (packL (a, (t, (se, m)))) 26 20 = m := by
    unfold getM; rw [e3, numM_enc (by omega)]; exact Int.emod_eq_of_lt (by omega) (by show m < 1048576; omega)
  have g4 : getM (packL (a, (t, (se, m)))) 46 10 = 0 := by unfold getM; rw [e4]; rfl
  have hu : unpF (packL (a, (t, (se, m)))) t = (a, (t, (se, m))) := by unfold unpF; rw [g1, g2, g3]
  have hE : unpE (packL (a, (t, (se, m)))) t = 0 := by
    unfold unpE
    rw [l, if_neg (by decide), if_neg (by decide), bitsE_bit (packL_bit _) (by rw [l]; decide), if_neg (by simp), g4, if_neg (by simp), hu, h]
  exact ⟨hE, by unfold unpC; rw [hE, if_pos rfl, hu]⟩
theorem rep_of_zero : ∀ {l : List Int}, (∀ x ∈ l, x = 0) → l = List.replicate l.length 0
  | [], _ => rfl
  | x :: l, h => by
    rw [List.length_cons, List.replicate_succ, ← rep_of_zero fun y hy => h y (by simp [hy]), h x (by simp)]
theorem trip2 {b : List Int} {to : Int} (h0 : ∀ x ∈ b, 0 ≤ x) (h : unpE b to = 0) : lcheckM (unpC b to) = 0 ∧ packM (unpC b to) = b ∧ (unpC b to).2.1 = to ∧ (0 : Int) ≤ (unpC b to).2.2.1 := by
  have hc : unpC b to = unpF b to := by unfold unpC; rw [if_pos h]
  unfold unpE at h
  split at h
  · cases h
  · rename_i q1
    split at h
    · cases h
    · rename_i q2
      split at h
      · cases h
      · rename_i q3
        split at h
        · cases h
        · rename_i q4
          have hl : b.length = 56 := by omega
          have hbit := BIT.of h0 (Classical.not_not.1 q3)
          rw [hc]
          refine ⟨h, ?_, rfl, (getM_lt hbit).1⟩
          unfold packM
          rw [if_pos h]
          have sl : ∀ f n : Nat, f + n ≤ 56 → encM (getM b f n) n = (b.drop f).take n := fun f n hfn => by
            have hlen : ((b.drop f).take n).length = n := by rw [List.length_take, List.length_drop]; omega
            have := enc_num (l := (b.drop f).take n) (fun x hx => hbit x (List.mem_of_mem_drop (List.mem_of_mem_take hx))) 0
            rw [hlen, Int.zero_mul, Int.zero_add] at this
            unfold getM
            rw [Int.toNat_natCast, Int.toNat_natCast]
            exact this
          have z : List.replicate 10 0 = (b.drop 46).take 10 := by
            have hz : ∀ x ∈ (b.drop 46).take 10, x = 0 := (numM_zero fun x hx => hbit x (List.mem_of_mem_drop (List.mem_of_mem_take hx))).1 (Classical.not_not.1 q4)
            have := rep_of_zero hz
            rw [List.length_take, List.length_drop, hl] at this
            exact this.symm
          have key : packL (unpF b to) = (b.drop 0).take 24 ++ (b.drop 24).take 2 ++ (b.drop 26).take 20 ++ (b.drop 46).take 10 := by
            show encM (getM b (0 : Nat) (24 : Nat)) 24 ++ encM (getM b (24 : Nat) (2 : Nat)) 2 ++ encM (getM b (26 : Nat) (20 : Nat)) 20 ++ List.replicate 10 0 = _
            rw [sl 0 24 (by omega), sl 24 2 (by omega), sl 26 20 (by omega), z]
          rw [key]
          have j : ∀ f n : Nat, (b.drop f).take n ++ b.drop (f + n) = b.drop f := fun f n => by rw [← List.drop_drop]; exact List.take_append_drop n _
          have e4 : (b.drop 46).take 10 = b.drop 46 := List.take_of_length_le (by rw [List.length_drop]; omega)
          rw [e4, List.append_assoc, List.append_assoc, j 26 20, j 24 2, j 0 24]
          rfl
end Go.Ab

