/- pulse.Shift. -/
import Derived.Test.YtnfimkmjjjbopaaDoorLd
set_option linter.unusedSimpArgs false
set_option linter.unusedVariables false
set_option maxRecDepth 20000
set_option maxHeartbeats 4000000
namespace Go.Ab
open Go.Proofs
def shiE (t : List Int) (n : Int) : Int := if chkE t ≠ 0 then chkE t else if t.length = 0 then 0 else if n < - gtR tI t 0 ∨ n ≥ 1024 - gtR tI t (t.length - 1) then 7 else 0
def shiT (t : List Int) (n : Int) : List Int := if shiE t n ≠ 0 then [] else t.map (· + n)
theorem shi_set {n i : Int} {t : List Int} (h0 : 0 ≤ i) (h1 : i < t.length) : ((t.take i.toNat).map (· + n) ++ List.replicate (t.length - i).toNat (0 : Int)).set i.toNat (gtR tI t i + n) = (t.take (i + 1).toNat).map (· + n) ++ List.replicate (t.length - (i + 1)).toNat (0 : Int) := by
  have h : i.toNat < t.length := by omega
  rw [show (t.length - i).toNat = (t.length - (i + 1)).toNat + 1 by omega, show (i + 1).toNat = i.toNat + 1 by omega, List.replicate_succ, List.take_add_one, List.set_append_right _ _ (by simp; omega)]
  have e : min i.toNat t.length = i.toNat := Nat.min_eq_left (Nat.le_of_lt h)
  simp only [List.length_map, List.length_take, e, Nat.sub_self, List.set_cons_zero, List.map_append, gtR, List.getElem?_eq_getElem h, List.append_assoc]
  simp [h]
theorem cShift (nt : Option Bool) (t T : List Int) (n e : Int) (hT : T = shiT t n) (he : e = shiE t n) (h : Short 2000 t) : PurS Tryd.prog 20 [injT (.sl tI) (nt, t), injT tI n] (.tup [.tl none tI T, .p (iv e)]) := by
  refine PurS.of (S := [(22, _)]) (T := []) (tbl := []) (n := 53) hmD cfg (.cons (spT1.ok (a := (.sl (.int .i64))) fun x0 h => cChk x0.1 x0.2 h) .nil) .nil .nil 0 Tryd.call20 Tryd.func20 (ac20_ok (some (0, 0))) (by rw [Tryd.ntmps20]; exact Nat.le_refl _) rfl ⟨_, rfl⟩ ?_
  intro cmp ar cv tn ic ai mx an ad ml sb mn ln em gt up ap sc vw cp rp p1 p2 s1 s2 X Y hX hY r0 r1 r2 r3 r4 r5 r6 r7 r8 r9 r10 r11 r12 r13 r14 r15 r16 r17 r18 r19 r20 r21 r22 r23 r24
  generalize hg0 : chkE = g0
  cbv
  have hp := h.h
  have hE := fun h => chkE_rng (l := t) h
  obtain ⟨m, hm0⟩ : ∃ m : Int, m = ar .sub .i64 (ic (ln tI t)) 1 := ⟨_, rfl⟩
  have wl : t.length ≠ 0 → m = t.length - 1 := fun h => by rw [hm0, r1, r4, r12]; exact wrap64 (n := t.length - 1) (by omega) (by omega)
  rw [← hm0]
  obtain ⟨u, hu⟩ : ∃ u : Int, u = gt tI t 0 := ⟨_, rfl⟩
  obtain ⟨v, hv⟩ : ∃ v : Int, v = gt tI t m := ⟨_, rfl⟩
  rw [← hu, ← hv]
  obtain ⟨un, hun⟩ : ∃ m : Int, m = ar .sub .i64 0 u := ⟨_, rfl⟩
  obtain ⟨vn, hvn⟩ : ∃ m : Int, m = ar .sub .i64 1024 v := ⟨_, rfl⟩
  rw [← hun, ← hvn]
  have hu1 : u = gtR tI t 0 := by rw [hu, r14]
  have hv1 : t.length ≠ 0 → v = gtR tI t (t.length - 1) := fun h => by rw [hv, r14, wl h]
  have hun1 : un = IntKind.i64.wrap (0 - u) := by rw [hun, r1]; rfl
  have hvn1 : vn = IntKind.i64.wrap (1024 - v) := by rw [hvn, r1]; rfl
  have hu' : 0 < t.length → u ∈ t := fun h => by rw [hu1]; exact gtR_mem (t := tI) (l := t) (i := 0) (by omega) (by omega)
  have hv' : 0 < t.length → v ∈ t := fun h => by rw [hv1 (by omega)]; exact gtR_mem (t := tI) (l := t) (i := t.length - 1) (by omega) (by omega)
  have hm : shiE t n = if chkE t ≠ 0 then chkE t else if t.length = 0 then 0 else if n < - u ∨ n ≥ 1024 - v then 7 else 0 := by
    unfold shiE
    split
    · rfl
    · split
      · rfl
      · rw [← hv1 (by assumption), hu1]
  have hT2 : shiT t n = if shiE t n ≠ 0 then [] else t.map (· + n) := rfl
  have hn : nlLe (some true) none := by simp [nlLe_none]
  have hx : chkE t = 0 → t.length ≠ 0 → (0 ≤ u ∧ u < 1024) ∧ (0 ≤ v ∧ v < 1024) := fun h2 h3 => ⟨hE h2 _ (hu' (by omega)), hE h2 _ (hv' (by omega))⟩
  have w0 : chkE t = 0 → t.length ≠ 0 → un = - u := fun h2 h3 => by have := hx h2 h3; rw [hun1, wrap64] <;> omega
  have w2 : chkE t = 0 → t.length ≠ 0 → vn = 1024 - v := fun h2 h3 => by have := hx h2 h3; rw [hvn1, wrap64] <;> omega
  have wx : ∀ i x : Int, x = gtR tI t i → 0 ≤ i → i < t.length → chkE t = 0 → ¬ n < - u → ¬ n ≥ 1024 - v → IntKind.i64.wrap (x + n) = x + n := fun i x hx0 h2 h3 h4 h5 h6 => by
    have := hx h4 (by omega); have := hE h4 x (by rw [hx0]; exact gtR_mem (t := tI) h2 h3); rw [wrap64] <;> omega
  clear hu1 hv1 hun1 hvn1 hu' hv' hun hvn hu hv hm0
  have hT0 : t.length = 0 → t.map (· + n) = [] := fun h => by rw [List.eq_nil_of_length_eq_zero h]; rfl
  clear hE h
  obtain ⟨Z, hZ⟩ : ∃ Z : List Int, Z = List.replicate t.length 0 := ⟨_, rfl⟩
  repeat' (first | exact True.intro | refine And.intro ?_ ?_ | (refine BR.mk ?_ ?_ <;> intro _) | (refine CASE.mk ?_; intro _) | refine NEXT.mk (hX _ _ _ ?_ ?_ (.inl ⟨rfl, rfl⟩)))
  all_goals first | (show LOOP _ _ _ _ _ _; skip) | (clear hX; subst_vars; (all_goals try simp only [Short_iff, cmpR, arR, mxR, INB_iff, SLB_iff, SLM_iff, NZ_iff, NN_iff, EQN_iff, LEN_iff, LIM_iff, MK_iff, decide_eq_true_eq, decide_eq_false_iff_not, ne_eq, Bool.and_eq_true, cmpR] at *); (all_goals try dsimp only [Ty.den] at *); (all_goals try simp only [nc_eq] at *); (all_goals try (simp (disch := omega) only [wrap64] at *)); all_goals grind)
  refine LOOP.ind (σ := List Int × Int) (fun (L, i) => [(1, .p (iv n)), (7, .ms 0 0 1 none (tn (ic (ln tI t)))), (38, .tl nt tI t), (39, .p (iv (ic (ln tI t)))), (40, .p (iv i))]) (fun (L, i) => ⟨[{ cells := [.arr (tn (ic (ln tI t))) tI L], e := 3, fz := false, ap := true }], []⟩) (fun (L, i) => (t.length - i).toNat)
    (fun (L, i) => 0 ≤ i ∧ i ≤ t.length ∧ L = (t.take i.toNat).map (· + n) ++ List.replicate (t.length - i).toNat 0) (Z, 0) (by rw [hZ]; simp) (.inr ⟨[some 0], [], ?_⟩) ?_
  · rw [SIM_iff]; cbv
    have e : rp tI (tn (ic (ln tI t))) (0 : Int) = Z := by rw [hZ, r20, r3, r4, r12]; rfl
    exact ⟨⟨⟨e, trivial⟩, trivial⟩, ⟨nlLe_self.2 trivial, trivial⟩, trivial⟩
  intro ⟨L, i⟩ hI X' hY
  dsimp only at hI
  have hL : L.length = t.length := by rw [hI.2.2]; simp; omega
  have hup : 0 ≤ i → i < t.length → chkE t = 0 → ¬ n < - u → ¬ n ≥ 1024 - v → upR tI t.length L i (IntKind.i64.wrap (gtR tI t i + n)) = (t.take (i + 1).toNat).map (· + n) ++ List.replicate (t.length - (i + 1)).toNat (0 : Int) := fun h1 h2 h3 h4 h5 => by
    rw [upR_len (t := tI) hL i, wx i _ rfl h1 h2 h3 h4 h5, hI.2.2]; exact shi_set hI.1 h2
  have hvw : ¬ i < t.length → vwR tI t.length L 0 t.length = t.map (· + n) := fun h => by
    rw [vw_all (t := tI) hL, hI.2.2, show (t.length - i).toNat = 0 by omega, show i.toNat = t.length by omega]; simp
  clear wx
  cbv
  repeat' (first | exact True.intro | refine And.intro ?_ ?_ | (refine BR.mk ?_ ?_ <;> intro _) | (refine CASE.mk ?_; intro _) | refine NEXT.mk (hY (_, _) _ _ ?_ ?_ (.inl ⟨rfl, rfl⟩)))
  all_goals clear hY
  all_goals subst_vars
  all_goals try simp only [Short_iff, cmpR, arR, mxR, INB_iff, SLB_iff, SLM_iff, NZ_iff, NN_iff, EQN_iff, LEN_iff, LIM_iff, MK_iff, decide_eq_true_eq, decide_eq_false_iff_not, ne_eq, Bool.and_eq_true, Int.toNat_natCast] at *
  all_goals try dsimp only [Ty.den] at *
  all_goals try simp only [nc_eq] at *
  all_goals try (simp (disch := omega) only [wrap64] at *)
  all_goals first | exact nlLe_none.2 trivial | grind
end Go.Ab

