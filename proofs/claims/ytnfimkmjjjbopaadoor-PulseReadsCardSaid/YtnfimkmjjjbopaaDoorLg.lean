/- pulse.Starts. -/
import Derived.Test.YtnfimkmjjjbopaaDoorLf
set_option linter.unusedSimpArgs false
set_option linter.unusedVariables false
set_option maxRecDepth 20000
set_option maxHeartbeats 4000000
namespace Go.Ab
open Go.Proofs
def stL (S : List Bool) (n : Int) : List Int → Bool
  | [] => true
  | k :: l => (decide (n + k < 1024) && gtR .bool S (n + k)) && stL S n l
def stM (S : List Bool) (n : Int) : Bool := stL S n [0, 2, 7, 9]
def stC (S : List Bool) (n k : Int) : Prop := n + k < 1024 ∧ gtR .bool S (n + k) = true
theorem stC_iff {S : List Bool} {n : Int} (k : Int) : stC S n k ↔ n + k < 1024 ∧ gtR .bool S (n + k) = true := Iff.rfl
theorem stM_iff {S : List Bool} {n : Int} : stM S n = true ↔ stC S n 0 ∧ stC S n 2 ∧ stC S n 7 ∧ stC S n 9 := by
  simp [stM, stL, stC]
def stF (S : List Bool) : Nat → List Int
  | 0 => []
  | m + 1 => if gtR .bool S (1024 - (m + 1 : Nat)) && stM S (1024 - (m + 1 : Nat)) then (1024 - (m + 1 : Nat) : Int) :: stF S m else stF S m
def staE (t : List Int) : Int := swE [(none, t)]
def staT (t : List Int) : List Int := if staE t ≠ 0 then [] else stF (swA [(none, t)]) 1024
theorem swS_cong : ∀ (l : List Int) (S : List Bool), True := fun _ _ => trivial
theorem swO_nil1 (nt nt' : Option Bool) (t : List Int) : swO [] [(nt, t)] = swO [] [(nt', t)] := rfl
theorem swA1 (nt : Option Bool) (t : List Int) : swA [(nt, t)] = swA [(none, t)] := rfl
theorem swE1 (nt : Option Bool) (t : List Int) : swE [(nt, t)] = swE [(none, t)] := rfl
theorem cStarts (nt : Option Bool) (t T : List Int) (e : Int) (hT : T = staT t) (he : e = staE t) (h : t.length ≤ 1500) : PurS Tryd.prog 25 [injT (.sl tI) (nt, t)] (.tup [.tl none tI T, .p (iv e)]) := by
  refine PurS.of (S := [(38, _)]) (T := []) (tbl := [(39, ac39 none, [.tmp 2], 4), (42, ac42 none, [.tmp 4], 26)]) (n := 24) hmD cfg (.cons (spT1.ok (a := (.sl (.sl (.int .i64)))) fun x0 h => cOfT x0.1 x0.2 h) .nil) .nil (.cons Tryd.call39 Tryd.func39 (ac39_ok none) (by rw [Tryd.ntmps39]; exact Nat.le_refl _) (.cons Tryd.call42 Tryd.func42 (ac42_ok none) (by rw [Tryd.ntmps42]; exact Nat.le_refl _) .nil)) 6 Tryd.call25 Tryd.func25 (ac25_ok (some (0, 0)) (some (3, 0))) (by rw [Tryd.ntmps25]; exact Nat.le_refl _) rfl ⟨_, rfl⟩ ?_
  intro cmp ar cv tn ic ai mx an ad ml sb mn ln em gt up ap sc vw cp rp p1 p2 s1 s2 X Y hX hY r0 r1 r2 r3 r4 r5 r6 r7 r8 r9 r10 r11 r12 r13 r14 r15 r16 r17 r18 r19 r20 r21 r22 r23 r24
  generalize hg0 : swA = g0
  generalize hg1 : swE = g1
  cbv
  have hlay : LAYOK [(1024, Value.bool false)] [SegT.a 1024 Ty.bool] := LAYOK.mk (by kernel_rfl)
  have hpre : PRE (pSw [(nt, t)]) := ⟨⟨by simp, by intro x hx; obtain rfl := List.mem_singleton.1 hx; exact h⟩⟩
  have hT2 : staT t = if staE t ≠ 0 then [] else stF (swA [(nt, t)]) 1024 := rfl
  have he2 : staE t = swE [(nt, t)] := rfl
  have hn : nlLe (some true) none := by simp [nlLe_none]
  have hn2 : nlLe none none := by simp [nlLe_none]
  obtain ⟨a0, a1, a2, a3, hA⟩ : ∃ a0 a1 a2 a3 : Int, a0 = 0 ∧ a1 = 2 ∧ a2 = 7 ∧ a3 = 9 := ⟨_, _, _, _, rfl, rfl, rfl, rfl⟩
  refine ⟨hpre, hlay, BR.mk (fun hc => ?_) fun hc => ?_⟩
  · clear hX hpre; subst_vars; simp only [Short_iff, cmpR, arR, mxR, INB_iff, SLB_iff, SLM_iff, NZ_iff, NN_iff, EQN_iff, LEN_iff, LIM_iff, MK_iff, decide_eq_true_eq, decide_eq_false_iff_not, ne_eq, Bool.and_eq_true] at *; grind
  refine ALLY.mk fun y => ?_
  cbv
  refine LOOP.ind (σ := List Int × Int) (fun (O, k) => [(0, .fn (.yield y) [] []), (5, .ptr 1 0), (6, .p (iv k))]) (fun (O, k) => ⟨[{ cells := [.og 0 tI O], e := 29, fz := false }, { cells := [.arr 1024 .bool (g0 [(nt, t)])], e := 67, fz := false }, { cells := [.ptr 1 0], e := 77, fz := false }], [(ml (ln tI O) 1, 3)]⟩) (fun (O, k) => (1024 - k).toNat)
    (fun (O, k) => 0 ≤ k ∧ k ≤ 1024 ∧ O.length ≤ k ∧ O ++ stF (g0 [(nt, t)]) (1024 - k).toNat = stF (g0 [(nt, t)]) 1024) ([], 0) (by simp) (.inr ⟨[some 0, some 1, some 2], [none], ?_⟩) ?_
  · rw [SIM_iff]; cbv
    simp
  intro ⟨O, k⟩ hI X' hY
  dsimp only at hI
  have hsl : k < 1024 → stF (g0 [(nt, t)]) (1024 - k).toNat = if gtR .bool (g0 [(nt, t)]) k && stM (g0 [(nt, t)]) k then k :: stF (g0 [(nt, t)]) (1024 - (k + 1)).toNat else stF (g0 [(nt, t)]) (1024 - (k + 1)).toNat := fun h => by
    rw [show (1024 - k).toNat = (1024 - (k + 1)).toNat + 1 by omega, stF, show (1024 : Int) - ((1024 - (k + 1)).toNat + 1 : Nat) = k by omega]
  have hse : ¬ k < 1024 → stF (g0 [(nt, t)]) (1024 - k).toNat = [] := fun h => by rw [show (1024 - k).toNat = 0 by omega]; rfl
  cbv
  repeat' (first | exact True.intro | refine And.intro ?_ ?_ | (refine BR.mk ?_ ?_ <;> intro _) | (refine CASE.mk ?_; intro _) | refine NEXT.mk (hY (_, _) _ _ ?_ ?_ (.inl ⟨rfl, rfl⟩)))
  all_goals first | (show LOOP _ _ _ _ _ _; skip) | (clear hY; subst_vars; (all_goals try simp only [Short_iff, cmpR, arR, mxR, INB_iff, SLB_iff, SLM_iff, NZ_iff, NN_iff, EQN_iff, LEN_iff, LIM_iff, MK_iff, decide_eq_true_eq, decide_eq_false_iff_not, ne_eq, Bool.and_eq_true, cmpR] at *); (all_goals try dsimp only [Ty.den] at *); (all_goals try simp only [nc_eq] at *); (all_goals try (simp (disch := omega) only [wrap64] at *)); all_goals grind)
  refine LOOP.ind0 (σ := Int) (fun i => [(0, .ptr 1 0), (1, .p (iv k)), (7, .agg [.p (iv a0), .p (iv a1), .p (iv a2), .p (iv a3)]), (8, .p (iv i))]) (fun _ => ⟨[{ cells := [.og 0 tI O], e := 29, fz := false }, { cells := [.arr 1024 .bool (g0 [(nt, t)])], e := 67, fz := false }, { cells := [.ptr 1 0], e := 77, fz := false }], [(ml (ln tI O) 1, 3)]⟩) (fun i => (4 - i).toNat) (fun i => 0 ≤ i ∧ i ≤ 4 ∧ (1 ≤ i → stC (g0 [(nt, t)]) k 0) ∧ (2 ≤ i → stC (g0 [(nt, t)]) k 2) ∧ (3 ≤ i → stC (g0 [(nt, t)]) k 7) ∧ (4 ≤ i → stC (g0 [(nt, t)]) k 9)) 0 (by simp) (.inl ⟨?_, rfl⟩) ?_
  · obtain ⟨rfl, rfl, rfl, rfl⟩ := hA; rw [r14, r21, r22]; rfl
  intro i hJ X2 hZ
  have hst := stM_iff (S := g0 [(nt, t)]) (n := k)
  have hsc := stC_iff (S := g0 [(nt, t)]) (n := k)
  cbv
  repeat' (first | exact True.intro | refine And.intro ?_ ?_ | (refine BR.mk ?_ ?_ <;> intro _) | (refine CASE.mk ?_; intro _) | refine NEXT.mk (hZ _ _ _ ?_ ?_ (.inl ⟨rfl, rfl⟩)) | refine NEXT.mk (hY (_, _) _ _ ?_ ?_ (.inl ⟨rfl, rfl⟩)))
  all_goals clear hZ
  all_goals clear hY
  all_goals subst_vars
  all_goals try simp only [Short_iff, cmpR, arR, mxR, INB_iff, SLB_iff, SLM_iff, NZ_iff, NN_iff, EQN_iff, LEN_iff, LIM_iff, MK_iff, decide_eq_true_eq, decide_eq_false_iff_not, ne_eq, Bool.and_eq_true] at *
  all_goals try dsimp only [Ty.den] at *
  all_goals try simp only [nc_eq] at *
  all_goals try (simp (disch := omega) only [wrap64] at *)
  all_goals first | omega | grind
end Go.Ab

