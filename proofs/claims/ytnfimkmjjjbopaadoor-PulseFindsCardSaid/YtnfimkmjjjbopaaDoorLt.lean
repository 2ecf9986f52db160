/- PulseMakes, PulseFinds. -/
import Derived.Test.YtnfimkmjjjbopaaDoorLk
import Derived.Test.YtnfimkmjjjbopaaDoorLr
import Derived.Test.YtnfimkmjjjbopaaDoorLs
set_option linter.unusedSimpArgs false
set_option linter.unusedVariables false
set_option maxRecDepth 20000
set_option maxHeartbeats 8000000
namespace Go.Ab
open Go.Proofs
theorem tMerge : ∀ ds st K, spOwn (argT1 (.sl tTr)) (fun x => MRG x.2) tI 3 (fun x => mrgT x.2) (fun x => shT (iv (mrgE x.2))) OpsS.real 15 ds st K → FnS Tryd.prog 15 ds st K :=
  spOwn.ok (fun _ => shT.ok _ _) (argT1.ok (a := .sl tTr) (Q := fun xs x => MRG x.2 → OwnL Tryd.prog 15 xs tI 3 (mrgT x.2) (shT (iv (mrgE x.2)))) (fun _ _ _ he h hp => (h hp).cong he) fun x h => cMergeO x.1 x.2 _ _ rfl rfl h.p)
theorem tShift : ∀ ds st K, spOwn (argT2 (.sl tI) tI) (fun x => Short 2000 x.1.2) tI 3 (fun x => shiT x.1.2 x.2) (fun x => shT (iv (shiE x.1.2 x.2))) OpsS.real 20 ds st K → FnS Tryd.prog 20 ds st K :=
  spOwn.ok (fun _ => shT.ok _ _) (argT2.ok (a := .sl tI) (b := tI) (Q := fun xs x => Short 2000 x.1.2 → OwnL Tryd.prog 20 xs tI 3 (shiT x.1.2 x.2) (shT (iv (shiE x.1.2 x.2)))) (fun _ _ _ he h hp => (h hp).cong he) fun x y h => cShiftO x.1 x.2 _ y _ rfl rfl h)
theorem tStarts : ∀ ds st K, spOwn (argT1 (.sl tI)) (fun x => Short 1500 x.2) tI 3 (fun x => staT x.2) (fun x => shT (iv (staE x.2))) OpsS.real 25 ds st K → FnS Tryd.prog 25 ds st K :=
  spOwn.ok (fun _ => shT.ok _ _) (argT1.ok (a := .sl tI) (Q := fun xs x => Short 1500 x.2 → OwnL Tryd.prog 25 xs tI 3 (staT x.2) (shT (iv (staE x.2)))) (fun _ _ _ he h hp => (h hp).cong he) fun x h => cStartsO x.1 x.2 _ _ rfl rfl h.h)
theorem cReadO (nt : Option Bool) (t : List Int) (n : Int) (lg : Bool) (h : t.length ≤ 1500) : OwnL Tryd.prog 27 [injT (.sl tI) (nt, t), injT tI n, injT .bool lg] tB 5 (reaB t n lg) (shA (iv (reaN t n lg)) (iv (reaE t n lg))) := by
  cases lg
  · exact (cReadOS nt t _ n _ _ rfl rfl rfl h).cong (by simp only [concL, injT, DC.conc])
  · exact (cReadOL nt t _ n _ _ rfl rfl rfl h).cong (by simp only [concL, injT, DC.conc])
theorem tRead : ∀ ds st K, spOwn (argT3 (.sl tI) tI .bool) (fun x => Short 1500 x.1.2) tB 5 (fun x => reaB x.1.2 x.2.1 x.2.2) (fun x => shA (iv (reaN x.1.2 x.2.1 x.2.2)) (iv (reaE x.1.2 x.2.1 x.2.2))) OpsS.real 27 ds st K → FnS Tryd.prog 27 ds st K :=
  spOwn.ok (fun _ => shA.ok _ _ _) (argT3.ok (a := .sl tI) (b := tI) (c := .bool) (Q := fun xs x => Short 1500 x.1.2 → OwnL Tryd.prog 27 xs tB 5 (reaB x.1.2 x.2.1 x.2.2) (shA (iv (reaN x.1.2 x.2.1 x.2.2)) (iv (reaE x.1.2 x.2.1 x.2.2)))) (fun _ _ _ he h hp => (h hp).cong he) fun x y z h => cReadO x.1 x.2 y z h.h)
structure MRT (l : List TL) : Prop where
  a : Short 2000 l
  b : PRE (pOf l)
def cpT (l : List TL) : List TL := l.map fun t => (none, t.2)
theorem cCopyT (nl : Option Bool) (l R : List TL) (hR : R = cpT l) (h : Short 2000 l) (hp : PRE (pOf l)) : PurS Tryd.prog 12 [injT (.sl tTr) (nl, l)] (.tl none tTr R) := by
  refine PurS.of (S := [(41, _)]) (T := []) (tbl := [(24, ac24 none, [.tmp 2], 5)]) (n := 20) hmD cfg (.cons (spT1.ok (a := (.sl (.int .i64))) fun x0 h => cCopyI x0.1 x0.2 h) .nil) .nil (.cons Tryd.call24 Tryd.func24 (ac24_ok none) (by rw [Tryd.ntmps24]; exact Nat.le_refl _) .nil) 6 Tryd.call12 Tryd.func12 (ac12_ok (some (0, 0))) (by rw [Tryd.ntmps12]; exact Nat.le_refl _) rfl ⟨_, rfl⟩ ?_
  intro cmp ar cv tn ic ai mx an ad ml sb mn ln em gt up ap sc vw cp rp p1 p2 s1 s2 X Y hX hY r0 r1 r2 r3 r4 r5 r6 r7 r8 r9 r10 r11 r12 r13 r14 r15 r16 r17 r18 r19 r20 r21 r22 r23 r24
  cbv
  have hl := h.h
  have hn2 : nlLe none none := by simp [nlLe_none]
  refine LOOP.ind (σ := List TL × Int) (fun (O, i) => [(0, .tl nl tTr l), (3, .og 0 tTr O), (4, .p (iv i))]) (fun (O, i) => ⟨[], [(ml (ln tTr O) 1, 30)]⟩) (fun (O, i) => (l.length - i).toNat)
    (fun (O, i) => 0 ≤ i ∧ i ≤ l.length ∧ O.length ≤ i ∧ O ++ cpT (l.drop i.toNat) = R) ([], 0) ⟨by omega, by show (0 : Int) ≤ _; omega, by simp, by rw [hR]; rfl⟩ (.inr ⟨[], [none], ?_⟩) ?_
  · rw [SIM_iff]; cbv; simp [nlLe_self]
  intro ⟨O, i⟩ hI X' hX
  dsimp only at hI
  obtain ⟨hI1, hI2, hI3, hI4⟩ := hI
  obtain ⟨a, ha⟩ : ∃ a, a = s2 tI (gt tTr l i) := ⟨_, rfl⟩
  obtain ⟨na, hna⟩ : ∃ a, a = s1 tI (gt tTr l i) := ⟨_, rfl⟩
  have hgt : (na, a) = gtR tTr l i := by rw [ha, hna, r14, r23, r24]
  have hsl : i < l.length → Short 2000 a := fun h => ⟨Nat.le_trans (hp.h (na, a) (by rw [hgt]; exact gtR_mem (t := tTr) hI1 h)) (by omega)⟩
  have hst : i < l.length → cpT (l.drop i.toNat) = (none, a) :: cpT (l.drop (i + 1).toNat) := fun h => by rw [gtR_drop (t := tTr) hI1 h, ← hgt]; rfl
  have hse : ¬ i < l.length → cpT (l.drop i.toNat) = [] := fun h => by rw [gtR_end h]; rfl
  clear hgt
  cbv
  rw [← ha]
  clear ha hna
  repeat' (first | exact True.intro | refine And.intro ?_ ?_ | (refine BR.mk ?_ ?_ <;> intro _) | (refine CASE.mk ?_; intro _) | refine NEXT.mk (hX (_, _) _ _ ?_ ?_ (.inl ⟨rfl, rfl⟩)))
  all_goals clear hX
  all_goals subst_vars
  all_goals try simp only [Short_iff, cmpR, arR, mxR, INB_iff, SLB_iff, SLM_iff, NZ_iff, NN_iff, EQN_iff, LEN_iff, LIM_iff, MK_iff, decide_eq_true_eq, decide_eq_false_iff_not, ne_eq, Bool.and_eq_true] at *
  all_goals try dsimp only [Ty.den] at *
  all_goals try simp only [nc_eq] at *
  all_goals try (simp (disch := omega) only [wrap64] at *)
  all_goals first | exact nlLe_none.2 trivial | grind
theorem cCopyTT (nl : Option Bool) (l : List TL) (h : MRT l) : PurS Tryd.prog 12 [injT (.sl tTr) (nl, l)] (.tl none tTr (cpT l)) := cCopyT nl l _ rfl h.a h.b
theorem cMergeRT (nl : Option Bool) (l : List TL) (h : MRT l) : PurS Tryd.prog 16 [injT (.sl tTr) (nl, l)] (.tup [.tl none tI (mrgT l), .p (iv (mrgE l))]) := cMergeR nl l _ _ rfl rfl h.a h.b
structure NNG (l : List Int) : Prop where
  h : ∀ x ∈ l, 0 ≤ x
theorem cMakeRT (nb : Option Bool) (b : List Int) (h : NNG b) : PurS Tryd.prog 14 [injT (.sl tB) (nb, b)] (.tup [.tl none tI (makT b), .p (iv (makE b))]) := cMakeR nb b _ _ rfl rfl h.h
theorem cShiftRT (nt : Option Bool) (t : List Int) (n : Int) (h : Short 2000 t) : PurS Tryd.prog 21 [injT (.sl tI) (nt, t), injT tI n] (.tup [.tl none tI (shiT t n), .p (iv (shiE t n))]) := cShiftR nt t _ n _ rfl rfl h
theorem cStartsRT (nt : Option Bool) (t : List Int) (h : Short 2000 t) : PurS Tryd.prog 26 [injT (.sl tI) (nt, t)] (.tup [.tl none tI (staT t), .p (iv (staE t))]) := cStartsR nt t _ _ rfl rfl h
theorem longB_of {l : List TL} (h : longB l = false) : l.length ≤ 12 ∧ ∀ t ∈ l, t.2.length ≤ 1100 := by
  have key : ∀ l : List TL, lonB l = false → ∀ t ∈ l, t.2.length ≤ 1100 := by
    intro l
    induction l with
    | nil => intro _ t ht; simp at ht
    | cons x l ih =>
      intro h t ht
      simp only [lonB, Bool.or_eq_false_iff, decide_eq_false_iff_not] at h
      rcases List.mem_cons.1 ht with rfl | ht
      · omega
      · exact ih h.2 t ht
  simp only [longB, Bool.or_eq_false_iff, decide_eq_false_iff_not] at h
  exact ⟨by omega, key l h.2⟩
theorem swO_cp : ∀ {l : List TL} {S : List Bool}, swO S (cpT l) = swO S l
  | [], _ => rfl
  | t :: l, S => by
    show swO S ((none, t.2) :: cpT l) = _
    rw [swO, swO, swO_cp]
theorem mrgE_cp {l : List TL} : mrgE (cpT l) = mrgE l := by
  unfold mrgE swE; rw [swO_cp]; simp [cpT]
theorem mrgT_cp {l : List TL} : mrgT (cpT l) = mrgT l := by
  unfold mrgT; rw [mrgE_cp]; unfold swA; rw [swO_cp]
theorem makT_len {b : List Int} (h : b.length ≤ 200) : (makT b).length ≤ 2000 := by
  unfold makT; split
  · simp
  · simp [makS_len]; omega
theorem cMakes (nb : Option Bool) (b : List Int) (nl : Option Bool) (l : List TL) (n : Int) (hb : ∀ x ∈ b, 0 ≤ x) (hlm : l.length ≤ maxLen) : PurS Tryd.prog 3 [injT (.sl tB) (nb, b), injT (.sl tTr) (nl, l), injT tI n] (.sb true) := by
  refine PurS.of (S := [(10, _), (9, _), (35, _), (12, _), (13, _), (14, _), (16, _), (21, _), (22, _), (23, _), (29, _), (32, _)]) (T := [(15, _), (20, _)]) (tbl := [(17, ac17 none, [.tmp 4], 8), (18, ac18 none, [.tmp 4], 8), (11, ac11 none, [.tmp 2], 5), (24, ac24 none, [.tmp 2], 5), (19, ac19 none, [], 12)]) (n := 141) hmD cfg (.cons (spT0.ok cAwakeT) (.cons (spT1.ok (a := (.sl (.sl (.int .i64)))) (pre := fun _ => True) fun x0 _ => cLong x0.1 x0.2) (.cons (spT1.ok (a := (.sl (.int .u8))) fun x0 h => cCopyB x0.1 x0.2 h) (.cons (spT1.ok (a := (.sl (.sl (.int .i64)))) fun x0 h => cCopyTT x0.1 x0.2 h) (.cons (spT1.ok (a := (.sl (.int .u8))) fun x0 h => cMakeT x0.1 x0.2 h) (.cons (spT1.ok (a := (.sl (.int .u8))) fun x0 h => cMakeRT x0.1 x0.2 h) (.cons (spT1.ok (a := (.sl (.sl (.int .i64)))) fun x0 h => cMergeRT x0.1 x0.2 h) (.cons (spT2.ok (a := (.sl (.int .i64))) (b := (.int .i64)) fun x0 x1 h => cShiftRT x0.1 x0.2 x1 h) (.cons (spT1.ok (a := (.sl (.int .i64))) fun x0 h => cChk x0.1 x0.2 h) (.cons (spT1.ok (a := (.sl (.int .i64))) fun x0 h => cChkR x0.1 x0.2 h) (.cons (spT2.ok (a := (.sl (.int .i64))) (b := (.sl (.int .i64))) fun x0 x1 h => cEqI x0.1 x0.2 x1.1 x1.2 h) (.cons (spT2.ok (a := (.sl (.int .u8))) (b := (.sl (.int .u8))) fun x0 x1 h => cEqB x0.1 x0.2 x1.1 x1.2 h) .nil)))))))))))) (.cons tMerge (.cons tShift .nil)) (.cons Tryd.call17 Tryd.func17 (ac17_ok none) (by rw [Tryd.ntmps17]; exact Nat.le_refl _) (.cons Tryd.call18 Tryd.func18 (ac18_ok none) (by rw [Tryd.ntmps18]; exact Nat.le_refl _) (.cons Tryd.call11 Tryd.func11 (ac11_ok none) (by rw [Tryd.ntmps11]; exact Nat.le_refl _) (.cons Tryd.call24 Tryd.func24 (ac24_ok none) (by rw [Tryd.ntmps24]; exact Nat.le_refl _) (.cons Tryd.call19 Tryd.func19 (ac19_ok none) (by rw [Tryd.ntmps19]; exact Nat.le_refl _) .nil))))) 6 Tryd.call3 Tryd.func3 (ac3_ok (some (0, 0))) (by rw [Tryd.ntmps3]; exact Nat.le_refl _) rfl ⟨_, rfl⟩ ?_
  intro cmp ar cv tn ic ai mx an ad ml sb mn ln em gt up ap sc vw cp rp p1 p2 s1 s2 X Y hX hY r0 r1 r2 r3 r4 r5 r6 r7 r8 r9 r10 r11 r12 r13 r14 r15 r16 r17 r18 r19 r20 r21 r22 r23 r24
  generalize hg0 : mrgT = g0
  generalize hg1 : mrgE = g1
  generalize hg2 : shiT = g2
  generalize hg3 : shiE = g3
  generalize hg4 : makT = g4
  generalize hg5 : makE = g5
  generalize hg6 : eqI = g6
  generalize hg7 : longB = g7
  generalize hg8 : cpT = g8
  generalize hg9 : chkE = g9
  cbv
  have hlong : longB l = false → l.length ≤ 12 ∧ ∀ t ∈ l, t.2.length ≤ 1100 := longB_of
  have hcE : mrgE (cpT l) = mrgE l := mrgE_cp
  have hcT : mrgT (cpT l) = mrgT l := mrgT_cp
  simp only [hg0, hg1, hg7, hg8] at hlong hcE hcT
  dsimp only
  rw [hcE, hcT]
  obtain ⟨T, hT⟩ : ∃ T, T = g0 l := ⟨_, rfl⟩
  obtain ⟨E, hE⟩ : ∃ T, T = g1 l := ⟨_, rfl⟩
  obtain ⟨L2, hL2⟩ : ∃ T, T = g8 l := ⟨_, rfl⟩
  obtain ⟨M, hM⟩ : ∃ T, T = g4 b := ⟨_, rfl⟩
  obtain ⟨Me, hMe⟩ : ∃ T, T = g5 b := ⟨_, rfl⟩
  rw [← hT, ← hE, ← hL2, ← hM, ← hMe]
  have hb2 : cmp .gtr (ic (ln tB b)) 200 = false → b.length ≤ 200 := fun h => by
    rw [r0, r4, r12] at h
    have h2 : ¬ (200 : Int) < b.length := by simpa [cmpR] using h
    omega
  refine BR.mk (fun _ => trivial) fun hb200 => BR.mk (fun _ => trivial) fun hlo => ?_
  have hb200 := hb2 hb200
  obtain ⟨hl12, hl2⟩ := hlong hlo
  clear hb2 hlong hlo
  have hq : ∀ x, g6 x x = true := fun x => by rw [← hg6]; simp [eqI]
  have hMl : Short 2000 M := ⟨by rw [hM, ← hg4]; exact makT_len hb200⟩
  have hTl : T.length ≤ 1024 := by rw [hT, ← hg0]; exact mrgT_len
  have hMR : MRT l := ⟨⟨by omega⟩, ⟨fun t ht => by have := hl2 t ht; omega⟩⟩
  have hlL : L2.length = l.length := by rw [hL2, ← hg8]; simp [cpT]
  have hgt2 : ∀ i : Int, 0 ≤ i → i < l.length → gtR tTr L2 i = (none, (gtR tTr l i).2) := fun i h0 h1 => by
    rw [hL2, ← hg8]
    have h : i.toNat < l.length := by omega
    simp [gtR, cpT, h]
  have hMG : MRG L2 := MRG.of (by rw [hL2, ← hg8]; simp [cpT]; omega) (by rw [hL2, ← hg8]; intro t ht; obtain ⟨x, hx, rfl⟩ := List.mem_map.1 ht; have := hl2 x hx; show x.2.length ≤ 1500; omega)
  clear hL2 hM hMe hcE hcT
  refine ⟨?_, ?_, ?_, ?_, ?_, OWNK.mk (fun hT0 => ?_) fun N hT0 hN => ?_⟩
  · exact ⟨by omega⟩
  · exact ⟨⟨by omega⟩, ⟨fun t ht => by have := hl2 t ht; omega⟩⟩
  · exact ⟨by simp only [makB, List.all_eq_true, decide_eq_true_eq]; exact hb⟩
  · exact ⟨hb⟩
  · exact hMG
  all_goals
    have hvw : ∀ N : Nat, N = T.length → vw tI N T 0 N = T := fun N h => by rw [r18]; exact vw_all (t := tI) h.symm
    cbv
    dsimp only
    rw [← hT, ← hE]
    try rw [hvw N hN]
    try simp only [← hT0]
  all_goals
    repeat' (first | exact True.intro | refine And.intro ?_ ?_ | (refine BR.nn r0 ?_) | (refine BR.lss r0 ?_ ?_ <;> intro _) | (refine BR.neq r0 ?_ ?_ <;> intro _) | (refine BR.eql r0 ?_ ?_ <;> intro _) | (refine BR.leq r0 ?_ ?_ <;> intro _) | (refine BR.gtr r0 ?_ ?_ <;> intro _) | (refine BR.geq r0 ?_ ?_ <;> intro _) | (refine BR.mk ?_ ?_ <;> intro _) | (refine CASE.mk ?_; intro _))
    all_goals try (exact hMR)
    all_goals try (exact absurd ‹cmp .neq Me Me = true› (by rw [r0]; simp [cmpR]))
    all_goals try (exact absurd ‹cmp .neq E E = true› (by rw [r0]; simp [cmpR]))
    all_goals try (exact hMl)
    all_goals try (exact ⟨by first | (rw [r8]; simp; done) | omega | (simp; done)⟩)
    all_goals try (rename_i hz; rw [hq] at hz; cases hz; done)
  all_goals first
    | (refine LOOP.ind0 (σ := Unit) (fun _ => [(0, .p (.sl (some true) 0 [])), (2, .p (iv 0))]) (fun _ => ⟨[], []⟩) (fun _ => 0) (fun _ => True) () trivial (.inl ⟨rfl, rfl⟩) ?_
       intro _ _ X' hX'
       cbv
       refine BR.mk (fun h => absurd h (by rw [r0, r4]; simp [cmpR])) fun _ => ?_)
    | (refine LOOP.ind0 (σ := List Int × Int) (fun (L, i) => [(0, .ms 0 0 1 none N), (2, .p (iv i))]) (fun (L, i) => ⟨[{ cells := [.arr N tI L], e := 3, fz := false }], []⟩) (fun (L, i) => (N - i).toNat) (fun (L, i) => 0 ≤ i ∧ i ≤ N) (T, 0) (by simp) (.inl ⟨rfl, rfl⟩) ?_
       intro ⟨L, i⟩ hI X' hX'
       cbv
       repeat' (first | exact True.intro | refine And.intro ?_ ?_ | (refine BR.mk ?_ ?_ <;> intro _) | (refine CASE.mk ?_; intro _) | refine NEXT.mk (hX' (_, _) _ _ ?_ ?_ (.inl ⟨rfl, rfl⟩)))
       all_goals first | (show LOOP _ _ _ _ _ _; skip) | (clear hX'; subst_vars; (all_goals try simp only [Short_iff, cmpR, arR, mxR, INB_iff, SLB_iff, SLM_iff, NZ_iff, NN_iff, EQN_iff, LEN_iff, LIM_iff, MK_iff, decide_eq_true_eq, decide_eq_false_iff_not, ne_eq, Bool.and_eq_true, cmpR] at *); (all_goals try dsimp only [Ty.den] at *); (all_goals try simp only [nc_eq] at *); (all_goals try (simp (disch := omega) only [wrap64] at *)); all_goals grind)
       skip)
  all_goals
    refine LOOP.ind (σ := Int) (fun i => [(1, .tl nl tTr l), (2, .p (iv n)), (8, .tl none tTr L2), (17, .p (iv i))]) (fun _ => ⟨[], []⟩) (fun i => (l.length - i).toNat) (fun i => 0 ≤ i ∧ i ≤ l.length) 0 (by simp) (by first | exact .inl ⟨rfl, rfl⟩ | exact .inr ⟨[], [], by rw [SIM_iff]; cbv; simp [nlLe_self]⟩) ?_
    intro i hI X3 hZ
    obtain ⟨a, ha⟩ : ∃ a, a = s2 tI (gt tTr L2 i) := ⟨_, rfl⟩
    obtain ⟨na, hna⟩ : ∃ a, a = s1 tI (gt tTr L2 i) := ⟨_, rfl⟩
    obtain ⟨a2, ha2⟩ : ∃ a, a = s2 tI (gt tTr l i) := ⟨_, rfl⟩
    have haa : i < l.length → a2 = a := fun h => by rw [ha, ha2, r14, r24, hgt2 i hI.1 h]
    have hsl : i < l.length → Short 2000 a := fun h => ⟨by rw [← haa h, ha2, r14, r24]; exact Nat.le_trans (hl2 _ (gtR_mem (t := tTr) hI.1 h)) (by decide)⟩
    have hlen2 : i < l.length → a2.length ≤ 1100 := fun h => by rw [ha2, r14, r24]; exact hl2 _ (gtR_mem (t := tTr) hI.1 h)
    have hinb : i < l.length → INB i (ic (ln (.sl tI) L2)) := fun h => ⟨hI.1, by rw [r4, r12]; show i < (L2.length : Int); rw [hlL]; exact h⟩
    have hinb2 : i < l.length → INB i (ic (ln (.sl tI) l)) := fun h => ⟨hI.1, by rw [r4, r12]; exact h⟩
    cbv
    dsimp only
    rw [← ha]
    refine BR.mk (fun hi => ?_) fun _ => trivial
    have hi : i < l.length := by rw [r0, r4, r12] at hi; simpa [cmpR] using hi
    have hi12 : i < 12 := Int.lt_of_lt_of_le hi (Int.ofNat_le.2 hl12)
    have haa := haa hi
    have hlen2 := hlen2 hi
    have hinb := hinb hi
    have hinb2 := hinb2 hi
    obtain ⟨S, hS⟩ : ∃ S, S = g2 a n := ⟨_, rfl⟩
    obtain ⟨Se, hSe⟩ : ∃ S, S = g3 a n := ⟨_, rfl⟩
    rw [← hS, ← hSe]
    have hsl := hsl hi
    have hSl : S.length ≤ 2000 := by rw [hS, ← hg2]; exact Nat.le_trans shiT_len hsl.h
    refine ⟨hinb, hinb, hsl, OWNK.mk (fun hS0 => ?_) fun N2 hS0 hN2 => ?_⟩
    all_goals
      have hvw : ∀ N : Nat, N = S.length → vw tI N S 0 N = S := fun N h => by rw [r18]; exact vw_all (t := tI) h.symm
      cbv
      dsimp only
      rw [← ha2, haa, ← ha, ← hS, ← hSe]
      try rw [hvw N2 hN2]
      try rw [← hS0]
      repeat' (first | exact True.intro | refine And.intro ?_ ?_ | (refine BR.nn r0 ?_) | (refine BR.lss r0 ?_ ?_ <;> intro _) | (refine BR.neq r0 ?_ ?_ <;> intro _) | (refine BR.eql r0 ?_ ?_ <;> intro _) | (refine BR.leq r0 ?_ ?_ <;> intro _) | (refine BR.gtr r0 ?_ ?_ <;> intro _) | (refine BR.geq r0 ?_ ?_ <;> intro _) | (refine BR.mk ?_ ?_ <;> intro _) | (refine CASE.mk ?_; intro _))
      all_goals try (exact hinb)
      all_goals try (exact hinb2)
      all_goals try (exact hsl)
      all_goals try (exact absurd ‹cmp .neq Se Se = true› (by rw [r0]; simp [cmpR]))
      all_goals try (exact absurd ‹cmp .neq (g9 a) (g9 a) = true› (by rw [r0]; simp [cmpR]))
      all_goals try (exact ⟨by first | (rw [r8]; simp; done) | omega | (simp; done)⟩)
      all_goals try (rename_i hz; rw [hq] at hz; cases hz; done)
    all_goals first
      | (refine LOOP.ind0 (σ := Unit) (fun _ => [(0, .p (.sl (some true) 0 [])), (2, .p (iv 0))]) (fun _ => ⟨[], []⟩) (fun _ => 0) (fun _ => True) () trivial (.inl ⟨rfl, rfl⟩) ?_
         intro _ _ X5 hX5
         cbv
         dsimp only
         rw [← ha2, haa, ← ha]
         refine BR.mk (fun h => absurd h (by rw [r0, r4]; simp [cmpR])) fun _ => ?_)
      | (refine LOOP.ind0 (σ := List Int × Int) (fun (L, i) => [(0, .ms 0 0 1 none N2), (2, .p (iv i))]) (fun (L, i) => ⟨[{ cells := [.arr N2 tI L], e := 3, fz := false }], []⟩) (fun (L, i) => (N2 - i).toNat) (fun (L, i) => 0 ≤ i ∧ i ≤ N2) (S, 0) (by simp) (.inl ⟨rfl, rfl⟩) ?_
         intro ⟨L, j⟩ hJ X5 hX5
         have hNl : N2 ≤ 2000 := by omega
         cbv
         dsimp only
         rw [← ha2, haa, ← ha]
         refine BR.mk (fun hj => ?_) fun _ => ?_
         skip)
    all_goals first
      | (refine ⟨hinb, hinb, hinb2, hinb2, hsl, BR.mk (fun _ => ?_) fun h => ?_⟩
         · have hi1 : ar .add .i64 i 1 = i + 1 := by rw [r1]; exact wrap64 (n := i + 1) (by omega) (by omega)
           rw [hi1]
           exact NEXT.mk (hZ (i + 1) _ _ ⟨by omega, by omega⟩ (by omega) (by first | exact .inl ⟨rfl, rfl⟩ | exact .inr ⟨[], [], by rw [SIM_iff]; cbv; simp [nlLe_self]⟩))
         · rw [hq] at h; cases h)
      | (have hj : j < N2 := by rw [r0, r4] at hj; simpa [cmpR] using hj
         have hj1 : ar .add .i64 j 1 = j + 1 := by rw [r1]; exact wrap64 (n := j + 1) (by omega) (by omega)
         have hjb : INB j (ic N2) := ⟨hJ.1, by rw [r4]; exact hj⟩
         rw [hj1]
         exact ⟨hjb, hjb, NEXT.mk (hX5 (_, j + 1) _ _ ⟨by show (0 : Int) ≤ j + 1; omega, by show j + 1 ≤ (N2 : Int); omega⟩ (by show (N2 - (j + 1) : Int).toNat < (N2 - j : Int).toNat; omega) (.inl ⟨rfl, rfl⟩))⟩)
theorem makes_typed : ∀ xs, TyVs Tryd.prog [23, 24, 3] xs → PurFn Tryd.prog 3 (xs.map .p) (.v (.bool true)) := law3 (P := Tryd.prog) (f := 3) (t1 := 23) (t2 := 24) (t3 := 3) (T1 := .sl tB) (T2 := .sl tTr) (T3 := tI) (by kernel_rfl) fun b l n hb hl _ => cMakes b.1 b.2 l.1 l.2 n (fun x hx => (wf_u8 (hb.2.2 x hx)).1) hl.1
end Go.Ab

