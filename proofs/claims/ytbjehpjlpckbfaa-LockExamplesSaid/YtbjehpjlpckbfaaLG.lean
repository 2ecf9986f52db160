/- LockExamples: the walk. -/
import Derived.Test.YtbjehpjlpckbfaaLB
import Derived.Test.YtbjehpjlpckbfaaLF
set_option linter.unusedSimpArgs false
set_option linter.unusedVariables false
set_option maxRecDepth 20000
set_option maxHeartbeats 8000000
namespace Go.Ab
open Go.Proofs
def setF (k tw c : Int) (l : LE) (t : Int) (ch : Int × Int × Int × Int) : Int × Int × LE × Int :=
 if atE tw t ≠ 0 then (atE tw t, tw, l, c) else if lcheckM ch ≠ 0 then (lcheckM ch, tw, l, c) else
   match (liveL t l).find? (fun e => decide (e.1 = ch.1)) with
   | none => if (liveL t l).length = 16 then (17, tw, l, c) else (0, t, liveL t l ++ [(ch.1, (ch.1, (ch.2.2.1, (ch.2.2.2, t + k))), c)], c + 1)
   | some x => if x.2.1.2.2.1 > ch.2.2.2 then (0, t, liveL t l, c) else (0, t, (liveL t l).map fun e => if e.1 = ch.1 then (ch.1, newV k t ch x.2.1, e.2.2) else e, c)
theorem MNot.find {l : LE} {a : Int} (h : MNot l a) : l.find? (fun e => decide (e.1 = a)) = none := List.find?_eq_none.2 fun x hx => by simpa using h x hx
theorem MHas.find {l : LE} {a : Int} {v : LKV} {b : Int} (h : MHas l a v b) : l.find? (fun e => decide (e.1 = a)) = some (a, v, b) := by
 obtain ⟨l1, l2, rfl, h⟩ := h
 rw [List.find?_append, List.find?_eq_none.2 fun x hx => by simpa using h x hx]
 simp
theorem SETR.det {k tw c : Int} {l : LE} {t : Int} {ch : Int × Int × Int × Int} {e tw' : Int} {l' : LE} {c' : Int} (hok : MOK l c) (h : SETR k tw c l t ch e tw' l' c') : setF k tw c l t ch = (e, tw', l', c') := by
 unfold setF
 have hokL : MOK (liveL t l) c := hok.sub (liveL_sub _ _)
 cases h with
 | «at» h1 => rw [if_pos h1]
 | chk h1 h2 => rw [if_neg (by rw [h1]; decide), if_pos h2]
 | full h1 h2 h3 h4 =>
   rw [if_neg (by rw [h1]; decide), if_neg (by rw [h2]; decide), h3.find]
   dsimp only
   rw [if_pos h4]
 | ok _ _ h1 h2 h3 =>
   rw [if_neg (by rw [h1]; decide), if_neg (by rw [h2]; decide)]
   rcases h3 with ⟨v, b, hh, hgt, rfl, rfl⟩ | ⟨v, b, hh, hle, hp⟩ | ⟨hn, hne, hp⟩
   · rw [hh.find]
     dsimp only
     rw [if_pos hgt]
   · rw [hh.find]
     dsimp only
     rw [if_neg (by omega)]
     rcases hp with ⟨l1, v0, b0, l2, e, h4, rfl, rfl⟩ | ⟨hno, _⟩
     · have hnk := hokL.nk
       rw [e] at hnk ⊢
       rw [List.pairwise_append, List.pairwise_cons] at hnk
       rw [List.map_append, List.map_cons]
       have m1 : (l1.map fun e => if e.1 = ch.1 then ((ch.1, newV k t ch v, e.2.2) : Int × LKV × Int) else e) = l1 := by
         conv => rhs; rw [← List.map_id l1]
         exact List.map_congr_left fun x hx => by rw [if_neg (h4 x hx)]; rfl
       have m2 : (l2.map fun e => if e.1 = ch.1 then ((ch.1, newV k t ch v, e.2.2) : Int × LKV × Int) else e) = l2 := by
         conv => rhs; rw [← List.map_id l2]
         exact List.map_congr_left fun x hx => by rw [if_neg (fun e => hnk.2.1.1 x hx e.symm)]; rfl
       rw [m1, m2]
       simp
     · exact absurd hno hh.not
   · rw [hn.find]
     dsimp only
     rw [if_neg hne]
     rcases hp with ⟨l1, v0, b0, l2, e, h4, rfl, rfl⟩ | ⟨_, rfl, rfl⟩
     · exact absurd rfl (hn (ch.1, v0, b0) (by rw [e]; simp))
     · rfl
def LX (m : Nat) : LE := (0, (0, (2, (1048575, 65))), 0) :: (List.range m).map fun j : Nat => ((((j : Int) + 1, (((j : Int) + 1, (0, (1, 66))), (j : Int) + 1))) : Int × LKV × Int)
theorem LX_succ (m : Nat) : LX (m + 1) = LX m ++ [((m : Int) + 1, (((m : Int) + 1, (0, (1, 66))), (m : Int) + 1))] := by
 unfold LX
 rw [List.range_succ, List.map_append]; rfl
theorem LX_mem {m : Nat} {e : Int × LKV × Int} (h : e ∈ LX m) : 0 ≤ e.1 ∧ e.1 ≤ m ∧ 65 ≤ e.2.1.2.2.2 := by
 unfold LX at h
 rcases List.mem_cons.1 h with rfl | h
 · exact ⟨by decide, by show (0 : Int) ≤ m; omega, by decide⟩
 · obtain ⟨j, hj, rfl⟩ := List.mem_map.1 h
   have := List.mem_range.1 hj
   exact ⟨by show (0 : Int) ≤ (j : Int) + 1; omega, by show (j : Int) + 1 ≤ m; omega, Int.le_of_lt (by decide : (65 : Int) < 66)⟩
theorem LX_live {m : Nat} {t : Int} (ht : t ≤ 65) : liveL t (LX m) = LX m := List.filter_eq_self.2 fun e he => by
 have := (LX_mem he).2.2
 simp [deadB]; omega
theorem LX_len (m : Nat) : (LX m).length = m + 1 := by simp [LX]
def LY : LE := (LX 15).map fun e => if e.1 = 3 then ((3, ((3, (0, (2, 125))), e.2.2)) : Int × LKV × Int) else e
def LZ : LE := liveL 66 LY ++ [(50, ((50, (0, (1, 126))), 16))]
def LW : LE := [(3, ((3, (0, (2, 125))), 3)), (50, ((50, (0, (1, 126))), 16))]
theorem ex1 : setF 60 6 16 (LX 15) 65 (50, (99, (0, 1))) = (17, 6, LX 15, 16) := by rfl
theorem ex2 : setF 60 6 16 (LX 15) 65 (3, (99, (0, 2))) = (0, 65, LY, 16) := by rfl
theorem ex3 : setF 60 65 16 LY 66 (50, (99, (0, 1))) = (0, 66, LZ, 17) := by rfl
theorem ex4 : LZ.length = 16 := by rfl
theorem ex5 : liveL 67 LZ = LW := by rfl
theorem exW {c : Int} {n : Nat} (h : TAB c n LW) : locksL LW = [(3, (0, (2, 125))), (50, (0, (1, 126)))] := by
 refine (REL.locks h).uniq ⟨?_, ?_⟩
 · unfold SRT; decide
 · exact .refl _
def rowF (i : Int) : Int × Int × Nat × LE := if i ≤ 9 then (0, 0, 0, []) else (5, 1, 1, LX 0)
theorem SETR.w0 {k tw c : Int} {l : LE} {t : Int} {ch : Int × Int × Int × Int} {e tw' : Int} {l' : LE} {c' : Int} (h : SETR k tw c l t ch e tw' l' c') (h0 : 0 ≤ tw) : 0 ≤ tw' := by
 cases h with
 | «at» => exact h0
 | chk => exact h0
 | full => exact h0
 | ok _ _ h1 =>
   unfold atE at h1
   split at h1
   · cases h1
   · omega
abbrev tRow : Ty := .pair tI (.pair tChoice tI)
def TBL : List tRow.den := [(-1, (0, 0, 0, 0), 1), (1099511627777, (0, 0, 0, 0), 1), (0, (0, 0, 0, 1), 1), (0, (-1, 1, 9, 0), 1), (0, (16777216, 0, 0, 1), 1), (0, (0, 16777216, 0, 1), 1), (0, (0, 1, 3, 0), 6), (0, (0, 1, 0, 0), 1), (0, (0, 1, 0, 1048576), 1), (5, (0, 16777215, 2, 1048575), 0), (4, (0, 0, 9, 0), 12)]
theorem tbl_step (i : Int) (h0 : 0 ≤ i) (h1 : i < 11) {t a to se m x : Int} (hx : gtR tRow TBL i = (t, (a, (to, (se, m))), x)) :
   0 ≤ se ∧ setF 60 (rowF i).1 (rowF i).2.1 (rowF i).2.2.2 t (a, (to, (se, m))) = (x, (rowF (i + 1)).1, (rowF (i + 1)).2.2.2, (rowF (i + 1)).2.1) := by
 rcases (show i = 0 ∨ i = 1 ∨ i = 2 ∨ i = 3 ∨ i = 4 ∨ i = 5 ∨ i = 6 ∨ i = 7 ∨ i = 8 ∨ i = 9 ∨ i = 10 by omega) with rfl | rfl | rfl | rfl | rfl | rfl | rfl | rfl | rfl | rfl | rfl <;> cases hx <;> exact ⟨by decide, by rfl⟩
theorem rowF_len (i : Int) : (rowF i).2.2.1 = (rowF i).2.2.2.length := by unfold rowF; split <;> rfl
theorem cAwake0 : PurS Try.prog 11 [] (.p (.v (.bool true))) := ⟨_, rfl, s32_awake⟩
theorem cNothing : PurS Try.prog 35 [] (.p (.v (.bool true))) := ⟨_, rfl, s32_nothing⟩
theorem cBodies : PurS Try.prog 36 [] (.p (.v (.bool true))) := ⟨_, rfl, s32_bodies⟩
theorem lawExamples  : PurS Try.prog 5 [] (.sb true) := by
 refine PurS.of (S := [(11, _), (35, _), (36, _), (21, _)]) (T := [(12, _), (14, _), (16, _), (18, _)]) (U := [(14, _)]) (tbl := []) (n := 133) hm32 cfg (.cons (spT0.ok cAwake0) (.cons (spT0.ok cNothing) (.cons (spT0.ok cBodies) (.cons (spT2.ok (a := (.sl (.pair (.int .i64) (.pair (.int .u8) (.pair (.int .i64) (.int .i64)))))) (b := (.sl (.pair (.int .i64) (.pair (.int .u8) (.pair (.int .i64) (.int .i64)))))) fun x0 x1 h => cEqK x0.1 x0.2 x1.1 x1.2 h) .nil)))) (.cons tNew (.cons tSet (.cons tTick (.cons tLocks .nil)))) (.cons uSet .nil) .nil 0 Try.call5 Try.func5 (ac5_ok (some (0, 0))) (by rw [Try.ntmps5]; exact Nat.le_refl _) rfl ⟨_, rfl⟩ ?_
 intro cmp ar cv tn ic ai mx an ad ml sb mn ln em gt up ap sc vw cp rp p1 p2 s1 s2 X Y hX hY r0 r1 r2 r3 r4 r5 r6 r7 r8 r9 r10 r11 r12 r13 r14 r15 r16 r17 r18 r19 r20 r21 r22 r23 r24
 generalize hg0 : eqK = g0
 cbv
 have hE2 : ∀ x, g0 x x = true := fun x => by rw [← hg0]; simp [eqK]
 have nk : ∀ {k : Int} {A B : Prop}, (1 ≤ k ∧ k ≤ 60) → A → NEWK k A B := fun h a => ⟨fun _ => a, fun h' => absurd h h'⟩
 have nx : ∀ {k : Int} {A B : Prop}, ¬ (1 ≤ k ∧ k ≤ 60) → B → NEWK k A B := fun h b => ⟨fun h' => absurd h' h, fun _ => b⟩
 refine nx (by omega) (nx (by omega) (nk (by omega) ?_))
 obtain ⟨T, hTT⟩ : ∃ T : List tRow.den, T = TBL := ⟨_, rfl⟩
 have hlT : ic (ln tRow T) = 11 := by rw [r4, r12, hTT]; rfl
 refine BR.nn r0 (BR.nn r0 (BR.nn r0 ?_))
 refine LOOP.ind (σ := Int × Int × Int × Nat × LE) (fun (i, w, c, n, l) => [(5, .ptr 0 0), (72, .tl (some false) tRow T), (73, .p (iv (ic (ln tRow T)))), (74, .p (iv i))])
   (fun (i, w, c, n, l) => tabS 60 w c n l) (fun (i, w, c, n, l) => (11 - i).toNat) (fun (i, w, c, n, l) => (0 ≤ i ∧ i ≤ 11) ∧ (w, c, n, l) = rowF i ∧ 0 ≤ w ∧ TAB c n l) (0, 0, 0, 0, []) ⟨by omega, rfl, by omega, TAB.empty⟩ (.inl ⟨by rw [hTT]; rfl, rfl⟩) ?_
 intro ⟨i, w, c, n, l⟩ hI X' hX
 dsimp only at hI
 obtain ⟨⟨hI1, hI2⟩, hr, hw0, hT⟩ := hI
 obtain ⟨⟨t, ⟨a, to, se, m⟩, x⟩, hx⟩ : ∃ z : tRow.den, z = gt tRow T i := ⟨_, rfl⟩
 have hstep := fun h => tbl_step i hI1 h (show gtR tRow TBL i = (t, (a, (to, (se, m))), x) by rw [← hTT, hx, r14])
 have hadd : i < 11 → ar .add .i64 i 1 = i + 1 := fun h => by rw [r1]; exact wrap64 (n := i + 1) (by omega) (by omega)
 have q1 : p1 tI (.pair tChoice tI) (t, (a, to, se, m), x) = t := by rw [r21]
 have q2 : p1 tChoice tI (p2 tI (.pair tChoice tI) (t, (a, to, se, m), x)) = (a, to, se, m) := by rw [r21, r22]
 have q3 : p2 tChoice tI (p2 tI (.pair tChoice tI) (t, (a, to, se, m), x)) = x := by rw [r22]
 have q4 : p1 tI (.pair tI (.pair tU tI)) (a, to, se, m) = a := by rw [r21]
 have q5 : p1 tI (.pair tU tI) (p2 tI (.pair tI (.pair tU tI)) (a, to, se, m)) = to := by rw [r21, r22]
 have q6 : p1 tU tI (p2 tI (.pair tU tI) (p2 tI (.pair tI (.pair tU tI)) (a, to, se, m))) = se := by rw [r21, r22]
 have q7 : p2 tU tI (p2 tI (.pair tU tI) (p2 tI (.pair tI (.pair tU tI)) (a, to, se, m))) = m := by rw [r22]
 clear hTT
 cbv
 try simp only [nc_eq] at *
 rw [hlT, ← hx]
 simp only [q1, q2, q3, q4, q5, q6, q7]
 refine BR.lss r0 (fun hc => ?_) (fun hc => ?_)
 · obtain ⟨hse, hst⟩ := hstep hc
   rw [← hr] at hst
   refine ⟨⟨hI1, hc⟩, ⟨hI1, hc⟩, SETK.mk hT (by omega) hw0 fun e w' c' n' l' hR hn' => ?_⟩
   have hT' := hT.set hR hse
   have hd := (hR.det hT.ok).symm.trans hst
   have hw' := hR.w0 hw0
   rw [← hn'] at hT'
   simp only [Prod.mk.injEq] at hd
   obtain ⟨rfl, d2, d3, d4⟩ := hd
   have hr' : (w', c', n', l') = rowF (i + 1) := by
     rw [d2, d3, d4, hn', d3, ← rowF_len]
   cbv
   refine BR.nn r0 ?_
   rw [hadd hc]
   refine NEXT.mk (hX (i + 1, w', c', n', l') _ _ ⟨⟨by show 0 ≤ i + 1; omega, by show i + 1 ≤ 11; omega⟩, hr', hw', hT'⟩ (by show (11 - (i + 1)).toNat < (11 - i).toNat; omega) (.inr ⟨[some 0, some 3], [], ?_⟩))
   rw [SIM_iff]; cbv
   simp [nlLe_self, lstEq, hlT]
 · obtain rfl : i = 11 := by omega
   obtain ⟨rfl, rfl, rfl, rfl⟩ : w = 5 ∧ c = 1 ∧ n = 1 ∧ l = LX 0 := by
     have : (w, c, n, l) = (5, 1, 1, LX 0) := hr
     simpa using this
   clear hX hstep hr hx q1 q2 q3 q4 q5 q6 q7 hI1 hI2 hadd hc hw0 t x a to se m X' hlT T
   refine LOOP.ind (σ := Int × Int × Nat × LE) (fun (i, w, n, l) => [(5, .ptr 0 0), (9, .p (iv i))])
     (fun (i, w, n, l) => tabS 60 w i n l) (fun (i, w, n, l) => (16 - i).toNat) (fun (i, w, n, l) => (1 ≤ i ∧ i ≤ 16) ∧ l = LX (i.toNat - 1) ∧ (0 ≤ w ∧ w ≤ 6 ∧ (i ≠ 1 → w = 6)) ∧ TAB i n l) (1, 5, 1, LX 0) ⟨by omega, rfl, by omega, hT⟩ (.inl ⟨rfl, rfl⟩) ?_
   clear hT
   intro ⟨i, w, n, l⟩ hI X' hX
   dsimp only at hI
   obtain ⟨⟨hI1, hI2⟩, hl, ⟨hw0, hw1, hw2⟩, hT⟩ := hI
   have hadd : i < 16 → ar .add .i64 i 1 = i + 1 := fun h => by rw [r1]; exact wrap64 (n := i + 1) (by omega) (by omega)
   cbv
   try simp only [nc_eq] at *
   refine BR.lss r0 (fun hc => ?_) (fun hc => ?_)
   · refine SETK.mk hT (by omega) hw0 fun e w' c' n' l' hR hn' => ?_
     have hT' := hT.set hR (by show (0 : Int) ≤ 0; omega)
     rw [← hn'] at hT'
     have hlive : liveL 6 l = l := by rw [hl]; exact LX_live (by omega)
     have hno : ∀ e ∈ l, e.1 ≠ i := fun e he => by rw [hl] at he; have := (LX_mem he).2.1; omega
     have hck : lcheckM (i, (99, (0, 1))) = 0 := by
       unfold lcheckM
       dsimp only [Ty.den]
       rw [if_neg (by omega), if_neg (by omega), if_neg (by omega)]
     obtain ⟨h2, h3, hS⟩ := hR.good (by unfold atE; rw [if_neg (by omega), if_neg (by omega)]) hck (by rw [hlive, hl, LX_len]; omega)
     rw [hlive] at hS
     have hl' : l' = LX ((i + 1).toNat - 1) ∧ c' = i + 1 := by
       rcases hS.no hno with ⟨l1, v0, b, l2, e, _⟩ | ⟨_, rfl, rfl⟩
       · exact absurd rfl (hno (i, v0, b) (by rw [e]; simp))
       · refine ⟨?_, rfl⟩
         rw [show (i + 1).toNat - 1 = (i.toNat - 1) + 1 by omega, LX_succ, hl, show (((i.toNat - 1 : Nat) : Int) + 1) = i by omega]
         rfl
     obtain ⟨hl', rfl⟩ := hl'
     subst h2 h3
     clear hR hS hn'
     cbv
     refine BR.nn r0 ?_
     rw [hadd hc]
     refine NEXT.mk (hX (i + 1, _, n', l') _ _ ⟨⟨by show 1 ≤ i + 1; omega, by show i + 1 ≤ 16; omega⟩, hl', ⟨by show (0 : Int) ≤ 6; omega, by show (6 : Int) ≤ 6; omega, fun _ => rfl⟩, hT'⟩ (by show (16 - (i + 1)).toNat < (16 - i).toNat; omega) (.inr ⟨[some 0, some 2], [], ?_⟩))
     rw [SIM_iff]; cbv
   · obtain rfl : i = 16 := by omega
     obtain rfl : w = 6 := hw2 (by omega)
     obtain rfl : l = LX 15 := hl
     obtain rfl : n = 16 := hT.nl.symm
     clear hX hw2 hw1 hw0 hI1 hI2 hadd hc
     obtain ⟨l0, hl0⟩ : ∃ l, l = LX 15 := ⟨_, rfl⟩
     rw [← hl0] at hT ⊢
     refine SETK.mk hT (by omega) (by omega) fun e w' c' n' l1 hR hn' => ?_
     have hT1 := hT.set hR (by decide)
     have hd := hR.det hT.ok
     rw [hl0, ex1] at hd
     simp only [Prod.mk.injEq] at hd
     obtain ⟨rfl, rfl, hl1, rfl⟩ := hd
     replace hl1 := hl1.symm
     rw [← hn'] at hT1
     clear hR hn' hT
     cbv
     refine BR.nn r0 (SETK.mk hT1 (by omega) (by omega) fun e w' c' n' l2 hR hn' => ?_)
     have hT2 := hT1.set hR (by decide)
     have hd := hR.det hT1.ok
     rw [hl1, ex2] at hd
     simp only [Prod.mk.injEq] at hd
     obtain ⟨rfl, rfl, hl2, rfl⟩ := hd
     replace hl2 := hl2.symm
     rw [← hn'] at hT2
     clear hR hn' hT1
     cbv
     refine BR.nn r0 (SETK.mk hT2 (by omega) (by omega) fun e w' c' n' l3 hR hn' => ?_)
     have hT3 := hT2.set hR (by decide)
     have hd := hR.det hT2.ok
     rw [hl2, ex3] at hd
     simp only [Prod.mk.injEq] at hd
     obtain ⟨rfl, rfl, hl3, rfl⟩ := hd
     replace hl3 := hl3.symm
     rw [← hn'] at hT3
     clear hR hn' hT2
     cbv
     refine BR.nn r0 (LOKK.mk hT3 fun R r hR hr => ?_)
     have hRl : R.length = 16 := by rw [hR, (REL.locks hT3).len, hl3, ex4]
     have hicR : ic (ln tLock R) = 16 := by rw [r4, r12]; show ((R.length : Nat) : Int) = 16; rw [hRl]; rfl
     clear hR
     cbv
     rw [hicR]
     refine BR.nn r0 (TICKK.mk hT3 (by omega) fun e w' n4 l4 hR hn4 => ?_)
     have hT4 := hR.tab hT3
     obtain ⟨he, hw, hl4⟩ := hR.good (by decide)
     rw [hl3, ex5] at hl4
     subst he hw
     rw [← hn4] at hT4
     clear hR hn4
     cbv
     refine BR.nn r0 (LOKK.mk hT4 fun R2 r2 hR2 hr2 => ?_)
     rw [hl4] at hT4 hR2
     rw [exW hT4] at hR2
     cbv
     subst hR2
     refine ⟨⟨by simp⟩, .mk (fun _ => trivial) (fun h => absurd h (by
       dsimp only
       rw [hE2]
       decide))⟩
theorem examples_typed : ∀ xs, TyVs Try.prog [] xs → PurFn Try.prog 5 (xs.map .p) (.v (.bool true)) := fun xs hx => by
 match xs, hx with
 | [], _ =>
   obtain ⟨x, hx, h⟩ := lawExamples
   cases hx
   exact h
end Go.Ab
