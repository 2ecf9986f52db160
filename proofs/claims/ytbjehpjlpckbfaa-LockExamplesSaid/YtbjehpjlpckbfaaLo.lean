/- The table's methods: New, Set, Tick, Sense. -/
import Derived.Test.YtbjehpjlpckbfaaLn
set_option linter.unusedSimpArgs false
set_option linter.unusedVariables false
set_option maxRecDepth 20000
set_option maxHeartbeats 8000000
namespace Go.Ab
open Go.Proofs
def spClone : OpsS → CallS := fun _ _ ds st K => match ds with
 | [.mref b] => (match nthD st.box b with
   | some B => B.m = true ∧ B.ap = false ∧ B.e = 6 ∧ K (.mref st.box.length) { st with box := st.box ++ [B] }
   | none => False)
 | _ => False
theorem tClone : ∀ ds st K, spClone OpsS.real 67 ds st K → FnS Try.prog 67 ds st K := fun ds st K h => by
 unfold spClone at h
 split at h
 · split at h
   · rename_i b _ B hB
     obtain ⟨h1, h2, h3, h4⟩ := h
     refine cCloneD (StS.box_get hB) h1 h2 h3 ?_
     exact .of (by rw [StS.box_len]; rfl) push_conc.symm h4
   · exact h.elim
 · exact h.elim
def mapAt (a : Nat) (st : StS) (K : Int → Nat → LE → Prop) : Prop := match nthD st.box a with
 | some B => (match B.cells with
   | [.p (.v (.int .i64 c)), .arr n t l] => (match castL tLE t l with | some l => K c n l | none => False)
   | _ => False)
 | none => False
def intAt (b : Nat) (st : StS) (K : Int → Prop) : Prop := match nthD st.box b with
 | some B => (match B.cells with
   | [.p (.v (.int .i64 x))] => K x
   | _ => False)
 | none => False
structure DELK (now c : Int) (n : Nat) (l : LE) (K : LE → Nat → Prop) : Prop where
 ok : MOK l c
 c0 : 0 ≤ c
 nl : l.length = n
 n1 : n ≤ 1000
 h : ∀ L m, L = liveL now l → m = L.length → K L m
def spDel : OpsS → CallS := fun _ _ ds st K => match ds with
 | [.mref a, .fn (.func 69) [] [.ptr b 0]] => mapAt a st fun c n l => intAt b st fun now => DELK now c n l fun L m =>
     frS [a, b] [] [.mref 0, .fn (.func 69) [] [.ptr 1 0]] ⟨[{ cells := [.p (iv c), .arr n tLE l], e := 6, fz := true, m := true }, { cells := [.p (iv now)], e := 3, fz := false }], []⟩ (.tup []) ⟨[{ cells := [.p (iv c), .arr m tLE L], e := 6, fz := true, m := true }, { cells := [.p (iv now)], e := 3, fz := false }], []⟩ ds st K
 | _ => False
theorem mapAt_some {a : Nat} {st : StS} {K : Int → Nat → LE → Prop} (h : mapAt a st K) : ∃ c n l, K c n l := by
 unfold mapAt at h
 repeat' split at h
 all_goals first | exact ⟨_, _, _, h⟩ | exact h.elim
theorem intAt_some {b : Nat} {st : StS} {K : Int → Prop} (h : intAt b st K) : ∃ x, K x := by
 unfold intAt at h
 repeat' split at h
 all_goals first | exact ⟨_, h⟩ | exact h.elim
theorem tDel : ∀ ds st K, spDel OpsS.real 68 ds st K → FnS Try.prog 68 ds st K := fun ds st K h => by
 unfold spDel at h
 split at h
 · obtain ⟨c, n, l, h⟩ := mapAt_some h
   obtain ⟨now, h⟩ := intAt_some h
   obtain ⟨h1, h2, h3, h4, h5⟩ := h
   exact frS_ok (cDel now c n l _ _ rfl rfl h1 h2 h3 h4) (h5 _ _ rfl rfl)
 · exact h.elim
def tabS (k now c : Int) (n : Nat) (l : LE) : StS := ⟨[{ cells := [.p (iv k), .p (iv now), .mref 1], e := 78, fz := false }, { cells := [.p (iv c), .arr n tLE l], e := 6, fz := true, m := true }], []⟩
def tabE (k now c : Int) (n : Nat) (l : LE) : StS := ⟨[{ cells := [.p (iv k), .p (iv now), .mref 2], e := 78, fz := false }, { cells := [], e := 6, fz := true }, { cells := [.p (iv c), .arr n tLE l], e := 6, fz := true, m := true }], []⟩
theorem cNew (k : Int) (hk : 1 ≤ k ∧ k ≤ 60) : FnS Try.prog 12 ([injT tI k]) (⟨[], []⟩ ) fun x_ s_ => x_ = (.tup [.ptr 0 0, .p (iv 0)]) ∧ s_ = (tabS k 0 0 0 []) := by
 refine FnS.of (S := []) (T := []) (U := []) (tbl := []) (n := 14) hm32 cfg .nil .nil .nil .nil 0 Try.call12 Try.func12 (ac12_ok (some (0, 0))) (by rw [Try.ntmps12]; exact Nat.le_refl _) rfl _ _ _ (by rfl) ?_
 intro cmp ar cv tn ic ai mx an ad ml sb mn ln em gt up ap sc vw cp rp p1 p2 s1 s2 X Y hX hY r0 r1 r2 r3 r4 r5 r6 r7 r8 r9 r10 r11 r12 r13 r14 r15 r16 r17 r18 r19 r20 r21 r22 r23 r24
 cbv
 refine BR.lss r0 (fun h => absurd h (by omega)) fun _ => BR.gtr r0 (fun h => absurd h (by omega)) fun _ => ?_
 refine RET.mk ⟨[some 1, some 0], [], ?_⟩
 rw [SIM_iff]; cbv
 try simp [lstEq]
theorem cNewX (k : Int) (hk : ¬ (1 ≤ k ∧ k ≤ 60)) : FnS Try.prog 12 ([injT tI k]) (⟨[], []⟩ ) fun x_ s_ => x_ = (.tup [.p (.v (.pointer none)), .p (iv 1)]) ∧ s_ = (⟨[], []⟩) := by
 refine FnS.of (S := []) (T := []) (U := []) (tbl := []) (n := 14) hm32 cfg .nil .nil .nil .nil 0 Try.call12 Try.func12 (ac12_ok (some (0, 0))) (by rw [Try.ntmps12]; exact Nat.le_refl _) rfl _ _ _ (by rfl) ?_
 intro cmp ar cv tn ic ai mx an ad ml sb mn ln em gt up ap sc vw cp rp p1 p2 s1 s2 X Y hX hY r0 r1 r2 r3 r4 r5 r6 r7 r8 r9 r10 r11 r12 r13 r14 r15 r16 r17 r18 r19 r20 r21 r22 r23 r24
 cbv
 refine BR.lss r0 (fun _ => ?_) fun h1 => BR.gtr r0 (fun _ => ?_) fun h2 => absurd (show 1 ≤ k ∧ k ≤ 60 by omega) hk
 all_goals
   refine RET.mk ⟨[], [], ?_⟩
   rw [SIM_iff]; cbv
   simp
def atE (tn t : Int) : Int := if t < 0 ∨ t > 1099511627776 then 1 else if t < tn then 12 else 0
def newV (k t : Int) (ch : Int × Int × Int × Int) (v : LKV) : LKV := if v.2.2.1 < ch.2.2.2 then (ch.1, (ch.2.2.1, (ch.2.2.2, t + k))) else (v.1, (v.2.1, (v.2.2.1, t + k)))
def SETOK (k t : Int) (L : LE) (c : Int) (ch : Int × Int × Int × Int) (l' : LE) (c' : Int) : Prop :=
 (∃ v b, MHas L ch.1 v b ∧ v.2.2.1 > ch.2.2.2 ∧ l' = L ∧ c' = c) ∨ (∃ v b, MHas L ch.1 v b ∧ v.2.2.1 ≤ ch.2.2.2 ∧ MPut L ch.1 (newV k t ch v) c l' c') ∨
 (MNot L ch.1 ∧ L.length ≠ 16 ∧ MPut L ch.1 (ch.1, (ch.2.2.1, (ch.2.2.2, t + k))) c l' c')
inductive SETR (k tn c : Int) (l : LE) (t : Int) (ch : Int × Int × Int × Int) : Int → Int → LE → Int → Prop
 | at (h : atE tn t ≠ 0) : SETR k tn c l t ch (atE tn t) tn l c
 | chk (h : atE tn t = 0) (h2 : lcheckM ch ≠ 0) : SETR k tn c l t ch (lcheckM ch) tn l c
 | full (h : atE tn t = 0) (h2 : lcheckM ch = 0) (h3 : MNot (liveL t l) ch.1) (h4 : (liveL t l).length = 16) : SETR k tn c l t ch 17 tn l c
 | ok (l' : LE) (c' : Int) (h : atE tn t = 0) (h2 : lcheckM ch = 0) (h3 : SETOK k t (liveL t l) c ch l' c') : SETR k tn c l t ch 0 t l' c'
theorem MHas_uniq {l : LE} {k : Int} {v v' : LKV} {b b' : Int} {c : Int} (hok : MOK l c) (h : MHas l k v b) (h' : MHas l k v' b') : v = v' ∧ b = b' := by
 obtain ⟨l1, l2, e, _⟩ := h
 obtain ⟨l1', l2', e', _⟩ := h'
 have := hok.uniqK (x := (k, v, b)) (y := (k, v', b')) (by rw [e]; simp) (by rw [e']; simp) rfl
 simpa using this
theorem MPut_det {l : LE} {k : Int} {v : LKV} {c : Int} {l1 l2 : LE} {c1 c2 : Int} (h1 : MPut l k v c l1 c1) (h2 : MPut l k v c l2 c2) : l1 = l2 ∧ c1 = c2 := by
 rcases h1 with ⟨a, v0, b, r, e, ha, rfl, rfl⟩ | ⟨hn, rfl, rfl⟩
 · rcases h2 with ⟨a', v0', b', r', e', ha', rfl, rfl⟩ | ⟨hn, _⟩
   · refine ⟨?_, rfl⟩
     rw [e] at e'
     clear e
     induction a generalizing a' with
     | nil =>
       cases a' with
       | nil => simp at e'; obtain ⟨⟨_, rfl⟩, rfl⟩ := e'; rfl
       | cons x a' => simp at e'; exact absurd (by rw [← e'.1]) (ha' x (by simp))
     | cons x a ih =>
       cases a' with
       | nil => simp at e'; exact absurd (by rw [e'.1]) (ha x (by simp))
       | cons y a' =>
         simp only [List.cons_append, List.cons.injEq] at e'
         obtain ⟨rfl, e'⟩ := e'
         simp only [List.cons_append, List.cons.injEq, true_and]
         exact ih (fun z hz => ha z (List.mem_cons_of_mem _ hz)) a' e' (fun z hz => ha' z (List.mem_cons_of_mem _ hz))
   · exact absurd rfl (hn (k, v0, b) (by rw [e]; simp))
 · rcases h2 with ⟨a', v0', b', r', e', ha', rfl, rfl⟩ | ⟨_, rfl, rfl⟩
   · exact absurd rfl (hn (k, v0', b') (by rw [e']; simp))
   · exact ⟨rfl, rfl⟩
theorem MPut_ex (l : LE) (k : Int) (v : LKV) (c : Int) : ∃ l' c', MPut l k v c l' c' := by
 rcases MHas_or l k with h | ⟨v0, b, l1, l2, e, h⟩
 · exact ⟨_, _, .inr ⟨h, rfl, rfl⟩⟩
 · exact ⟨_, _, .inl ⟨l1, v0, b, l2, e, h, rfl, rfl⟩⟩
section
variable {k tw c : Int} {l : LE} {t : Int} {ch : Int × Int × Int × Int} {e tw' c' : Int} {l' : LE} (h : SETR k tw c l t ch e tw' l' c')
include h
theorem SETR.bad (h1 : atE tw t ≠ 0) : e = atE tw t ∧ tw' = tw ∧ l' = l ∧ c' = c := by
 cases h with
 | «at» => exact ⟨rfl, rfl, rfl, rfl⟩
 | chk h => exact absurd h h1
 | full h => exact absurd h h1
 | ok _ _ h => exact absurd h h1
theorem SETR.wrong (h1 : atE tw t = 0) (h2 : lcheckM ch ≠ 0) : e = lcheckM ch ∧ tw' = tw ∧ l' = l ∧ c' = c := by
 cases h with
 | «at» h => exact absurd h1 h
 | chk h => exact ⟨rfl, rfl, rfl, rfl⟩
 | full _ h => exact absurd h h2
 | ok _ _ _ h => exact absurd h h2
theorem SETR.over (h1 : atE tw t = 0) (h2 : lcheckM ch = 0) (h3 : MNot (liveL t l) ch.1) (h4 : (liveL t l).length = 16) : e = 17 ∧ tw' = tw ∧ l' = l ∧ c' = c := by
 cases h with
 | «at» h => exact absurd h1 h
 | chk _ h => exact absurd h2 h
 | full => exact ⟨rfl, rfl, rfl, rfl⟩
 | ok _ _ _ _ h =>
   rcases h with ⟨v, b, ⟨l1, l2, e, _⟩, _⟩ | ⟨v, b, ⟨l1, l2, e, _⟩, _⟩ | ⟨_, h, _⟩
   · exact absurd rfl (h3 (ch.1, v, b) (by rw [e]; simp))
   · exact absurd rfl (h3 (ch.1, v, b) (by rw [e]; simp))
   · exact absurd h4 h
theorem SETR.good (h1 : atE tw t = 0) (h2 : lcheckM ch = 0) (h3 : ¬ (MNot (liveL t l) ch.1 ∧ (liveL t l).length = 16)) : e = 0 ∧ tw' = t ∧ SETOK k t (liveL t l) c ch l' c' := by
 cases h with
 | «at» h => exact absurd h1 h
 | chk _ h => exact absurd h2 h
 | full _ _ h h' => exact absurd ⟨h, h'⟩ h3
 | ok _ _ _ _ h => exact ⟨rfl, rfl, h⟩
end
section
variable {k t : Int} {L : LE} {c : Int} {ch : Int × Int × Int × Int} {l' : LE} {c' : Int} (hok : MOK L c) (h : SETOK k t L c ch l' c')
include h
theorem SETOK.no (hn : MNot L ch.1) : MPut L ch.1 (ch.1, (ch.2.2.1, (ch.2.2.2, t + k))) c l' c' := by
 rcases h with ⟨v, b, ⟨l1, l2, e, _⟩, _⟩ | ⟨v, b, ⟨l1, l2, e, _⟩, _⟩ | ⟨_, _, h⟩
 · exact absurd rfl (hn (ch.1, v, b) (by rw [e]; simp))
 · exact absurd rfl (hn (ch.1, v, b) (by rw [e]; simp))
 · exact h
include hok
theorem SETOK.gt {v : LKV} {b : Int} (hh : MHas L ch.1 v b) (hv : v.2.2.1 > ch.2.2.2) : l' = L ∧ c' = c := by
 rcases h with ⟨_, _, _, _, h⟩ | ⟨v', b', h1, h2, _⟩ | ⟨hn, _⟩
 · exact h
 · obtain ⟨rfl, _⟩ := MHas_uniq hok h1 hh; omega
 · obtain ⟨l1, l2, e, _⟩ := hh
   exact absurd rfl (hn (ch.1, v, b) (by rw [e]; simp))
theorem SETOK.le {v : LKV} {b : Int} (hh : MHas L ch.1 v b) (hv : v.2.2.1 ≤ ch.2.2.2) : MPut L ch.1 (newV k t ch v) c l' c' := by
 rcases h with ⟨v', b', h1, h2, _⟩ | ⟨v', b', h1, h2, h3⟩ | ⟨hn, _⟩
 · obtain ⟨rfl, _⟩ := MHas_uniq hok h1 hh; omega
 · obtain ⟨rfl, _⟩ := MHas_uniq hok h1 hh; exact h3
 · obtain ⟨l1, l2, e, _⟩ := hh
   exact absurd rfl (hn (ch.1, v, b) (by rw [e]; simp))
end
theorem MHas.not {L : LE} {k : Int} {v : LKV} {b : Int} (h : MHas L k v b) : ¬ MNot L k := fun hn => by
 obtain ⟨l1, l2, e, _⟩ := h
 exact hn (k, v, b) (by rw [e]; simp) rfl
theorem liveL_sub (now : Int) (l : LE) : (liveL now l).Sublist l := List.filter_sublist
theorem cSet (k tw c : Int) (n : Nat) (l : LE) (t : Int) (a to se m : Int) (e tw' c' : Int) (n' : Nat) (l' : LE) (hR : SETR k tw c l t (a, (to, (se, m))) e tw' l' c') (hn' : n' = l'.length) (hok : MOK l c) (hc0 : 0 ≤ c) (hn : l.length = n) (hn2 : n ≤ 16) (hk : 1 ≤ k ∧ k ≤ 60) (htw : 0 ≤ tw) : FnS Try.prog 14 ([.ptr 0 0, .p (iv t), injT tChoice (a, (to, (se, m)))]) (tabS k tw c n l ) fun x_ s_ => x_ = (.p (iv e)) ∧ s_ = (tabE k tw' c' n' l') := by
 refine FnS.of (S := [(31, _)]) (T := [(67, _), (68, _)]) (U := []) (tbl := [(39, ac39 none, [.tmp 6], 50), (40, ac40 none, [.tmp 5], 66), (59, ac59 none, [.tmp 4], 15)]) (n := 14) hm32 cfg (.cons (spT1.ok (a := (.pair (.int .i64) (.pair (.int .i64) (.pair (.int .u8) (.int .i64))))) (pre := fun _ => True) fun x0 _ => cLChk x0.1 x0.2.1 x0.2.2.1 x0.2.2.2) .nil) (.cons tClone (.cons tDel .nil)) .nil (.cons Try.call39 Try.func39 (ac39_ok none) (by rw [Try.ntmps39]; exact Nat.le_refl _) (.cons Try.call40 Try.func40 (ac40_ok none) (by rw [Try.ntmps40]; exact Nat.le_refl _) (.cons Try.call59 Try.func59 (ac59_ok none) (by rw [Try.ntmps59]; exact Nat.le_refl _) .nil))) 6 Try.call14 Try.func14 (ac14_ok (some (2, 0))) (by rw [Try.ntmps14]; exact Nat.le_refl _) rfl _ _ _ (by rfl) ?_
 intro cmp ar cv tn ic ai mx an ad ml sb mn ln em gt up ap sc vw cp rp p1 p2 s1 s2 X Y hX hY r0 r1 r2 r3 r4 r5 r6 r7 r8 r9 r10 r11 r12 r13 r14 r15 r16 r17 r18 r19 r20 r21 r22 r23 r24
 generalize hg0 : lcheckM = g0
 cbv
 have hat : atE tw t = if t < 0 ∨ t > 1099511627776 then 1 else if t < tw then 12 else 0 := rfl
 have stay : ∀ x, e = x → tw' = tw ∧ l' = l ∧ c' = c → n' = n ∧ tw = tw' ∧ c = c' ∧ l = l' ∧ x = e := fun x h1 h2 => by
   obtain ⟨rfl, rfl, rfl⟩ := h2
   exact ⟨by rw [hn', hn], rfl, rfl, rfl, h1.symm⟩
 refine BR.lss r0 (fun h1 => ?_) (fun h1 => BR.gtr r0 (fun h2 => ?_) fun h2 => BR.lss r0 (fun h3 => ?_) fun h3 => ?_)
 · have hb := hR.bad (by rw [hat, if_pos (.inl h1)]; decide)
   rw [hat, if_pos (.inl h1)] at hb
   obtain ⟨rfl, rfl, rfl, rfl, rfl⟩ := stay _ hb.1 hb.2
   refine RET.mk ⟨[some 0, none, some 1], [], ?_⟩
   rw [SIM_iff]; cbv
   try simp [lstEq]
 · have hb := hR.bad (by rw [hat, if_pos (.inr h2)]; decide)
   rw [hat, if_pos (.inr h2)] at hb
   obtain ⟨rfl, rfl, rfl, rfl, rfl⟩ := stay _ hb.1 hb.2
   refine RET.mk ⟨[some 0, none, some 1], [], ?_⟩
   rw [SIM_iff]; cbv
   try simp [lstEq]
 · have hb := hR.bad (by rw [hat, if_neg (by omega), if_pos h3]; decide)
   rw [hat, if_neg (by omega), if_pos h3] at hb
   obtain ⟨rfl, rfl, rfl, rfl, rfl⟩ := stay _ hb.1 hb.2
   refine RET.mk ⟨[some 0, none, some 1], [], ?_⟩
   rw [SIM_iff]; cbv
   try simp [lstEq]
 have hat0 : atE tw t = 0 := by rw [hat, if_neg (by omega), if_neg h3]
 refine DELK.mk hok hc0 hn (by omega) fun L nL hL hnL => ?_
 have hokL : MOK L c := by rw [hL]; exact hok.sub (liveL_sub _ _)
 have hle : nL ≤ 16 := by
   have := (liveL_sub t l).length_le
   rw [← hL, ← hnL, hn] at this
   omega
 have hg : g0 (a, (to, (se, m))) = lcheckM (a, (to, (se, m))) := by rw [hg0]
 obtain ⟨e0, he0⟩ : ∃ e0, e0 = g0 (a, (to, (se, m))) := ⟨_, rfl⟩
 cbv
 dsimp only
 rw [← he0]
 rw [← he0] at hg
 refine BR.neq r0 (fun h4 => ?_) (fun h4 => ?_)
 · have hb := hR.wrong hat0 (by rw [← hg]; exact h4)
   rw [← hg] at hb
   obtain ⟨rfl, rfl, rfl, rfl, rfl⟩ := stay _ hb.1 hb.2
   refine BR.neq r0 (fun _ => ?_) (fun h => absurd h4 h)
   refine RET.mk ⟨[some 0, none, some 1], [], ?_⟩
   rw [SIM_iff]; cbv
   try simp [lstEq]
 have hl0 : lcheckM (a, (to, (se, m))) = 0 := by rw [← hg]; exact Classical.not_not.1 h4
 have hadd : ar .add .i64 t k = t + k := by rw [r1]; exact wrap64 (n := t + k) (by omega) (by omega)
 refine MLK.mk hnL.symm (fun v b hh => ?_) (fun hn0 => ?_)
 · obtain ⟨he', ht', hS⟩ := hR.good hat0 hl0 (fun h => (hL ▸ hh).not h.1)
   rw [← hL] at hS
   replace ht' := ht'.symm
   subst ht'
   subst he'
   clear hL hR stay
   have hgt := fun h => hS.gt hokL hh h
   have hmp := fun h => hS.le hokL hh h
   clear hS
   obtain ⟨v1, v2, v3, v4⟩ : Int × Int × Int × Int := v
   have hnw : newV k t (a, (to, (se, m))) (v1, v2, v3, v4) = if v3 < m then (a, (se, (m, t + k))) else (v1, (v2, (v3, t + k))) := rfl
   rw [hnw] at hmp
   dsimp only at hgt hmp
   have q1 : p1 tI (.pair tU (.pair tI tI)) (v1, v2, v3, v4) = v1 := by rw [r21]
   have q2 : p1 tU (.pair tI tI) (p2 tI (.pair tU (.pair tI tI)) (v1, v2, v3, v4)) = v2 := by rw [r21, r22]
   have q3 : p1 tI tI (p2 tU (.pair tI tI) (p2 tI (.pair tU (.pair tI tI)) (v1, v2, v3, v4))) = v3 := by rw [r21, r22]
   cbv
   rw [q3]
   refine BR.gtr r0 (fun h5 => ?_) (fun h5 => BR.lss r0 (fun h6 => ?_) (fun h6 => ?_))
   · obtain ⟨rfl, rfl⟩ := hgt h5
     obtain rfl : n' = nL := by rw [hn', hnL]
     refine BR.nn r0 ?_
     refine RET.mk ⟨[some 0, none, some 6], [], ?_⟩
     rw [SIM_iff]; cbv
     try simp [lstEq]
   · rw [hadd]
     have hmp := hmp (by omega)
     rw [if_pos h6] at hmp
     refine MUP.mk hnL.symm hc0 fun n2 l2 c2 hp hl2 => ?_
     obtain ⟨rfl, rfl⟩ := MPut_det hp hmp
     obtain rfl : n' = n2 := by rw [hn', hl2]
     cbv
     refine BR.nn r0 ?_
     refine RET.mk ⟨[some 0, none, some 6], [], ?_⟩
     rw [SIM_iff]; cbv
     try simp [lstEq]
   · rw [hadd, q1, q2]
     have hmp := hmp (by omega)
     rw [if_neg h6] at hmp
     refine MUP.mk hnL.symm hc0 fun n2 l2 c2 hp hl2 => ?_
     obtain ⟨rfl, rfl⟩ := MPut_det hp hmp
     obtain rfl : n' = n2 := by rw [hn', hl2]
     cbv
     refine BR.nn r0 ?_
     refine RET.mk ⟨[some 0, none, some 6], [], ?_⟩
     rw [SIM_iff]; cbv
     try simp [lstEq]
 · have hg2 := fun h => hR.over hat0 hl0 (hL ▸ hn0) h
   have hg3 := fun h => hR.good hat0 hl0 h
   rw [← hL] at hg2 hg3
   clear hL hR
   have hlN : ic nL = nL := by rw [r4]
   cbv
   rw [hlN]
   try simp only [nc_eq] at *
   refine BR.eql r0 (fun h5 => BR.neq r0 (fun _ => ?_) (fun h => absurd (by decide) h)) (fun h5 => ?_)
   · have hb := hg2 (by omega)
     obtain ⟨rfl, rfl, rfl, rfl, rfl⟩ := stay _ hb.1 hb.2
     refine RET.mk ⟨[some 0, none, some 1], [], ?_⟩
     rw [SIM_iff]; cbv
     try simp [lstEq]
   · obtain ⟨he', ht', hS⟩ := hg3 (fun h => h5 (by have := h.2; omega))
     replace ht' := ht'.symm
     subst ht'
     subst he'
     have hmp := hS.no hn0
     clear hS stay
     rw [hadd]
     refine MUP.mk hnL.symm hc0 fun n2 l2 c2 hp hl2 => ?_
     obtain ⟨rfl, rfl⟩ := MPut_det hp hmp
     obtain rfl : n' = n2 := by rw [hn', hl2]
     cbv
     refine BR.nn r0 ?_
     refine RET.mk ⟨[some 0, none, some 6], [], ?_⟩
     rw [SIM_iff]; cbv
     try simp [lstEq]
end Go.Ab
