/- A run. -/
import Derived.Test.YteiolnofaebknaaMc
set_option linter.unusedSimpArgs false
set_option linter.unusedVariables false
set_option maxRecDepth 20000
set_option maxHeartbeats 4000000
namespace Go.Ab
open Go.Proofs
def sayP (x : SD) (F : List Int) (t : Int) (A : Int × List PT) : Int × List PT := if (sayM x).2 = 0 then (A.1 + 1, sIns F A.1 t (sayM x).1 A.2) else A
def outP (t : Int) (s : List PT) : List tChoice.den := (s.takeWhile (dueT t)).map (fun x => x.2.2)
abbrev CY := SD × SD × (Int × List PT) × (Int × List PT)
def cycP (Fa Fb : List Int) (t : Int) (w : Int × Int) (c : CY) : CY :=
  (recvM (chooseM c.1 w.1).1 (outP t (sayP (chooseM c.2.1 w.2).1 Fb t c.2.2.2).2), recvM (chooseM c.2.1 w.2).1 (outP t (sayP (chooseM c.1 w.1).1 Fa t c.2.2.1).2),
    ((sayP (chooseM c.1 w.1).1 Fa t c.2.2.1).1, (sayP (chooseM c.1 w.1).1 Fa t c.2.2.1).2.dropWhile (dueT t)), ((sayP (chooseM c.2.1 w.2).1 Fb t c.2.2.2).1, (sayP (chooseM c.2.1 w.2).1 Fb t c.2.2.2).2.dropWhile (dueT t)))
def runP (Fa Fb : List Int) : Int → List (Int × Int) → CY → List (SD × SD)
  | _, [], _ => []
  | t, w :: l, c => ((cycP Fa Fb t w c).1, (cycP Fa Fb t w c).2.1) :: runP Fa Fb (t + 1) l (cycP Fa Fb t w c)
theorem runP_len (Fa Fb : List Int) : ∀ (l : List (Int × Int)) (t : Int) (c : CY), (runP Fa Fb t l c).length = l.length
  | [], _, _ => rfl
  | w :: l, t, c => by simp [runP, runP_len Fa Fb l]
/-- What is known of a channel. -/
structure LK (T M now sent : Int) (N n : Nat) (q s : List PT) : Prop where
  sq : SQ q n s
  len : q.length = N
  num : ∀ y ∈ s, y.2.1 < sent
  few : (s.length : Int) ≤ sent
  lo : 0 ≤ sent
  hi : sent ≤ T
  n0 : 0 ≤ now
  nM : now ≤ M
theorem say_lcheck {x : SD} (h : (sayM x).2 = 0) : lcheckM (sayM x).1 = 0 := by
  unfold sayM at h ⊢
  split at h
  · rename_i hc; exact absurd h hc
  · rename_i hc
    split at h
    · cases h
    · rename_i hn
      rw [if_neg hc, if_neg hn]
      have hc' : checkM x = 0 := by simpa using hc
      clear hc h
      have hn' : ¬ x.2.2.2.1 = 0 := hn
      simp only [checkM] at hc'
      show (if x.1 < 0 ∨ x.1 > 16777215 ∨ x.2.1 < 0 ∨ x.2.1 > 16777215 ∨ x.1 = x.2.1 then (1 : Int) else if x.2.2.1 > 2 then 6 else if x.2.2.2.1 < 1 ∨ x.2.2.2.1 > 1048575 then 1 else 0) = 0
      repeat' split at hc'
      all_goals first | omega | (rw [if_neg (by omega), if_neg (by omega), if_neg (by omega)])
theorem LK.send {t now sent : Int} {N n : Nat} {q s : List PT} {x : SD} {F : List Int} {now' sent' : Int} {N' n' : Nat} {q' : List PT} (h : LK t t now sent N n q s) (h0 : 0 ≤ t) (h1 : t < 64) (hs : SNT x F now sent N n q t now' sent' N' n' q') :
    sent' = (sayP x F t (sent, s)).1 ∧ LK (t + 1) t now' sent' N' n' q' (sayP x F t (sent, s)).2 := by
  unfold sayP
  by_cases hc : (sayM x).2 = 0
  · obtain ⟨a1, a2, a3, a4, a5⟩ := hs.yes hc
    have hl := h.sq.len
    have := h.few; have := h.hi; have := h.n0; have := h.nM; have := h.lo
    obtain ⟨-, b2, b3, b4, b5, b6⟩ := h.sq.send (F := F) (now := now) (t := t) (c := (sayM x).1) h.len h.num (by unfold atM; rw [if_neg (by omega), if_neg (by omega)]) (say_lcheck hc) (by omega)
    rw [if_pos hc]
    subst a1 a2 a3 a4 a5
    dsimp only
    refine ⟨b3, b4, b5, ?_, ?_, ?_, ?_, ?_, ?_⟩
    · intro y hy
      rw [b3]
      unfold sIns at hy
      split at hy
      · have := h.num y hy; omega
      · rcases List.mem_cons.1 ((insP_perm _ _).mem_iff.1 hy) with rfl | hy
        · show sent < sent + 1; omega
        · have := h.num y hy; omega
    · rw [b3]
      unfold sIns
      split
      · omega
      · rw [(insP_perm _ _).length_eq, List.length_cons]; omega
    · omega
    · omega
    · have : sendNow F now sent n t (sayM x).1 = t := b2
      rw [this]; omega
    · have : sendNow F now sent n t (sayM x).1 = t := b2
      rw [this]; exact Int.le_refl _
  · obtain ⟨rfl, rfl, rfl, rfl, rfl⟩ := hs.no hc
    rw [if_neg hc]
    exact ⟨rfl, h.sq, h.len, h.num, h.few, h.lo, by have := h.hi; omega, h.n0, h.nM⟩
theorem LK.hear {t now sent : Int} {N n : Nat} {q s : List PT} (h : LK (t + 1) t now sent N n q s) (h0 : 0 ≤ t) (h1 : t < 64) :
    HEARK now t N n q ∧ hearO t n q = outP t s ∧ (hearO t n q).length ≤ 64 ∧ LK (t + 1) (t + 1) t sent N (hearN t n q) (hearQ t n q) (s.dropWhile (dueT t)) := by
  have hl := h.sq.len
  have := h.few; have := h.hi; have := h.n0; have := h.nM; have := h.lo
  have hle := h.sq.le
  obtain ⟨a1, a2, a3, a4⟩ := h.sq.hears (t := t)
  have hsub : (s.takeWhile (dueT t)).length ≤ s.length := (List.takeWhile_sublist _).length_le
  have hsub2 : (s.dropWhile (dueT t)).length ≤ s.length := (List.dropWhile_sublist _).length_le
  refine ⟨⟨by unfold atM; rw [if_neg (by omega), if_neg (by omega)], h.len, by rw [← h.len]; exact hle, by omega⟩, a1, by rw [a1, List.length_map]; omega, a3, by rw [a4, h.len], fun y hy => h.num y ((List.dropWhile_sublist _).subset hy), by omega, by omega, by omega, by omega, by omega⟩
theorem LK.sendk {t now sent : Int} {N n : Nat} {q s : List PT} {F : List Int} (h : LK t t now sent N n q s) (h1 : t < 64) (hF : ∀ i, -1 ≤ gtR tI F i ∧ gtR tI F i ≤ 8) : SENDK F sent N n q := by
  have hl := h.sq.len
  have := h.few; have := h.hi; have := h.n0; have := h.nM; have := h.lo
  exact ⟨h.len, by rw [← h.len]; exact h.sq.le, by omega, by omega, by omega, hF⟩
theorem INB.lit {ic : Nat → Int} (h : ic = fun n : Nat => (n : Int)) {k : Int} {n : Nat} (hk : 0 ≤ k ∧ k < (n : Int)) : INB k (ic n) := by subst h; exact ⟨hk.1, hk.2⟩
theorem CASE.no {k : Int} {m : Nat} {A : Prop} (h : k ≠ (m : Int)) : CASE k m A := ⟨fun e => absurd e h⟩
theorem CASE.yes {k : Int} {m : Nat} {A : Prop} (h : A) : CASE k m A := ⟨fun _ => h⟩
theorem BR.ltT {cmp : BinOp → Int → Int → Bool} (h : cmp = cmpR) {x y : Int} {A B : Prop} (hxy : x < y) (a : A) : BR (cmp .lss x y) A B := BR.lss h (fun _ => a) (fun hn => absurd hxy hn)
theorem BR.ltF {cmp : BinOp → Int → Int → Bool} (h : cmp = cmpR) {x y : Int} {A B : Prop} (hxy : ¬ x < y) (b : B) : BR (cmp .lss x y) A B := BR.lss h (fun hn => absurd hn hxy) (fun _ => b)
def nI : Nat → Int
  | 0 => 0
  | 1 => 1
  | 2 => 2
  | _ => 3
theorem fates_b {l : List Int} (h : wrongM l = 0) : ∀ i, -1 ≤ gtR tI (fatesM l) i ∧ gtR tI (fatesM l) i ≤ 8 := fun i => by
  have hm : ∀ x ∈ fatesM l, -1 ≤ x ∧ x ≤ 8 := fun x hx => by
    rcases List.mem_append.1 hx with hx | hx
    · exact wrong_ok h x hx
    · have := List.eq_of_mem_replicate hx; omega
  unfold gtR
  rw [List.getD_eq_getElem?_getD]
  cases hc : (fatesM l)[i.toNat]? with
  | none => exact ⟨by decide, by decide⟩
  | some v => exact hm v (List.mem_of_getElem? hc)
def stRW (x y : SD) (tx ty wx wy : Int) (Fa : List Int) (na ua : Int) (Na la : Nat) (qa : List tPar.den) (Fb : List Int) (nb ub : Int) (Nb lb : Nat) (qb : List tPar.den) (w1 w2 : Int) (g : List (Nat × Nat)) : StS :=
  ⟨[{ cells := pty x 1 4 tx wx ++ pty y 4 1 ty wy, e := 85, fz := false }, bLink Fa na ua 2, bWay 3 la, bArr Na qa, bLink Fb nb ub 5, bWay 6 lb, bArr Nb qb, { cells := [.p (.v (.int .u8 w1)), .p (.v (.int .u8 w2))], e := 46, fz := false }], g⟩
abbrev tMeet : Ty := .pair tSide tSide
theorem cRun (a b : Int) (nw : Option Bool) (w : List tW.den) (nf : Option Bool) (F : List Int) (ng : Option Bool) (G : List Int) (ha : (newM a b).2 = 0) (hb : (newM b a).2 = 0) (hw : w.length ≤ 64) (hw2 : w.any badW = false) (hF : wrongM F = 0) (hG : wrongM G = 0) : PurS Try.prog 23 [injT tI a, injT tI b, injT (.sl tW) (nw, w), injT (.sl tI) (nf, F), injT (.sl tI) (ng, G)] (.tup [.tl none tMeet (runP (fatesM F) (fatesM G) 0 w ((newM a b).1, (newM b a).1, (0, []), (0, []))), .p (iv 0)]) := by
  refine PurS.of (S := [(17, _), (44, _)]) (T := [(46, _), (47, _), (48, _), (49, _)]) (tbl := []) (n := 114) hm33 cfg (.cons (spT2.ok (a := (.int .i64)) (b := (.int .i64)) (pre := fun _ _ => True) fun x0 x1 _ => c17 x0 x1) (.cons (spTF1.ok (a := (.sl (.pair (.int .u8) (.int .u8)))) fun x h => c44w x.1 x.2 h) .nil)) (.cons cNewT (.cons cChoT (.cons cSndT (.cons cRcvT .nil)))) .nil 0 Try.call23 Try.func23 (ac23_ok (some (0, 0))) (by rw [Try.ntmps23]; exact Nat.le_refl _) rfl ⟨_, rfl⟩ ?_
  intro cmp ar cv tn ic ai mx an ad ml sb mn ln em gt up ap sc vw cp rp p1 p2 s1 s2 X Y hX hY r0 r1 r2 r3 r4 r5 r6 r7 r8 r9 r10 r11 r12 r13 r14 r15 r16 r17 r18 r19 r20 r21 r22 r23 r24
  generalize hg0 : newM = g0
  generalize hg1 : List.any = g1
  generalize hg2 : fatesM = g2
  generalize hg3 : runP = g3
  cbv
  have ha' : (g0 a b).2 = 0 := by rw [← hg0]; exact ha
  have hb' : (g0 b a).2 = 0 := by rw [← hg0]; exact hb
  have hlw : ic (ln tW w) = w.length := by rw [r4, r12]
  have hw2' : g1 (nw, w).snd badW = false := by rw [← hg1]; exact hw2
  repeat' (first | exact True.intro | refine And.intro ?_ ?_ | (refine BR.nn r0 ?_) | (refine BR.lss r0 ?_ ?_ <;> intro _) | (refine BR.neq r0 ?_ ?_ <;> intro _) | (refine BR.eql r0 ?_ ?_ <;> intro _) | (refine BR.leq r0 ?_ ?_ <;> intro _) | (refine BR.gtr r0 ?_ ?_ <;> intro _) | (refine BR.geq r0 ?_ ?_ <;> intro _) | (refine BR.mk ?_ ?_ <;> intro _) | (refine CASE.mk ?_; intro _))
  all_goals simp only [nc_eq] at *
  all_goals first | (show LOOP _ _ _ _ _ _; skip) | (exfalso; first | contradiction | (have h64 : ic (ln tW w) > 64 := (by assumption); omega) | (rw [hw2'] at *; contradiction)) | exact NEWK.mk hF | exact NEWK.mk hG | exact nlLe_none.2 trivial | exact Short_iff.2 (by omega) | exact LAYOK.mk (by kernel_rfl) | skip
  refine LOOP.ind (σ := Int × (Int × Int × Int) × (SD × SD) × (Int × Int × Nat × Nat × List PT × List PT) × (Int × Int × Nat × Nat × List PT × List PT) × List tMeet.den)
    (fun (t, _, _, _, _, out) => [(18, .ptr 0 0), (19, .og 0 tMeet out), (70, .tl nw tW w), (71, .p (iv (ic (ln tW w)))), (72, .p (iv t))])
    (fun (t, (tt, wx, wy), (x, y), (na, ua, Na, la, qa, _), (nb, ub, Nb, lb, qb, _), out) => stRG x y tt wx wy (g2 F) na ua Na la qa (g2 G) nb ub Nb lb qb [(ml (ln tMeet out) 12, 45)])
    (fun (t, _) => (w.length - t).toNat)
    (fun (t, _, (x, y), (na, ua, Na, la, qa, za), (nb, ub, Nb, lb, qb, zb), out) => 0 ≤ t ∧ t ≤ w.length ∧ LK t t na ua Na la qa za ∧ LK t t nb ub Nb lb qb zb ∧ out.length = t.toNat ∧ out ++ runP (fatesM F) (fatesM G) t (w.drop t.toNat) (x, y, (ua, za), (ub, zb)) = runP (fatesM F) (fatesM G) 0 w ((newM a b).1, (newM b a).1, (0, []), (0, [])))
    (0, (0, 0, 0), ((g0 a b).1, (g0 b a).1), (0, 0, 0, 0, [], []), (0, 0, 0, 0, [], []), []) ?_ (.inr ⟨[some 8, some 1, some 2, some 3, some 4, some 5, some 6], [none], ?_⟩) ?_
  · have hz : LK 0 0 0 0 0 0 [] [] := ⟨.zero _, rfl, by simp, by simp, by omega, by omega, by omega, by omega⟩
    exact ⟨by omega, by show (0 : Int) ≤ _; omega, hz, hz, rfl, by subst hg0; simp⟩
  · rw [SIM_iff]; cbv
    simp [nlLe_self]
  intro ⟨t, ⟨tt, wx, wy⟩, ⟨x, y⟩, ⟨na, ua, Na, la, qa, za⟩, ⟨nb, ub, Nb, lb, qb, zb⟩, out⟩ hI X' hX
  dsimp only at hI
  cbv
  simp only [nc_eq] at *
  obtain ⟨hI1, hI2, hLa, hLb, hI5, hI6⟩ := hI
  obtain ⟨w1, hw1⟩ : ∃ v, v = p1 (.int .u8) (.int .u8) (gt tW w t) := ⟨_, rfl⟩
  obtain ⟨w2, hw3⟩ : ∃ v, v = p2 (.int .u8) (.int .u8) (gt tW w t) := ⟨_, rfl⟩
  rw [← hw1, ← hw3]
  have hlw : ic (ln tW w) = w.length := by rw [r4, r12]
  have hFF : ∀ i, -1 ≤ gtR tI (g2 F) i ∧ gtR tI (g2 F) i ≤ 8 := by rw [← hg2]; exact fates_b hF
  have hGG : ∀ i, -1 ≤ gtR tI (g2 G) i ∧ gtR tI (g2 G) i ≤ 8 := by rw [← hg2]; exact fates_b hG
  have ht1 : 0 ≤ t → t < w.length → ar .add .i64 t 1 = t + 1 := fun _ _ => by rw [r1]; exact wrap64 (n := t + 1) (by omega) (by omega)
  refine BR.lss r0 (fun htw => ?_) (fun htw => ?_)
  · rw [hlw] at htw
    refine ⟨by rw [hlw]; exact ⟨hI1, htw⟩, by rw [hlw]; exact ⟨hI1, htw⟩, ?_⟩
    refine LOOP.ind (σ := Nat) (fun j => [(18, .ptr 0 0), (19, .og 0 tMeet out), (20, .p (iv t)), (21, .ptr 7 0), (70, .tl nw tW w), (71, .p (iv (ic (ln tW w)))), (72, .p (iv t)), (77, .p (iv (nI j)))])
      (fun j => match j with
        | 0 => stRW x y tt tt wx wy (g2 F) na ua Na la qa (g2 G) nb ub Nb lb qb w1 w2 [(ml (ln tMeet out) 12, 45)]
        | 1 => stRW x y t tt w1 wy (g2 F) na ua Na la qa (g2 G) nb ub Nb lb qb w1 w2 [(ml (ln tMeet out) 12, 45)]
        | _ => stRW x y t t w1 w2 (g2 F) na ua Na la qa (g2 G) nb ub Nb lb qb w1 w2 [(ml (ln tMeet out) 12, 45)]) (fun j => 2 - j) (fun j => j ≤ 2) 0 (by omega) (.inl ⟨rfl, rfl⟩) ?_
    intro j hj X1 hX1
    have h00 : ar .add .i64 0 1 = 1 := by rw [r1]; rfl
    have h01 : ar .add .i64 1 1 = 2 := by rw [r1]; rfl
    have h02 : ar .add .i64 2 1 = 3 := by rw [r1]; rfl
    rcases j with _ | _ | _ | j
    · cbv
      repeat' (first | exact True.intro | refine And.intro ?_ ?_ | exact INB.lit r4 (by decide) | refine CASE.no (by decide) | (refine CASE.yes ?_) | refine BR.ltT r0 (by decide) ?_ | refine BR.ltF r0 (by decide) ?_)
      rw [h00]
      exact NEXT.mk (hX1 1 _ _ (by decide) (by decide) (.inl ⟨rfl, rfl⟩))
    · cbv
      repeat' (first | exact True.intro | refine And.intro ?_ ?_ | exact INB.lit r4 (by decide) | refine CASE.no (by decide) | (refine CASE.yes ?_) | refine BR.ltT r0 (by decide) ?_ | refine BR.ltF r0 (by decide) ?_)
      rw [h01]
      exact NEXT.mk (hX1 2 _ _ (by decide) (by decide) (.inl ⟨rfl, rfl⟩))
    · cbv
      repeat' (first | exact True.intro | refine And.intro ?_ ?_ | exact INB.lit r4 (by decide) | refine CASE.no (by decide) | (refine CASE.yes ?_) | refine BR.ltT r0 (by decide) ?_ | refine BR.ltF r0 (by decide) ?_)
      obtain ⟨x1, hx1⟩ : ∃ z, z = (chooseM x w1).1 := ⟨_, rfl⟩
      obtain ⟨y1, hy1⟩ : ∃ z, z = (chooseM y w2).1 := ⟨_, rfl⟩
      refine LOOP.ind (σ := Nat × (SD × SD) × (Int × Int × Nat × Nat × List PT × List PT) × (Int × Int × Nat × Nat × List PT × List PT))
        (fun (j, _) => [(18, .ptr 0 0), (19, .og 0 tMeet out), (70, .tl nw tW w), (71, .p (iv (ic (ln tW w)))), (72, .p (iv t)), (91, .agg [.fn (.func 47) [] [], .fn (.func 48) [] [], .fn (.func 49) [] []]), (92, .p (iv (nI j)))])
        (fun (_, (x, y), (na, ua, Na, la, qa, _), (nb, ub, Nb, lb, qb, _)) => stRG x y t w1 w2 (g2 F) na ua Na la qa (g2 G) nb ub Nb lb qb [(ml (ln tMeet out) 12, 45)])
        (fun (j, _) => 3 - j)
        (fun (j, (x', y'), (na', ua', Na', la', qa', za'), (nb', ub', Nb', lb', qb', zb')) => match j with
          | 0 => x' = x ∧ y' = y ∧ LK t t na' ua' Na' la' qa' za' ∧ LK t t nb' ub' Nb' lb' qb' zb' ∧ ua' = ua ∧ za' = za ∧ ub' = ub ∧ zb' = zb
          | 1 => x' = x1 ∧ y' = y1 ∧ LK t t na' ua' Na' la' qa' za' ∧ LK t t nb' ub' Nb' lb' qb' zb' ∧ ua' = ua ∧ za' = za ∧ ub' = ub ∧ zb' = zb
          | 2 => x' = x1 ∧ y' = y1 ∧ LK (t + 1) t na' ua' Na' la' qa' za' ∧ LK (t + 1) t nb' ub' Nb' lb' qb' zb' ∧ ua' = (sayP x1 (g2 F) t (ua, za)).1 ∧ za' = (sayP x1 (g2 F) t (ua, za)).2 ∧ ub' = (sayP y1 (g2 G) t (ub, zb)).1 ∧ zb' = (sayP y1 (g2 G) t (ub, zb)).2
          | 3 => LK (t + 1) (t + 1) na' ua' Na' la' qa' za' ∧ LK (t + 1) (t + 1) nb' ub' Nb' lb' qb' zb' ∧ (x', y', (ua', za'), (ub', zb')) = cycP (g2 F) (g2 G) t (w1, w2) (x, y, (ua, za), (ub, zb))
          | _ => False)
        (0, (x, y), (na, ua, Na, la, qa, za), (nb, ub, Nb, lb, qb, zb)) ⟨rfl, rfl, hLa, hLb, rfl, rfl, rfl, rfl⟩ (.inr ⟨[some 0, some 1, some 2, some 3, some 4, some 5, some 6], [some 0], ?_⟩) ?_
      · rw [SIM_iff]; cbv
        exact ⟨⟨nlLe_self.2 trivial, trivial⟩, trivial⟩
      intro ⟨j2, ⟨x', y'⟩, ⟨na', ua', Na', la', qa', za'⟩, ⟨nb', ub', Nb', lb', qb', zb'⟩⟩ hJ X2 hX2
      rcases j2 with _ | _ | _ | _ | j2
      · dsimp only at hJ
        obtain ⟨e1, e2, hA, hB, e3, e4, e5, e6⟩ := hJ
        cbv
        repeat' (first | exact True.intro | refine And.intro ?_ ?_ | exact INB.lit r4 (by decide) | refine CASE.no (by decide) | (refine CASE.yes ?_) | refine BR.ltT r0 (by decide) ?_ | refine BR.ltF r0 (by decide) ?_)
        refine CHO.mk fun x2 hx2 => ?_
        cbv
        repeat' (first | exact True.intro | refine And.intro ?_ ?_ | exact INB.lit r4 (by decide) | refine CASE.no (by decide) | (refine CASE.yes ?_) | refine BR.ltT r0 (by decide) ?_ | refine BR.ltF r0 (by decide) ?_)
        refine CHO.mk fun y2 hy2 => ?_
        cbv
        rw [h00]
        have hx2' : x2 = x1 := by rw [hx1, ← e1]; exact hx2
        have hy2' : y2 = y1 := by rw [hy1, ← e2]; exact hy2
        exact NEXT.mk (hX2 (1, (x2, y2), (na', ua', Na', la', qa', za'), (nb', ub', Nb', lb', qb', zb')) _ _ ⟨hx2', hy2', hA, hB, e3, e4, e5, e6⟩ (by show 3 - 1 < 3 - 0; omega) (.inl ⟨rfl, rfl⟩))
      · dsimp only at hJ
        obtain ⟨e1, e2, hA, hB, e3, e4, e5, e6⟩ := hJ
        cbv
        repeat' (first | exact True.intro | refine And.intro ?_ ?_ | exact INB.lit r4 (by decide) | refine CASE.no (by decide) | (refine CASE.yes ?_) | refine BR.ltT r0 (by decide) ?_ | refine BR.ltF r0 (by decide) ?_)
        refine SND.mk (hA.sendk (by omega) hFF) fun na2 ua2 Na2 la2 qa2 h2 => ?_
        obtain ⟨k1, k2⟩ := hA.send (x := x') hI1 (by omega) h2
        cbv
        repeat' (first | exact True.intro | refine And.intro ?_ ?_ | exact INB.lit r4 (by decide) | refine CASE.no (by decide) | (refine CASE.yes ?_) | refine BR.ltT r0 (by decide) ?_ | refine BR.ltF r0 (by decide) ?_)
        refine SND.mk (hB.sendk (by omega) hGG) fun nb2 ub2 Nb2 lb2 qb2 h3 => ?_
        obtain ⟨k3, k4⟩ := hB.send (x := y') hI1 (by omega) h3
        cbv
        rw [h01]
        obtain ⟨za2, hza2⟩ : ∃ z, z = (sayP x' (g2 F) t (ua', za')).2 := ⟨_, rfl⟩
        obtain ⟨zb2, hzb2⟩ : ∃ z, z = (sayP y' (g2 G) t (ub', zb')).2 := ⟨_, rfl⟩
        rw [← hza2] at k2
        rw [← hzb2] at k4
        refine NEXT.mk (hX2 (2, (x', y'), (na2, ua2, Na2, la2, qa2, za2), (nb2, ub2, Nb2, lb2, qb2, zb2)) _ _ ?_ (by show 3 - 2 < 3 - 1; omega) (.inr ⟨[some 0, some 1, some 2, some 7, some 4, some 5, some 8], [some 0], ?_⟩))
        · dsimp only
          have q1 : ua2 = (sayP x1 (g2 F) t (ua, za)).1 := by rw [k1, e1, e3, e4]
          have q2 : za2 = (sayP x1 (g2 F) t (ua, za)).2 := by rw [hza2, e1, e3, e4]
          have q3 : ub2 = (sayP y1 (g2 G) t (ub, zb)).1 := by rw [k3, e2, e5, e6]
          have q4 : zb2 = (sayP y1 (g2 G) t (ub, zb)).2 := by rw [hzb2, e2, e5, e6]
          refine ⟨e1, e2, ?_, ?_, q1, q2, q3, q4⟩
          · exact k2
          · exact k4
        · rw [SIM_iff]; cbv
          repeat' (first | exact True.intro | apply And.intro | rfl | exact nlLe_self.2 trivial)
      · dsimp only at hJ
        obtain ⟨e1, e2, hA, hB, e3, e4, e5, e6⟩ := hJ
        obtain ⟨b1, b2, b3, b4⟩ := hB.hear hI1 (by omega)
        obtain ⟨a1, a2, a3, a4⟩ := hA.hear hI1 (by omega)
        cbv
        repeat' (first | exact True.intro | refine And.intro ?_ ?_ | exact INB.lit r4 (by decide) | refine CASE.no (by decide) | (refine CASE.yes ?_) | refine BR.ltT r0 (by decide) ?_ | refine BR.ltF r0 (by decide) ?_)
        refine RCV.mk b1 b3 fun x2 n2 q2 o2 hn2 hq2 ho2 hx2 => ?_
        cbv
        repeat' (first | exact True.intro | refine And.intro ?_ ?_ | exact INB.lit r4 (by decide) | refine CASE.no (by decide) | (refine CASE.yes ?_) | refine BR.ltT r0 (by decide) ?_ | refine BR.ltF r0 (by decide) ?_)
        refine RCV.mk a1 a3 fun y2 n3 q3 o3 hn3 hq3 ho3 hy2 => ?_
        cbv
        rw [h02]
        refine NEXT.mk (hX2 (3, (x2, y2), (t, ua', Na', n3, q3, za'.dropWhile (dueT t)), (t, ub', Nb', n2, q2, zb'.dropWhile (dueT t))) _ _ ?_ (by show 3 - 3 < 3 - 2; omega) (.inl ⟨rfl, rfl⟩))
        dsimp only
        refine ⟨by rw [hn3, hq3]; exact a4, by rw [hn2, hq2]; exact b4, ?_⟩
        have hx3 : x2 = recvM x' (hearO t lb' qb') := by rw [← ho2]; exact hx2
        have hy3 : y2 = recvM y' (hearO t la' qa') := by rw [← ho3]; exact hy2
        rw [b2] at hx3
        rw [a2] at hy3
        unfold cycP
        dsimp only
        rw [← hx1, ← hy1, hx3, hy3, e1, e2, e3, e4, e5, e6]
      · dsimp only at hJ
        obtain ⟨hA, hB, hC⟩ := hJ
        cbv
        repeat' (first | exact True.intro | refine And.intro ?_ ?_ | exact INB.lit r4 (by decide) | refine CASE.no (by decide) | (refine CASE.yes ?_) | refine BR.ltT r0 (by decide) ?_ | refine BR.ltF r0 (by decide) ?_)
        · exact EQN.mk rfl
        · rw [LIM_iff, r8, r12]
          simp only [List.length_cons, List.length_nil]
          omega
        · rw [ht1 hI1 htw]
          refine NEXT.mk (hX (t + 1, (t, w1, w2), (x', y'), (na', ua', Na', la', qa', za'), (nb', ub', Nb', lb', qb', zb'), ap tMeet out [(x', y')]) _ _ ?_ ?_ (.inl ⟨rfl, rfl⟩))
          · dsimp only
            rw [r16]
            refine ⟨by omega, by omega, hA, hB, ?_, ?_⟩
            · simp only [List.length_append, List.length_cons, List.length_nil]; omega
            · rw [← hI6, gtR_drop (t := tW) hI1 htw, runP]
              have hww : gtR tW w t = (w1, w2) := by rw [hw1, hw3, r14, r21, r22]
              rw [hww, hg2, ← hC, List.append_assoc]
              rfl
          · have htw' : t < (w.length : Int) := htw
            show ((w.length : Int) - (t + 1)).toNat < ((w.length : Int) - t).toNat
            omega
      · exact hJ.elim
    · omega
  · rw [hlw] at htw
    have htl : t = w.length := by omega
    rw [List.drop_eq_nil_of_le (by omega), runP, List.append_nil, hg0, hg2, hg3] at hI6
    exact ⟨⟨nlLe_self.2 trivial, hI6⟩, trivial⟩
end Go.Ab

