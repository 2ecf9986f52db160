/- LinkMatches: its parts. -/
import Derived.Test.YtchmkekndbfflaaLB
set_option linter.unusedSimpArgs false
set_option linter.unusedVariables false
set_option maxRecDepth 20000
set_option maxHeartbeats 8000000
namespace Go.Ab
open Go.Proofs
/-- A call in a region of free order, by a contract of a small state. -/
def frST (pl fl hl : List Nat) (dsL : List DC) (stL : StS) (d : DC) (st' : StS) (ds : List DC) (st : StS) (K : DC → StS → Prop) : Prop := disjN fl pl = true ∧ frS fl hl dsL stL d st' ds st K
theorem frST_ok {P : Program} {f : FuncId} {pl fl hl : List Nat} {dsL : List DC} {stL : StS} {d : DC} {st' : StS} {ds : List DC} {st : StS} {K : DC → StS → Prop} (h : FnS P f dsL stL fun x s => x = d ∧ s = st') (hk : frST pl fl hl dsL stL d st' ds st K) : CT P pl f (concL ds) st.conc (KP K) :=
  FnS.frameT fl hl hk.2.1 (SIM_iff.2 hk.2.2.1) hk.2.2.2.1 hk.1 h hk.2.2.2.2
def spSendU : OpsS → List Nat → CallS := fun _ pl _ ds st K => match ds with
  | [.ptr a 0, .p (.v (.int .i64 t)), x] => (match getT tChoice x with
    | some x => linkAt a st fun b c F now sent N n q => SENT F now sent N n q t x fun e now' sent' N' n' q' => frST pl [a, b, c] [] [.ptr 0 0, .p (iv t), injT tChoice x] (linkS F now sent N n q) (.p (iv e))
        (linkE F now' sent' N' n' q') ds st K
    | none => False)
  | _ => False
theorem cSendU : ∀ pl ds st K, spSendU OpsS.real pl 13 ds st K → CT Try.prog pl 13 (concL ds) st.conc (KP K) := fun pl ds st K h => by
  unfold spSendU at h
  split at h
  · split at h
    · obtain ⟨b, c, F, now, sent, N, n, q, hu⟩ := linkAt_some h
      obtain ⟨h1, h2, h3, h4, h5, h6⟩ := hu.pre.h
      exact frST_ok (cSend F now sent N n q _ _ h1 h2 h3 h4 h5 h6) (hu.h _ _ _ _ _ _ ⟨rfl, rfl, rfl, rfl, rfl, rfl⟩)
    · exact h.elim
  · exact h.elim
theorem cSent (F : List Int) (now sent : Int) (N n : Nat) (q : List tPar.den) : FnS Try.prog 21 ([.ptr 0 0]) (linkS F now sent N n q ) fun x_ s_ => x_ = (.p (iv sent)) ∧ s_ = (linkS F now sent N n q) := by
  refine FnS.of (S := []) (T := []) (U := []) (tbl := []) (n := 9) hm33 cfg .nil .nil .nil .nil 0 Try.call21 Try.func21 (ac21_ok (some (3, 0))) (by rw [Try.ntmps21]; exact Nat.le_refl _) rfl _ _ _ (by rfl) ?_
  intro cmp ar cv tn ic ai mx an ad ml sb mn ln em gt up ap sc vw cp rp p1 p2 s1 s2 X Y hX hY r0 r1 r2 r3 r4 r5 r6 r7 r8 r9 r10 r11 r12 r13 r14 r15 r16 r17 r18 r19 r20 r21 r22 r23 r24
  cbv
  refine RET.mk ⟨[some 0, some 1, some 2], [], ?_⟩; rw [SIM_iff]; cbv
  try simp [lstEq, nlLe_self]
def spSentU : OpsS → List Nat → CallS := fun _ pl _ ds st K => match ds with
  | [.ptr a 0] => linkAt a st fun b c F now sent N n q => frST pl [a, b, c] [] [.ptr 0 0] (linkS F now sent N n q) (.p (iv sent)) (linkS F now sent N n q) ds st K
  | _ => False
theorem cSentU : ∀ pl ds st K, spSentU OpsS.real pl 21 ds st K → CT Try.prog pl 21 (concL ds) st.conc (KP K) := fun pl ds st K h => by
  unfold spSentU at h
  split at h
  · obtain ⟨b, c, F, now, sent, N, n, q, hu⟩ := linkAt_some h
    exact frST_ok (cSent F now sent N n q) hu
  · exact h.elim
def spRPendU : OpsS → List Nat → CallS := fun o pl _ ds st K => match ds with
  | [.ptr a 0] => refAt a st fun f k F now x => (match x with
    | some (b, c, m, A, W) => RPN m A W fun s => frST pl [a, f, b, c] [] [.ptr 0 0] (refS k F now m A W) (.og 0 tPar s) ⟨(refS k F now m A W).box, [(o.ml (o.ln tPar s) 6, 49)]⟩ ds st K
    | none => frST pl [a, f] [] [.ptr 0 0] (refE k F now) (.p (.sl (some true) 0 [])) (refE k F now) ds st K)
  | _ => False
theorem rPendU : ∀ pl ds st K, spRPendU OpsS.real pl 20 ds st K → CT Try.prog pl 20 (concL ds) st.conc (KP K) := fun pl ds st K h => by
  unfold spRPendU at h
  split at h
  · obtain ⟨f, k, F, now, x, hu⟩ := refAt_some h
    split at hu
    · obtain ⟨s, hr, hA, hm, hs, hu⟩ := hu.pre
      exact frST_ok (rPend k F now _ _ _ hA s hr hm hs _ rfl) hu
    · exact frST_ok (rPend0 k F now) hu
  · exact h.elim
def flatI : D → Bool
  | .p x => flatP x
  | .ms _ _ _ => true
  | .ptr _ _ => true
  | _ => false
theorem UgL.refl {cs : Nat → List PD} {L : Nat} : ∀ {ds : List D}, ds.all flatI = true → UgL cs L ds ds
  | [], _ => rfl
  | d :: ds, h => by
    simp only [List.all_cons, Bool.and_eq_true] at h
    refine ⟨d, ds, ?_, UgL.refl h.2, rfl⟩
    have h1 := h.1
    cases d <;> simp only [flatI, Bool.false_eq_true] at h1
    · exact ⟨h1, rfl⟩
    · rfl
    · rfl
theorem UgB.refl {cs : Nat → List PD} {L : Nat} : ∀ {bs : List Box}, bs.all (fun B => B.cells.all flatI) = true → UgB cs L bs bs
  | [], _ => rfl
  | B :: bs, h => by
    simp only [List.all_cons, Bool.and_eq_true] at h
    exact ⟨B, bs, ⟨rfl, fun _ => ⟨rfl, rfl, UgL.refl h.1⟩⟩, UgB.refl h.2, rfl⟩
theorem all_cells {l : List DC} : (∀ d ∈ l, (cellS d).all flatI = true) → (concCs l).all flatI = true := by
  induction l with
  | nil => intro _; rw [concCs_nil]; rfl
  | cons d l ih =>
    intro h
    rw [concCs_cons, List.all_append, h d List.mem_cons_self, ih fun d hd => h d (List.mem_cons_of_mem _ hd)]; rfl
theorem all_arr {t : Ty} {n : Nat} {l : List t.den} (h : ∀ l, (t.rows l).all flatP = true) : (cellS (.arr n t l)).all flatI = true := by
  simp only [cellS, arrCells, List.all_map]
  have := h (t.norm n l)
  rw [List.all_eq_true] at this ⊢
  exact fun x hx => this x hx
theorem rows_par : ∀ (o : List tPar.den), (tPar.rows o).all flatP = true
  | [] => rfl
  | x :: o => by
    have := rows_par o
    simp only [Ty.rows, List.flatMap_cons, List.all_append, Bool.and_eq_true] at this ⊢
    exact ⟨rfl, this⟩
theorem all_p {x : PD} (h : flatP x = true) : (cellS (.p x)).all flatI = true := by
  simp only [cellS, DC.conc, List.all_cons, List.all_nil, Bool.and_true]; exact h
theorem all_ptr {b o : Nat} : (cellS (.ptr b o)).all flatI = true := by simp [cellS, DC.conc, flatI]
theorem all_ms {b o s n : Nat} : (cellS (.ms b o s none n)).all flatI = true := by simp [cellS, DC.conc, flatI]
theorem link_flat (F : List Int) (now sent : Int) (N n : Nat) (q : List tPar.den) : ((linkS F now sent N n q).box.map BoxS.conc).all (fun B => B.cells.all flatI) = true := by
  simp only [linkS, List.map_cons, List.map_nil, List.all_cons, List.all_nil, Bool.and_true, Bool.and_eq_true, BoxS.conc]
  refine ⟨all_cells fun d hd => ?_, all_cells fun d hd => ?_, all_cells fun d hd => ?_⟩
  · simp only [List.mem_cons, List.not_mem_nil, or_false] at hd
    rcases hd with rfl | rfl | rfl | rfl
    · exact all_arr rows_int
    · exact all_p rfl
    · exact all_p rfl
    · exact all_ptr
  · simp only [List.mem_cons, List.not_mem_nil, or_false] at hd
    subst hd; exact all_ms
  · simp only [List.mem_cons, List.not_mem_nil, or_false] at hd
    subst hd; exact all_arr rows_par
/-- Hear, whose result is the caller's own. -/
def linkB (F : List Int) (now sent : Int) (N n : Nat) (q : List tPar.den) (m : Nat) (o : List tChoice.den) : StS :=
  ⟨(linkS F now sent N n q).box ++ [{ cells := [.arr m tChoice o], e := 33, fz := false, ap := true }], []⟩
theorem rows_choice : ∀ (o : List tChoice.den), (tChoice.rows o).all flatP = true
  | [] => rfl
  | x :: o => by
    have := rows_choice o
    simp only [Ty.rows, List.flatMap_cons, List.all_append, Bool.and_eq_true] at this ⊢
    exact ⟨rfl, this⟩
theorem cHearB (F : List Int) (now sent : Int) (N n : Nat) (q : List tPar.den) (t : Int) (ht : atM now t = 0) (hq : q.length = N) (hN : n ≤ N) (hn : n ≤ 64) (o : List tChoice.den) (ho : o = hearO t n q) (d : DC) (hd : o = [] ∧ d = .p (.sl (some true) 0 []) ∨ o ≠ [] ∧ d = .ms 3 0 4 none o.length) :
    FnS Try.prog 15 [.ptr 0 0, .p (iv t)] (linkS F now sent N n q) fun x s => x = .tup [d, .p (iv 0)] ∧ s = linkB F t sent N (hearN t n q) (hearQ t n q) o.length o := by
  have h := cHear F now sent N n (hearN t n q) q (hearQ t n q) o _ t (by rw [ho]; rfl) rfl ht hq hN hn
  have h2 := FnS.own (d' := .tup [d, .p (iv 0)]) (bs' := (linkS F t sent N (hearN t n q) (hearQ t n q)).box) [⟨tChoice, o, 33⟩] rfl h (fun G hG => by
    simp only [List.mem_singleton] at hG; subst hG; exact rows_choice o) ?_ ?_
  · exact h2
  · exact UgB.refl (link_flat _ _ _ _ _ _)
  · rcases hd with ⟨ho2, rfl⟩ | ⟨ho2, rfl⟩
    · rw [ho2]
      have e1 : (DC.tup [.og 0 tChoice [], .p (iv 0)]).conc = .p (.tup [.sl (some true) 0 [], iv 0]) := by simp only [DC.conc, concL]; rfl
      have e2 : (DC.tup [.p (.sl (some true) 0 []), .p (iv 0)]).conc = .p (.tup [.sl (some true) 0 [], iv 0]) := by simp only [DC.conc, concL]; rfl
      rw [e1, e2]
      exact Ug.one ⟨rfl, rfl⟩
    · have e1 : (DC.tup [.og 0 tChoice o, .p (iv 0)]).conc = .tup [.grp 0 o.length (tChoice.rows o), .p (iv 0)] := by simp only [mkTup_conc, List.map_cons, List.map_nil, og_concN ho2]; simp only [show ∀ x : PD, (DC.p x).conc = .p x from fun x => by simp only [DC.conc]]; rfl
      have e2 : (DC.tup [.ms 3 0 4 none o.length, .p (iv 0)]).conc = .tup [.ms 3 0 o.length, .p (iv 0)] := by simp only [mkTup_conc, List.map_cons, List.map_nil, ms_conc]; simp only [DC.conc]; rfl
      rw [e1, e2]
      exact UgL.tup ⟨_, _, ⟨rfl, rfl⟩, ⟨_, _, ⟨rfl, rfl⟩, rfl, rfl⟩, rfl⟩
/-- Hear: an error; nothing heard; something heard. -/
structure HE3 (now t : Int) (N n : Nat) (q : List PT) (Ke : Int → Prop) (K0 : Nat → List PT → Prop) (K1 : Nat → List PT → List tChoice.den → Nat → Prop) : Prop where
  h : (∃ e, e = atM now t ∧ e ≠ 0 ∧ Ke e) ∨ (HEARK now t N n q ∧ ∀ n' q' o, n' = hearN t n q → q' = hearQ t n q → o = hearO t n q → (o = [] → K0 n' q') ∧ ∀ m, o ≠ [] → m = o.length → K1 n' q' o m)
def spHearB : OpsS → CallS := fun _ _ ds st K => match ds with
  | [.ptr a 0, .p (.v (.int .i64 t))] => linkAt a st fun b c F now sent N n q => HE3 now t N n q (fun e => frS [a, b, c] [] [.ptr 0 0, .p (iv t)] (linkS F now sent N n q) (.tup [.p (.sl (some true) 0 []), .p (iv e)]) (linkS F now sent N n q) ds st K)
      (fun n' q' => frS [a, b, c] [] [.ptr 0 0, .p (iv t)] (linkS F now sent N n q) (.tup [.p (.sl (some true) 0 []), .p (iv 0)]) (linkB F t sent N n' q' 0 []) ds st K)
      fun n' q' o m => frS [a, b, c] [] [.ptr 0 0, .p (iv t)] (linkS F now sent N n q) (.tup [.ms 3 0 4 none m, .p (iv 0)]) (linkB F t sent N n' q' m o) ds st K
  | _ => False
theorem cHearBT : ∀ ds st K, spHearB OpsS.real 15 ds st K → FnS Try.prog 15 ds st K := fun ds st K h => by
  unfold spHearB at h
  split at h
  · rename_i a t
    obtain ⟨b, c, F, now, sent, N, n, q, ⟨⟨e, k1, k2, hu⟩ | ⟨hk, hu⟩⟩⟩ := linkAt_some h
    · exact frS_ok (cHearE F now sent N n q _ e k1 k2) hu
    · obtain ⟨h1, h2, h3, h4⟩ := hk.h
      obtain ⟨hu0, hu1⟩ := hu _ _ _ rfl rfl rfl
      by_cases ho : hearO t n q = []
      · have hc := cHearB F now sent N n q _ h1 h2 h3 h4 _ rfl _ (.inl ⟨ho, rfl⟩)
        rw [ho] at hc
        exact frS_ok hc (hu0 ho)
      · exact frS_ok (cHearB F now sent N n q _ h1 h2 h3 h4 _ rfl _ (.inr ⟨ho, rfl⟩)) (hu1 _ ho rfl)
  · exact h.elim
theorem sendE_zero {F : List Int} {now sent t : Int} {n : Nat} {c : tChoice.den} (h : sendE F now sent n t c = 0) : atM now t = 0 ∧ lcheckM c = 0 ∧ (fateM F sent = -1 ∨ n ≠ 64) := by
  unfold sendE at h
  split at h
  · exact absurd h ‹_›
  · split at h
    · exact absurd h ‹_›
    · split at h
      · cases h
      · rename_i h1 h2 h3
        refine ⟨Classical.not_not.1 h1, Classical.not_not.1 h2, ?_⟩
        by_cases hf : fateM F sent = -1
        · exact .inl hf
        · exact .inr fun h => h3 ⟨hf, h⟩
theorem rsE_eq {l : List Int} (hl : l.length ≤ 256) {m n : Nat} (hb : -1 ≤ rfateM l m) (hn : n ≤ 64) {now t : Int} {c : tChoice.den} : rsE l now m n t c = sendE (fatesM l) now m n t c := by
  unfold rsE sendE
  rw [rfate_eq hl]
  have e : (0 ≤ rfateM l m ∧ 64 ≤ n) ↔ (rfateM l m ≠ -1 ∧ n = 64) := by omega
  simp only [e]
theorem rfate_b {l : List Int} (h : wrongM l = 0) (m : Nat) : -1 ≤ rfateM l m ∧ rfateM l m ≤ 8 := by
  rw [← rfate_eq (wrong_len h)]
  unfold fateM
  split
  · exact fates_bb h _
  · omega
/-- What the two channels hold. -/
structure MI (l : List Int) (sent : Int) (N n : Nat) (q : List PT) (m : Nat) (A : List PT) (W : List Bool) : Prop where
  ex : ∃ s, SQ q n s ∧ RR s A W
  hq : q.length = N
  hn : n ≤ 64
  hA : A.length = m
  hm : sent = (m : Int)
theorem MI.start (l : List Int) : MI l 0 0 0 [] 0 [] [] := ⟨⟨[], .zero _, .nil⟩, rfl, by omega, rfl, rfl⟩
theorem MI.send {l : List Int} (hw : wrongM l = 0) {now sent t : Int} {N n : Nat} {q : List PT} {m : Nat} {A : List PT} {W : List Bool} (h : MI l sent N n q m A W) {c : tChoice.den} {e now' sent' : Int} {N' n' : Nat} {q' : List PT}
    (r : SENTR (fatesM l) now sent N n q t c e now' sent' N' n' q') : (∀ s, RR s A W → s.length = n → rsE l now m s.length t c = e) ∧ (e ≠ 0 → now' = now ∧ sent' = sent ∧ N' = N ∧ n' = n ∧ q' = q) ∧
    (e = 0 → now' = t ∧ sent' = sent + 1 ∧ MI l (sent + 1) N' n' q' (m + 1) (rsA l m t c A) (rsW l m W)) := by
  obtain ⟨⟨s, hs, hr⟩, hq, hn, hA, hm⟩ := h
  refine ⟨fun s' _ hl => ?_, fun he => ?_, fun he => ?_⟩
  · rw [hl, rsE_eq (wrong_len hw) (rfate_b hw m).1 hn, ← hm, r.he]
  · obtain ⟨_, k1, k2, k3, k4, k5⟩ := r.bad e r.he.symm he
    exact ⟨k1, k2, k3, k4, k5⟩
  · obtain ⟨z1, z2, z3⟩ := sendE_zero (r.he.symm.trans he)
    have hlt : ∀ y ∈ s, y.2.1 < sent := fun y hy => by rw [hm, ← hA]; exact hr.lt y hy
    have hrs := hr.send (wrong_len hw) (by rw [hA]; exact (rfate_b hw m).1) t c
    rw [hA, ← hm] at hrs
    by_cases hf : fateM (fatesM l) sent = -1
    · obtain ⟨_, k1, k2, k3, k4, k5⟩ := r.gone hf z1 z2
      have hi : sIns (fatesM l) sent t c s = s := by unfold sIns; rw [if_pos hf]
      rw [hi] at hrs
      exact ⟨k1, k2, ⟨s, by rw [k4, k5]; exact hs, hrs⟩, by rw [k5, k3]; exact hq, by omega, by simp [rsA, hA], by rw [hm]; omega⟩
    · have h64 : n < 64 := by rcases z3 with h | h; exact absurd h hf; omega
      obtain ⟨_, k1, k2, k3, k4, k5⟩ := r.good hs hq hlt z1 z2 h64
      exact ⟨k1, k2, ⟨_, k3, hrs⟩, k4, by omega, by simp [rsA, hA], by rw [hm]; omega⟩
theorem RR.uniq {s s' A : List PT} {W : List Bool} (h : RR s A W) (h' : RR s' A W) : s = s' := by
  have sub : ∀ {a b : List PT}, RR a A W → RR b A W → ∀ p ∈ a, p ∈ b := fun ha hb p hp => by
    obtain ⟨k, hk, rfl, hw⟩ := ha.mem p hp
    exact hb.all k hk hw
  have nd : ∀ {a : List PT}, RR a A W → a.Nodup := fun ha => ha.so.imp fun h e => by subst e; exact ltP.irrefl _ h
  refine List.Perm.eq_of_pairwise (le := ltP) (fun a b _ _ h1 h2 => absurd h2 h1.asymm) h.so h'.so ?_
  exact (List.perm_ext_iff_of_nodup (nd h) (nd h')).2 fun p => ⟨sub h h' p, sub h' h p⟩
theorem MI.hear {l : List Int} {sent t : Int} {N n : Nat} {q : List PT} {m : Nat} {A : List PT} {W : List Bool} (h : MI l sent N n q m A W) {s' : List PT} (hr' : RR s' A W) {W2 : List Bool} (hW2 : RR (s'.dropWhile (dueT t)) A W2) :
    hearO t n q = (s'.takeWhile (dueT t)).map (fun x => x.2.2) ∧ (hearO t n q).length ≤ 64 ∧ MI l sent N (hearN t n q) (hearQ t n q) m A W2 := by
  obtain ⟨⟨s, hs, hr⟩, hq, hn, hA, hm⟩ := h
  obtain rfl := hr.uniq hr'
  obtain ⟨a1, a2, a3, a4⟩ := hs.hears (t := t)
  have hsub : (s.takeWhile (dueT t)).length ≤ s.length := (List.takeWhile_sublist _).length_le
  have hsub2 : (s.dropWhile (dueT t)).length ≤ s.length := (List.dropWhile_sublist _).length_le
  have hl := hs.len
  exact ⟨a1, by rw [a1, List.length_map]; omega, ⟨_, a3, hW2⟩, by rw [a4, hq], by omega, hA, hm⟩
end Go.Ab

