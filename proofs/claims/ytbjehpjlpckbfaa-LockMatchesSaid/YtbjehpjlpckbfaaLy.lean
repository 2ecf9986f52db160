/- The table and the reference's sorted list. -/
import Derived.Test.YtbjehpjlpckbfaaLx
set_option linter.unusedSimpArgs false
set_option linter.unusedVariables false
set_option maxRecDepth 20000
set_option maxHeartbeats 2000000
namespace Go.Ab
open Go.Proofs
def SRT (L : List LKV) : Prop := L.Pairwise fun x y => x.1 < y.1
structure REL (l : LE) (L : List LKV) : Prop where
 s : SRT L
 p : L.Perm (l.map (·.2.1))
theorem SRT.eq : ∀ {A B : List LKV}, SRT A → SRT B → (∀ v, v ∈ A ↔ v ∈ B) → A = B
 | [], [], _, _, _ => rfl
 | [], b :: B, _, _, h => by have := (h b).2 (by simp); cases this
 | a :: A, [], _, _, h => by have := (h a).1 (by simp); cases this
 | a :: A, b :: B, hA, hB, h => by
   unfold SRT at hA hB
   rw [List.pairwise_cons] at hA hB
   have e : a = b := by
     rcases List.mem_cons.1 ((h a).1 (by simp)) with e | ha
     · exact e
     · rcases List.mem_cons.1 ((h b).2 (by simp)) with e | hb
       · exact e.symm
       · have := hB.1 a ha; have := hA.1 b hb; omega
   subst e
   have := SRT.eq hA.2 hB.2 fun v => ⟨fun hv => by
     rcases List.mem_cons.1 ((h v).1 (by simp [hv])) with rfl | hv'
     · have := hA.1 v hv; omega
     · exact hv', fun hv => by
     rcases List.mem_cons.1 ((h v).2 (by simp [hv])) with rfl | hv'
     · have := hB.1 v hv; omega
     · exact hv'⟩
   rw [this]
theorem REL.uniq {l : LE} {A B : List LKV} (hA : REL l A) (hB : REL l B) : A = B := hA.s.eq hB.s fun v => by rw [hA.p.mem_iff, hB.p.mem_iff]
theorem REL.len {l : LE} {L : List LKV} (h : REL l L) : L.length = l.length := by rw [h.p.length_eq, List.length_map]
theorem REL.mem {l : LE} {L : List LKV} (h : REL l L) {v : LKV} : v ∈ L ↔ ∃ k b, (k, v, b) ∈ l := by
 rw [h.p.mem_iff, List.mem_map]
 constructor
 · rintro ⟨⟨k, v', b⟩, h1, rfl⟩; exact ⟨k, b, h1⟩
 · rintro ⟨k, b, h1⟩; exact ⟨_, h1, rfl⟩
theorem lkV_mem {l : LE} (hk : l.Pairwise fun x y => x.1 ≠ y.1) {e : Int × LKV × Int} (h : e ∈ l) : lkV l e.1 = e.2.1 := by
 obtain ⟨l1, l2, rfl⟩ := List.append_of_mem h
 rw [List.pairwise_append] at hk
 exact lkV_has (b := e.2.2) ⟨l1, l2, rfl, fun x hx => hk.2.2 x hx e (by simp)⟩
theorem REL.locks {c : Int} {n : Nat} {l : LE} (h : TAB c n l) : REL l (locksL l) := by
 have hk := h.ok.nk
 have hp : (keysQ l).Perm (l.map fun e => (e.1 : Int)) := List.mergeSort_perm _ _
 have hm : ∀ a ∈ keysQ l, (lkV l a).1 = a := fun a ha => by
   obtain ⟨e, he, rfl⟩ := List.mem_map.1 (hp.mem_iff.1 ha)
   rw [lkV_mem hk he]
   exact (h.v e he).1
 have hs : (keysQ l).Pairwise fun x y => x ≤ y := by
   have := List.pairwise_mergeSort (le := fun x y : Int => decide (x ≤ y)) (fun a b c h1 h2 => by simp only [decide_eq_true_eq] at *; omega) (fun a b => by simp only [Bool.or_eq_true, decide_eq_true_eq]; omega) (l.map fun e => (e.1 : Int))
   exact this.imp fun h => by simpa using h
 have hn : (keysQ l).Pairwise fun x y => x ≠ y := by
   refine (hp.pairwise_iff (fun h => h.symm)).2 ?_
   rw [List.pairwise_map]
   exact hk
 have hlt : (keysQ l).Pairwise fun x y => x < y := (hs.and hn).imp fun h => by omega
 refine ⟨?_, ?_⟩
 · unfold SRT locksL
   rw [List.pairwise_map]
   exact hlt.imp_of_mem fun ha hb h => by rw [hm _ ha, hm _ hb]; exact h
 · have := hp.map (lkV l)
   rw [List.map_map] at this
   have e : l.map (lkV l ∘ fun e => (e.1 : Int)) = l.map (·.2.1) := List.map_congr_left fun e he => lkV_mem hk he
   rw [e] at this
   exact this
theorem REL.empty : REL [] [] := ⟨List.Pairwise.nil, .nil⟩
def liveF (t : Int) (L : List LKV) : List LKV := L.filter fun v => !deadB t v
theorem REL.live {l : LE} {L : List LKV} (h : REL l L) (t : Int) : REL (liveL t l) (liveF t L) := by
 refine ⟨h.s.sublist List.filter_sublist, ?_⟩
 have := h.p.filter (fun v => !deadB t v)
 rw [List.filter_map] at this
 exact this
def updR (fr x : LKV) : LKV := if x.2.2.1 < fr.2.2.1 then fr else if x.2.2.1 = fr.2.2.1 then (x.1, (x.2.1, (x.2.2.1, fr.2.2.2))) else x
def putR (fr : LKV) : Bool → List LKV → List LKV
 | p, [] => if p then [] else [fr]
 | p, x :: r => (if !p && decide (x.1 > fr.1) then [fr] else []) ++ (if x.1 = fr.1 then updR fr x :: putR fr true r else x :: putR fr (p || decide (x.1 > fr.1)) r)
theorem putR_true {fr : LKV} : ∀ {r : List LKV}, (∀ x ∈ r, x.1 ≠ fr.1) → putR fr true r = r
 | [], _ => rfl
 | x :: r, h => by
   rw [putR, if_neg (by simp), if_neg (h x (by simp))]
   simp only [Bool.true_or, List.nil_append]
   rw [putR_true fun y hy => h y (by simp [hy])]
theorem putR_has {fr x : LKV} (hx : x.1 = fr.1) {L2 : List LKV} : ∀ {L1 : List LKV}, SRT (L1 ++ x :: L2) → putR fr false (L1 ++ x :: L2) = L1 ++ updR fr x :: L2
 | [], h => by
   unfold SRT at h
   rw [List.nil_append, List.pairwise_cons] at h
   rw [List.nil_append, putR, if_neg (by simp; omega), if_pos hx, putR_true fun y hy => by have := h.1 y hy; omega]
   first | done | exact List.nil_append _
 | y :: L1, h => by
   unfold SRT at h
   rw [List.cons_append, List.pairwise_cons] at h
   have := h.1 x (by simp)
   rw [List.cons_append, putR, if_neg (by simp; omega), if_neg (by omega)]
   have e : (false || decide (y.1 > fr.1)) = false := by simp; omega
   rw [e, putR_has hx h.2]
   first | done | rfl
theorem putR_not {fr : LKV} : ∀ {L : List LKV}, SRT L → (∀ x ∈ L, x.1 ≠ fr.1) → SRT (putR fr false L) ∧ (putR fr false L).Perm (fr :: L)
 | [], _, _ => ⟨List.pairwise_singleton _ _, .refl _⟩
 | x :: r, h, hn => by
   have h' := h
   unfold SRT at h
   rw [List.pairwise_cons] at h
   have hx := hn x (by simp)
   by_cases hgt : x.1 > fr.1
   · rw [putR, if_pos (by simpa using hgt), if_neg hx]
     have e : (false || decide (x.1 > fr.1)) = true := by simpa using hgt
     rw [e, putR_true fun y hy => hn y (by simp [hy])]
     refine ⟨List.pairwise_cons.2 ⟨fun y hy => ?_, h'⟩, .refl _⟩
     rcases List.mem_cons.1 hy with rfl | hy
     · exact hgt
     · have := h.1 y hy; omega
   · obtain ⟨h1, h2⟩ := putR_not h.2 fun y hy => hn y (by simp [hy])
     rw [putR, if_neg (by simpa using hgt), if_neg hx]
     have e : (false || decide (x.1 > fr.1)) = false := by simpa using hgt
     rw [e]
     refine ⟨List.pairwise_cons.2 ⟨fun y hy => ?_, h1⟩, (h2.cons x).trans (.swap _ _ _)⟩
     rcases List.mem_cons.1 (h2.mem_iff.1 hy) with rfl | hy
     · omega
     · exact h.1 y hy
inductive RSET (k tw : Int) (L : List LKV) (t : Int) (ch : Int × Int × Int × Int) : Int → Int → List LKV → Prop
 | at (h : atE tw t ≠ 0) : RSET k tw L t ch (atE tw t) tw L
 | chk (h : atE tw t = 0) (h2 : lcheckM ch ≠ 0) : RSET k tw L t ch (lcheckM ch) tw L
 | full (h : atE tw t = 0) (h2 : lcheckM ch = 0) (h3 : 16 < (putR (ch.1, (ch.2.2.1, (ch.2.2.2, t + k))) false (liveF t L)).length) : RSET k tw L t ch 17 tw L
 | ok (h : atE tw t = 0) (h2 : lcheckM ch = 0) (h3 : ¬ 16 < (putR (ch.1, (ch.2.2.1, (ch.2.2.2, t + k))) false (liveF t L)).length) : RSET k tw L t ch 0 t (putR (ch.1, (ch.2.2.1, (ch.2.2.2, t + k))) false (liveF t L))
theorem RSET_ex (k tw : Int) (L : List LKV) (t : Int) (ch : Int × Int × Int × Int) : ∃ e tw' L', RSET k tw L t ch e tw' L' := by
 by_cases h1 : atE tw t = 0
 · by_cases h2 : lcheckM ch = 0
   · by_cases h3 : 16 < (putR (ch.1, (ch.2.2.1, (ch.2.2.2, t + k))) false (liveF t L)).length
     · exact ⟨_, _, _, .full h1 h2 h3⟩
     · exact ⟨_, _, _, .ok h1 h2 h3⟩
   · exact ⟨_, _, _, .chk h1 h2⟩
 · exact ⟨_, _, _, .at h1⟩
theorem REL.put {c k t : Int} {n : Nat} {L0 : LE} {Lr : List LKV} (hT : TAB c n L0) (h : REL L0 Lr) {ch : Int × Int × Int × Int} {l' : LE} {c' : Int} (hS : SETOK k t L0 c ch l' c') : REL l' (putR (ch.1, (ch.2.2.1, (ch.2.2.2, t + k))) false Lr) := by
 obtain ⟨a, to, se, m⟩ := ch
 obtain ⟨fr, hfr⟩ : ∃ fr : LKV, fr = (a, (se, (m, t + k))) := ⟨_, rfl⟩
 show REL l' (putR (a, (se, (m, t + k))) false Lr)
 rw [← hfr]
 have fr1 : fr.1 = a := by rw [hfr]
 have hv : ∀ e ∈ L0, e.2.1.1 = e.1 := fun e he => (hT.v e he).1
 have has : ∀ v b l1 l2, L0 = l1 ++ (a, v, b) :: l2 → ∃ L1 L2, Lr = L1 ++ v :: L2 ∧ v.1 = a ∧ (L1 ++ L2).Perm ((l1 ++ l2).map (·.2.1)) := fun v b l1 l2 e => by
   have hva : v.1 = a := hv (a, v, b) (by rw [e]; simp)
   have hvm : v ∈ Lr := h.mem.2 ⟨a, b, by rw [e]; simp⟩
   obtain ⟨L1, L2, e2⟩ := List.append_of_mem hvm
   refine ⟨L1, L2, e2, hva, ?_⟩
   have hp := h.p
   rw [e, e2, List.map_append, List.map_cons] at hp
   have := (List.perm_middle.symm.trans (hp.trans List.perm_middle)).cons_inv
   rw [List.map_append]
   exact this
 have repl : ∀ v b w l1 l2 L1 L2, L0 = l1 ++ (a, v, b) :: l2 → Lr = L1 ++ v :: L2 → v.1 = a → w = updR fr v → (L1 ++ L2).Perm ((l1 ++ l2).map (·.2.1)) → REL (l1 ++ (a, w, b) :: l2) (putR fr false Lr) := fun v b w l1 l2 L1 L2 e e2 hva hw hp => by
   have hs := h.s
   rw [e2] at hs ⊢
   rw [putR_has (hva.trans fr1.symm) hs, hw]
   have hu1 : (updR fr v).1 = v.1 := by
     unfold updR
     split
     · rw [fr1, hva]
     · split <;> rfl
   refine ⟨?_, ?_⟩
   · unfold SRT at hs ⊢
     rw [List.pairwise_append, List.pairwise_cons] at hs ⊢
     refine ⟨hs.1, ⟨fun x hx => by rw [hu1]; exact hs.2.1.1 x hx, hs.2.1.2⟩, fun x hx y hy => ?_⟩
     rcases List.mem_cons.1 hy with rfl | hy
     · rw [hu1]; exact hs.2.2 x hx v (by simp)
     · exact hs.2.2 x hx y (by simp [hy])
   · rw [List.map_append, List.map_cons]
     rw [List.map_append] at hp
     exact List.perm_middle.trans ((hp.cons _).trans List.perm_middle.symm)
 rcases hS with ⟨v, b, hh, hgt, rfl, rfl⟩ | ⟨v, b, hh, hle, hp⟩ | ⟨hn, hne, hp⟩
 · obtain ⟨l1, l2, e, _⟩ := hh
   obtain ⟨L1, L2, e2, hva, hp⟩ := has v b l1 l2 e
   have := repl v b v l1 l2 L1 L2 e e2 hva (by
     have hgt : v.2.2.1 > m := hgt
     unfold updR
     rw [hfr, if_neg (by dsimp only; omega), if_neg (by dsimp only; omega)]) hp
   rw [e]; exact this
 · rcases hp with ⟨l1, v0, b0, l2, e, h1, rfl, rfl⟩ | ⟨hno, _⟩
   · have hh0 : MHas L0 a v0 b0 := ⟨l1, l2, e, h1⟩
     obtain ⟨rfl, rfl⟩ := MHas_uniq hT.ok hh hh0
     obtain ⟨L1, L2, e2, hva, hp⟩ := has v b l1 l2 e
     refine repl v b _ l1 l2 L1 L2 e e2 hva ?_ hp
     have hle : v.2.2.1 ≤ m := hle
     unfold newV updR
     rw [hfr]
     dsimp only
     by_cases hlt : v.2.2.1 < m
     · rw [if_pos hlt, if_pos hlt]
     · rw [if_neg hlt, if_neg hlt, if_pos (by omega)]
   · exact absurd hno hh.not
 · rcases hp with ⟨l1, v0, b0, l2, e, h1, rfl, rfl⟩ | ⟨hno, rfl, rfl⟩
   · exact absurd rfl (hn (a, v0, b0) (by rw [e]; simp))
   · have hnr : ∀ x ∈ Lr, x.1 ≠ fr.1 := fun x hx => by
       obtain ⟨k', b', hm⟩ := h.mem.1 hx
       have h1 := hn _ hm
       have h2 := hv _ hm
       rw [fr1]
       dsimp only at h1 h2
       omega
     obtain ⟨q1, q2⟩ := putR_not h.s hnr
     refine ⟨q1, q2.trans ?_⟩
     rw [List.map_append, List.map_singleton]
     have : ((a, (se, (m, t + k))) : LKV) = fr := hfr.symm
     show (fr :: Lr).Perm (L0.map (·.2.1) ++ [(a, (se, (m, t + k)))])
     rw [this]
     exact (h.p.cons fr).trans (List.perm_append_singleton fr _).symm
theorem REL.set {k tw c : Int} {n : Nat} {l : LE} {L : List LKV} {t : Int} {ch : Int × Int × Int × Int} {e tw' c' : Int} {l' : LE} {e2 tw2 : Int} {L' : List LKV} (hT : TAB c n l) (h : REL l L)
   (hS : SETR k tw c l t ch e tw' l' c') (hR : RSET k tw L t ch e2 tw2 L') : e2 = e ∧ tw2 = tw' ∧ REL l' L' := by
 have hl := h.live t
 have hTl := hT.live t
 have hfull : ∀ {fr : LKV}, fr.1 = ch.1 → (16 < (putR fr false (liveF t L)).length ↔ (MNot (liveL t l) ch.1 ∧ (liveL t l).length = 16)) := fun {fr} hfr => by
   have hn16 : (liveL t l).length ≤ 16 := by have := hTl.n1; omega
   rcases MHas_or (liveL t l) ch.1 with hn | ⟨v, b, l1, l2, e, hk⟩
   · have hnr : ∀ x ∈ liveF t L, x.1 ≠ fr.1 := fun x hx => by
       obtain ⟨k', b', hm⟩ := hl.mem.1 hx
       have h1 := hn _ hm
       have h2 := (hTl.v _ hm).1
       rw [hfr]
       dsimp only at h1 h2
       omega
     rw [(putR_not hl.s hnr).2.length_eq, List.length_cons, hl.len]
     constructor
     · intro h; exact ⟨hn, by omega⟩
     · intro h; omega
   · have hv := (hTl.v (ch.1, v, b) (by rw [e]; simp)).1
     obtain ⟨L1, L2, e2⟩ := List.append_of_mem (hl.mem.2 ⟨ch.1, b, by rw [e]; simp⟩ : v ∈ liveF t L)
     have hs := hl.s
     have hln := hl.len
     rw [e2] at hs hln ⊢
     rw [putR_has (hv.trans hfr.symm) hs]
     simp only [List.length_append, List.length_cons] at hln ⊢
     constructor
     · intro h; omega
     · rintro ⟨hn, _⟩
       exact absurd rfl (hn (ch.1, v, b) (by rw [e]; simp))
 have hfr : ((ch.1, (ch.2.2.1, (ch.2.2.2, t + k))) : LKV).1 = ch.1 := rfl
 cases hR with
 | «at» h1 =>
   obtain ⟨rfl, rfl, rfl, rfl⟩ := hS.bad h1
   exact ⟨rfl, rfl, h⟩
 | chk h1 h2 =>
   obtain ⟨rfl, rfl, rfl, rfl⟩ := hS.wrong h1 h2
   exact ⟨rfl, rfl, h⟩
 | full h1 h2 h3 =>
   obtain ⟨h4, h5⟩ := (hfull hfr).1 h3
   obtain ⟨rfl, rfl, rfl, rfl⟩ := hS.over h1 h2 h4 h5
   exact ⟨rfl, rfl, h⟩
 | ok h1 h2 h3 =>
   obtain ⟨rfl, rfl, h6⟩ := hS.good h1 h2 fun h => h3 ((hfull hfr).2 h)
   exact ⟨rfl, rfl, hl.put hTl h6⟩
inductive RTICK (tw : Int) (L : List LKV) (t : Int) : Int → Int → List LKV → Prop
 | at (h : atE tw t ≠ 0) : RTICK tw L t (atE tw t) tw L
 | ok (h : atE tw t = 0) : RTICK tw L t 0 t (liveF t L)
theorem RTICK_ex (tw : Int) (L : List LKV) (t : Int) : ∃ e tw' L', RTICK tw L t e tw' L' := by
 by_cases h1 : atE tw t = 0
 · exact ⟨_, _, _, .ok h1⟩
 · exact ⟨_, _, _, .at h1⟩
theorem REL.tick {tw : Int} {l : LE} {L : List LKV} {t e tw' : Int} {l' : LE} {e2 tw2 : Int} {L' : List LKV} (h : REL l L) (hS : TICKR tw l t e tw' l') (hR : RTICK tw L t e2 tw2 L') : e2 = e ∧ tw2 = tw' ∧ REL l' L' := by
 cases hR with
 | «at» h1 =>
   obtain ⟨rfl, rfl, rfl⟩ := hS.bad h1
   exact ⟨rfl, rfl, h⟩
 | ok h1 =>
   obtain ⟨rfl, rfl, rfl⟩ := hS.good h1
   exact ⟨rfl, rfl, h.live _⟩
def senR (L : List LKV) (a : Int) : Int := ((L.find? fun v => v.1 == a).map (·.2.1)).getD 0
theorem REL.sense {c : Int} {n : Nat} {l : LE} {L : List LKV} (hT : TAB c n l) (h : REL l L) {a x : Int} (hs : SENS l a x) : senR L a = x := by
 unfold senR
 rcases hs with ⟨v, b, ⟨l1, l2, e, hk⟩, rfl⟩ | ⟨hn, rfl⟩
 · have hv := (hT.v (a, v, b) (by rw [e]; simp)).1
   obtain ⟨L1, L2, e2⟩ := List.append_of_mem (h.mem.2 ⟨a, b, by rw [e]; simp⟩ : v ∈ L)
   have hs := h.s
   rw [e2] at hs ⊢
   unfold SRT at hs
   rw [List.pairwise_append] at hs
   rw [List.find?_append, List.find?_eq_none.2 fun x hx => by have := hs.2.2 x hx v (by simp); simp; dsimp only at hv; omega]
   rw [Option.none_or, List.find?_cons_of_pos (by simpa using hv)]; rfl
 · rw [List.find?_eq_none.2 fun x hx => ?_]
   · rfl
   · obtain ⟨k', b', hm⟩ := h.mem.1 hx
     have h1 := hn _ hm
     have h2 := (hT.v _ hm).1
     dsimp only at h1 h2
     simp; omega
def heldR (L : List LKV) (s : Int) : Bool := L.any fun v => decide (v.2.1 = s)
def mskR (L : List LKV) : List BND → List Bool
 | [] => []
 | _ :: r => true :: r.map fun x => !heldR L x.1
theorem REL.held {l : LE} {L : List LKV} (h : REL l L) (s : Int) : heldB l s = heldR L s := by
 unfold heldB heldR
 rw [Bool.eq_iff_iff, List.any_eq_true, List.any_eq_true]
 constructor
 · rintro ⟨e, he, h2⟩
   exact ⟨e.2.1, h.mem.2 ⟨e.1, e.2.2, he⟩, h2⟩
 · rintro ⟨v, hv, h2⟩
   obtain ⟨k, b, hm⟩ := h.mem.1 hv
   exact ⟨_, hm, h2⟩
theorem REL.mask {l : LE} {L : List LKV} (h : REL l L) (B : List BND) : mskL l B = mskR L B := by
 cases B with
 | nil => rfl
 | cons x r =>
   show true :: r.map (fun x => !heldB l x.1) = true :: r.map (fun x => !heldR L x.1)
   rw [show heldB l = heldR L from funext h.held]
end Go.Ab
