/- LinkSplit. -/
import Derived.Test.YtchmkekndbfflaaLx
import Derived.Test.YtchmkekndbfflaaLE
set_option linter.unusedSimpArgs false
set_option linter.unusedVariables false
set_option maxRecDepth 20000
set_option maxHeartbeats 8000000
namespace Go.Ab
open Go.Proofs
theorem sortQ_eq {q s : List PT} {n : Nat} (h : SQ q n s) : sortQ (q.take n) = s := by
  obtain ⟨h1, h2, h3⟩ := sortQ_spec (q.take n)
  have hp := h2.trans h.pm.symm
  have hs : (sortQ (q.take n)).Pairwise fun a b => ¬ ltP b a := by
    rw [List.pairwise_iff_getElem]
    intro i j hi hj hij
    have := h3 i j hij (by omega)
    have e : ∀ k (hk : k < (sortQ (q.take n)).length), (sortQ (q.take n)).getD k tPar.dflt = (sortQ (q.take n))[k] := fun k hk => by rw [List.getD, List.getElem?_eq_getElem hk]; rfl
    rw [e i hi, e j hj] at this
    simpa [befB, ltP] using this
  refine List.Perm.eq_of_pairwise (le := fun a b => ¬ ltP b a) (fun a b ha hb h4 h5 => ?_) hs (h.so.imp fun h => h.asymm) hp
  have ha' := hp.mem_iff.1 ha
  obtain ⟨i, hi, rfl⟩ := List.getElem_of_mem ha'
  obtain ⟨j, hj, rfl⟩ := List.getElem_of_mem hb
  rcases Nat.lt_trichotomy i j with hij | hij | hij
  · exact absurd (List.pairwise_iff_getElem.1 h.so i j hi hj hij) h5
  · subst hij; rfl
  · exact absurd (List.pairwise_iff_getElem.1 h.so j i hj hi hij) h4
structure PND (N n : Nat) (q : List tPar.den) (K : List tPar.den → Prop) : Prop where
  pre : (∃ s, SQ q n s) ∧ q.length = N ∧ n ≤ 300
  h : ∀ s, SQ q n s → K s
def spPendR : OpsS → CallS := fun _ _ ds st K => match ds with
  | [.ptr a 0] => linkAt a st fun b c F now sent N n q => PND N n q fun s => frS [a, b, c] [] [.ptr 0 0] (linkS F now sent N n q) (.ms 3 0 6 none n) ⟨(linkS F now sent N n q).box ++ [{ cells := [.arr n tPar s], e := 49, fz := false, ap := true }], []⟩ ds st K
  | _ => False
theorem cPendR : ∀ ds st K, spPendR OpsS.real 18 ds st K → FnS Try.prog 18 ds st K := fun ds st K h => by
  unfold spPendR at h
  split at h
  · obtain ⟨b, c, F, now, sent, N, n, q, hu⟩ := linkAt_some h
    obtain ⟨⟨s, hs⟩, h2, h3⟩ := hu.pre
    have hc := cPend F now sent N n q h2 (h2 ▸ hs.le) h3
    rw [sortQ_eq hs] at hc
    exact frS_ok hc (hu.h s hs)
  · exact h.elim
theorem cParcels (na : Option Bool) (a : List tPar.den) (nb : Option Bool) (b : List tPar.den) (r : Bool) (hr : r = decide (a = b)) (h : a.length < 1000) : PurS Try.prog 19 [injT (.sl tPar) (na, a), injT (.sl tPar) (nb, b)] (.sb r) := by
  refine PurS.of (S := []) (T := []) (U := []) (tbl := []) (n := 26) hm33 cfg .nil .nil .nil .nil 0 Try.call19 Try.func19 (ac19_ok (some (0, 0))) (by rw [Try.ntmps19]; exact Nat.le_refl _) rfl ⟨_, rfl⟩ ?_
  intro cmp ar cv tn ic ai mx an ad ml sb mn ln em gt up ap sc vw cp rp p1 p2 s1 s2 X Y hX hY r0 r1 r2 r3 r4 r5 r6 r7 r8 r9 r10 r11 r12 r13 r14 r15 r16 r17 r18 r19 r20 r21 r22 r23 r24
  cbv
  refine BR.mk ?_ ?_ <;> intro hc
  · subst_vars
    simp only [Short_iff, cmpR, arR, mxR, INB_iff, SLB_iff, SLM_iff, NZ_iff, NN_iff, EQN_iff, LEN_iff, LIM_iff, MK_iff, decide_eq_true_eq, decide_eq_false_iff_not, ne_eq, Bool.and_eq_true, nc_eq] at *
    grind
  · refine LOOP.ind (σ := Int) (fun i => [(0, .tl na tPar a), (1, .tl nb tPar b), (5, .p (iv i))]) (fun _ => ⟨[], []⟩) (fun i => (a.length - i).toNat) (fun i => 0 ≤ i ∧ i ≤ a.length ∧ (a.drop i.toNat = b.drop i.toNat ↔ a = b)) 0 (by simp) (.inl ⟨rfl, rfl⟩) ?_
    intro i hI X' hX
    have hd := drop_eq (t := tPar) (a := a) (b := b) (i := i)
    have he := gtR_end (l := a) (i := i)
    have he' := gtR_end (l := b) (i := i)
    cbv
    repeat' (first | exact True.intro | refine And.intro ?_ ?_ | (refine BR.mk ?_ ?_ <;> intro _) | (refine CASE.mk ?_; intro _) | refine NEXT.mk (hX _ _ _ ?_ ?_ (.inl ⟨rfl, rfl⟩)))
    all_goals clear hX
    all_goals subst_vars
    all_goals try simp only [Short_iff, cmpR, arR, mxR, INB_iff, SLB_iff, SLM_iff, NZ_iff, NN_iff, EQN_iff, LEN_iff, LIM_iff, MK_iff, decide_eq_true_eq, decide_eq_false_iff_not, ne_eq, Bool.and_eq_true] at *
    all_goals try dsimp only [Ty.den] at *
    all_goals try simp only [nc_eq] at *
    all_goals try (simp (disch := omega) only [wrap64] at *)

    all_goals grind
def eqPa (a b : List tPar.den) : Bool := decide (a = b)
theorem cParcels' (na : Option Bool) (a : List tPar.den) (nb : Option Bool) (b : List tPar.den) (h : Short 900 a) : PurS Try.prog 19 [injT (.sl tPar) (na, a), injT (.sl tPar) (nb, b)] (.sb (eqPa a b)) :=
  cParcels na a nb b _ rfl (by have := Short_iff.1 h; omega)
end Go.Ab

