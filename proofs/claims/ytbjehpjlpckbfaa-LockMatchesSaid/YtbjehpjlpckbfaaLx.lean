/- Locks' result is the caller's own. -/
import Derived.Test.YtbjehpjlpckbfaaLw
set_option linter.unusedSimpArgs false
set_option linter.unusedVariables false
set_option maxRecDepth 20000
set_option maxHeartbeats 8000000
namespace Go.Ab
open Go.Proofs
def flatI : D → Bool
 | .p x => flatP x
 | .ms _ _ _ => true
 | .ptr _ _ => true
 | .mref _ => true
 | _ => false
theorem UgL.refl {cs : Nat → List PD} {L : Nat} : ∀ {ds : List D}, ds.all flatI = true → UgL cs L ds ds
 | [], _ => rfl
 | d :: r, h => by
   simp only [List.all_cons, Bool.and_eq_true] at h
   obtain ⟨h1, h2⟩ := h
   refine ⟨d, r, ?_, UgL.refl h2, rfl⟩
   cases d <;> simp only [flatI, Bool.false_eq_true] at h1
   · exact ⟨h1, rfl⟩
   · rfl
   · rfl
   · rfl
theorem UgB.refl {cs : Nat → List PD} {L : Nat} : ∀ {bs : List Box}, bs.all (fun B => B.cells.all flatI) = true → UgB cs L bs bs
 | [], _ => rfl
 | B :: r, h => by
   simp only [List.all_cons, Bool.and_eq_true] at h
   exact ⟨B, r, ⟨⟨rfl, rfl⟩, fun _ => ⟨rfl, rfl, UgL.refl h.1⟩⟩, UgB.refl h.2, rfl⟩
theorem all_cells {l : List DC} : (∀ d ∈ l, (cellS d).all flatI = true) → (concCs l).all flatI = true := by
 induction l with
 | nil => intro _; rfl
 | cons d l ih =>
   intro h
   rw [concCs_cons, List.all_append, Bool.and_eq_true]
   exact ⟨h d (by simp), ih fun e he => h e (by simp [he])⟩
theorem all_p {x : PD} (h : flatP x = true) : (cellS (.p x)).all flatI = true := by
 simp only [cellS, DC.conc, List.all_cons, List.all_nil, Bool.and_true]; exact h
theorem all_mref {b : Nat} : (cellS (.mref b)).all flatI = true := by simp [cellS, DC.conc, flatI]
theorem all_arr {t : Ty} {n : Nat} {l : List t.den} (h : ∀ l, (t.rows l).all flatP = true) : (cellS (.arr n t l)).all flatI = true := by
 simp only [cellS, arrCells, List.all_map]
 have := h (t.norm n l)
 rw [List.all_eq_true] at this ⊢
 exact fun x hx => this x hx
theorem rows_LE : ∀ (o : LE), (tLE.rows o).all flatP = true
 | [] => rfl
 | x :: o => by
   have := rows_LE o
   simp only [Ty.rows, List.flatMap_cons, List.all_append, Bool.and_eq_true] at this ⊢
   exact ⟨rfl, this⟩
theorem rows_lock : ∀ (o : List LKV), (tLock.rows o).all flatP = true
 | [] => rfl
 | x :: o => by
   have := rows_lock o
   simp only [Ty.rows, List.flatMap_cons, List.all_append, Bool.and_eq_true] at this ⊢
   exact ⟨rfl, this⟩
theorem tab_flat (k tw c : Int) (n : Nat) (l : LE) : ((tabS k tw c n l).box.map BoxS.conc).all (fun B => B.cells.all flatI) = true := by
 simp only [tabS, List.map_cons, List.map_nil, List.all_cons, List.all_nil, Bool.and_true, Bool.and_eq_true, BoxS.conc]
 refine ⟨all_cells fun d hd => ?_, all_cells fun d hd => ?_⟩
 · simp only [List.mem_cons, List.not_mem_nil, or_false] at hd
   rcases hd with rfl | rfl | rfl
   · exact all_p rfl
   · exact all_p rfl
   · exact all_mref
 · simp only [List.mem_cons, List.not_mem_nil, or_false] at hd
   rcases hd with rfl | rfl
   · exact all_p rfl
   · exact all_arr rows_LE
def tabB (k tw c : Int) (n : Nat) (l : LE) (N : Nat) (R : List LKV) : StS := ⟨(tabS k tw c n l).box ++ [{ cells := [.arr N tLock R], e := 50, fz := false, ap := true }], []⟩
theorem cLocksB (k tw c : Int) (n : Nat) (l : LE) (R : List LKV) (hR : R = locksL l) (hok : MOK l c) (hc0 : 0 ≤ c) (hn : l.length = n) (hn2 : n ≤ 100) (hin : ∀ e ∈ l, -9223372036854775808 ≤ e.1 ∧ e.1 ≤ 9223372036854775807) (d : DC) (hd : R = [] ∧ d = .p (.sl (some true) 0 []) ∨ R ≠ [] ∧ d = .ms 2 0 4 none R.length) :
   FnS Try.prog 18 [.ptr 0 0] (tabS k tw c n l) fun x s => x = d ∧ s = tabB k tw c n l R.length R := by
 have h := cLocks k tw c n l R _ hR rfl hok hc0 hn hn2 hin
 have h2 := FnS.own (d' := d) (bs' := (tabS k tw c n l).box) [⟨tLock, R, 50⟩] rfl h (fun G hG => by
   simp only [List.mem_singleton] at hG; subst hG; exact rows_lock R) ?_ ?_
 · exact h2
 · exact UgB.refl (tab_flat _ _ _ _ _)
 · rcases hd with ⟨ho2, rfl⟩ | ⟨ho2, rfl⟩
   · rw [ho2]
     have e1 : (DC.og 0 tLock []).conc = .p (.sl (some true) 0 []) := by simp only [DC.conc]
     have e2 : (DC.p (.sl (some true) 0 [])).conc = .p (.sl (some true) 0 []) := by simp only [DC.conc]
     rw [e1, e2]
     exact Ug.one ⟨rfl, rfl⟩
   · have e1 : (DC.og 0 tLock R).conc = .grp 0 R.length (tLock.rows R) := og_concN ho2
     have e2 : (DC.ms 2 0 4 none R.length).conc = .ms 2 0 R.length := ms_conc
     rw [e1, e2]
     exact Ug.one ⟨rfl, rfl⟩
structure LOKB (c : Int) (n : Nat) (l : LE) (K0 : Prop) (K : List LKV → Nat → Prop) : Prop where
 tab : TAB c n l
 h0 : locksL l = [] → K0
 h : ∀ R N, R = locksL l → N = R.length → R ≠ [] → K R N
def spLocksB : OpsS → CallS := fun _ _ ds st K => match ds with
 | [.ptr a 0] => tabAt a st fun b k w c n l => LOKB c n l (frS [a, b] [] [.ptr 0 0] (tabS k w c n l) (.p (.sl (some true) 0 [])) (tabB k w c n l 0 []) ds st K)
     fun R N => frS [a, b] [] [.ptr 0 0] (tabS k w c n l) (.ms 2 0 4 none N) (tabB k w c n l N R) ds st K
 | _ => False
theorem tLocksB : ∀ ds st K, spLocksB OpsS.real 18 ds st K → FnS Try.prog 18 ds st K := fun ds st K h => by
 unfold spLocksB at h
 split at h
 · obtain ⟨b, k, w, c, n, l, h⟩ := tabAt_some h
   obtain ⟨h1, h2, h4⟩ := h
   have hb : ∀ e ∈ l, -9223372036854775808 ≤ e.1 ∧ e.1 ≤ 9223372036854775807 := fun e he => by have := h1.v e he; omega
   by_cases h0 : locksL l = []
   · have hc := cLocksB k w c n l _ rfl h1.ok h1.c0 h1.nl (by have := h1.n1; omega) hb _ (.inl ⟨h0, rfl⟩)
     rw [h0] at hc
     exact frS_ok hc (h2 h0)
   · exact frS_ok (cLocksB k w c n l _ rfl h1.ok h1.c0 h1.nl (by have := h1.n1; omega) hb _ (.inr ⟨h0, rfl⟩)) (h4 _ _ rfl rfl h0)
 · exact h.elim
end Go.Ab
