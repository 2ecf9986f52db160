/- The table and the reference's sorted list. -/
import Derived.Test.YtbjehpjlpckbfaaLx
set_option linter.unusedSimpArgs false
set_option linter.unusedVariables false
set_option maxRecDepth 20000
set_option maxHeartbeats 2000000
namespace Go.Ab
open Go.Proofs
def SRT (L : List LKV) : Prop := L.Pairwise fun x y => x.1 < y.1
structure REL (l : LE) (L : List LKV) : Prop where
 s : SRT L
 p : L.Perm (l.map (·.2.1))
theorem SRT.eq : ∀ {A B : List LKV}, SRT A → SRT B → (∀ v, v ∈ A ↔ v ∈ B) → A = B
 | [], [], _, _, _ => rfl
 | [], b :: B, _, _, h => by have := (h b).2 (by simp); cases this
 | a :: A, [], _, _, h => by have := (h a).1 (by simp); cases this
 | a :: A, b :: B, hA, hB, h => by
   unfold SRT at hA hB
   rw [List.pairwise_cons] at hA hB
   have e : a = b := by
     rcases List.mem_cons.1 ((h a).1 (by simp)) with e | ha
     · exact e
     · rcases List.mem_cons.1 ((h b).2 (by simp)) with e | hb
       · exact e.symm
       · have := hB.1 a ha; have := hA.1 b hb; omega
   subst e
   have := SRT.eq hA.2 hB.2 fun v => ⟨fun hv => by
     rcases List.mem_cons.1 ((h v).1 (by simp [hv])) with rfl | hv'
     · have := hA.1 v hv; omega
     · exact hv', fun hv => by
     rcases List.mem_cons.1 ((h v).2 (by simp [hv])) with rfl | hv'
     · have := hB.1 v hv; omega
     · exact hv'⟩
   rw [this]
theorem REL.uniq {l : LE} {A B : List LKV} (hA : REL l A) (hB : REL l B) : A = B := hA.s.eq hB.s fun v => by rw [hA.p.mem_iff, hB.p.mem_iff]
theorem REL.len {l : LE} {L : List LKV} (h : REL l L) : L.length = l.length := by rw [h.p.length_eq, List.length_map]
theorem lkV_mem {l : LE} (hk : l.Pairwise fun x y => x.1 ≠ y.1) {e : Int × LKV × Int} (h : e ∈ l) : lkV l e.1 = e.2.1 := by
 obtain ⟨l1, l2, rfl⟩ := List.append_of_mem h
 rw [List.pairwise_append] at hk
 exact lkV_has (b := e.2.2) ⟨l1, l2, rfl, fun x hx => hk.2.2 x hx e (by simp)⟩
theorem REL.locks {c : Int} {n : Nat} {l : LE} (h : TAB c n l) : REL l (locksL l) := by
 have hk := h.ok.nk
 have hp : (keysQ l).Perm (l.map fun e => (e.1 : Int)) := List.mergeSort_perm _ _
 have hm : ∀ a ∈ keysQ l, (lkV l a).1 = a := fun a ha => by
   obtain ⟨e, he, rfl⟩ := List.mem_map.1 (hp.mem_iff.1 ha)
   rw [lkV_mem hk he]
   exact (h.v e he).1
 have hs : (keysQ l).Pairwise fun x y => x ≤ y := by
   have := List.pairwise_mergeSort (le := fun x y : Int => decide (x ≤ y)) (fun a b c h1 h2 => by simp only [decide_eq_true_eq] at *; omega) (fun a b => by simp only [Bool.or_eq_true, decide_eq_true_eq]; omega) (l.map fun e => (e.1 : Int))
   exact this.imp fun h => by simpa using h
 have hn : (keysQ l).Pairwise fun x y => x ≠ y := by
   refine (hp.pairwise_iff (fun h => h.symm)).2 ?_
   rw [List.pairwise_map]
   exact hk
 have hlt : (keysQ l).Pairwise fun x y => x < y := (hs.and hn).imp fun h => by omega
 refine ⟨?_, ?_⟩
 · unfold SRT locksL
   rw [List.pairwise_map]
   exact hlt.imp_of_mem fun ha hb h => by rw [hm _ ha, hm _ hb]; exact h
 · have := hp.map (lkV l)
   rw [List.map_map] at this
   have e : l.map (lkV l ∘ fun e => (e.1 : Int)) = l.map (·.2.1) := List.map_congr_left fun e he => lkV_mem hk he
   rw [e] at this
   exact this
def liveF (t : Int) (L : List LKV) : List LKV := L.filter fun v => !deadB t v
def updR (fr x : LKV) : LKV := if x.2.2.1 < fr.2.2.1 then fr else if x.2.2.1 = fr.2.2.1 then (x.1, (x.2.1, (x.2.2.1, fr.2.2.2))) else x
def putR (fr : LKV) : Bool → List LKV → List LKV
 | p, [] => if p then [] else [fr]
 | p, x :: r => (if !p && decide (x.1 > fr.1) then [fr] else []) ++ (if x.1 = fr.1 then updR fr x :: putR fr true r else x :: putR fr (p || decide (x.1 > fr.1)) r)
inductive RSET (k tw : Int) (L : List LKV) (t : Int) (ch : Int × Int × Int × Int) : Int → Int → List LKV → Prop
 | at (h : atE tw t ≠ 0) : RSET k tw L t ch (atE tw t) tw L
 | chk (h : atE tw t = 0) (h2 : lcheckM ch ≠ 0) : RSET k tw L t ch (lcheckM ch) tw L
 | full (h : atE tw t = 0) (h2 : lcheckM ch = 0) (h3 : 16 < (putR (ch.1, (ch.2.2.1, (ch.2.2.2, t + k))) false (liveF t L)).length) : RSET k tw L t ch 17 tw L
 | ok (h : atE tw t = 0) (h2 : lcheckM ch = 0) (h3 : ¬ 16 < (putR (ch.1, (ch.2.2.1, (ch.2.2.2, t + k))) false (liveF t L)).length) : RSET k tw L t ch 0 t (putR (ch.1, (ch.2.2.1, (ch.2.2.2, t + k))) false (liveF t L))
inductive RTICK (tw : Int) (L : List LKV) (t : Int) : Int → Int → List LKV → Prop
 | at (h : atE tw t ≠ 0) : RTICK tw L t (atE tw t) tw L
 | ok (h : atE tw t = 0) : RTICK tw L t 0 t (liveF t L)
def senR (L : List LKV) (a : Int) : Int := ((L.find? fun v => v.1 == a).map (·.2.1)).getD 0
def heldR (L : List LKV) (s : Int) : Bool := L.any fun v => decide (v.2.1 = s)
def mskR (L : List LKV) : List BND → List Bool
 | [] => []
 | _ :: r => true :: r.map fun x => !heldR L x.1
end Go.Ab
