/- The table's methods: Locks. -/
import Derived.Test.YtbjehpjlpckbfaaLp
set_option linter.unusedSimpArgs false
set_option linter.unusedVariables false
set_option maxRecDepth 20000
set_option maxHeartbeats 8000000
namespace Go.Ab
open Go.Proofs
def keysQ (l : LE) : List Int := (l.map fun e => (e.1 : Int)).mergeSort fun x y => decide (x ≤ y)
structure SRTK (c : Int) (n : Nat) (l : LE) (K : List Int → Prop) : Prop where
 ok : MOK l c
 c0 : 0 ≤ c
 nl : l.length = n
 n1 : n ≤ 1000
 r : ∀ e ∈ l, -9223372036854775808 ≤ e.1 ∧ e.1 ≤ 9223372036854775807
 h : ∀ ks, ks = keysQ l → ks.length = n → K ks
def refAt (b : Nat) (st : StS) (K : Nat → Prop) : Prop := match nthD st.box b with
 | some B => B.fz = false ∧ (match B.cells with
   | [.mref i] => K i
   | _ => False)
 | none => False
def mapAt' (a : Nat) (st : StS) (K : Int → Nat → LE → Prop) : Prop := match nthD st.box a with
 | some B => B.m = true ∧ B.e = 6 ∧ (match B.cells with
   | [.p (.v (.int .i64 c)), .arr n t l] => (match castL tLE t l with | some l => K c n l | none => False)
   | _ => False)
 | none => False
def spSorted : OpsS → CallS := fun _ _ ds st K => match ds with
 | [.fn (.func 62) [] [.ptr j 0]] => refAt j st fun i => mapAt' i st fun c n l => SRTK c n l fun ks => K (.tl none tI ks) st
 | _ => False
theorem tSorted : ∀ ds st K, spSorted OpsS.real 44 ds st K → FnS Try.prog 44 ds st K := fun ds st K h => by
 unfold spSorted at h
 split at h
 · rename_i j
   unfold refAt at h
   split at h
   · rename_i C hC
     obtain ⟨hCf, h⟩ := h
     split at h
     · rename_i i hCc
       unfold mapAt' at h
       split at h
       · rename_i B hB
         obtain ⟨hm, he, h⟩ := h
         split at h
         · rename_i c n t l hcells
           split at h
           · rename_i l' hcast
             obtain ⟨rfl, e⟩ := castL_eq hcast
             obtain rfl := eq_of_heq e
             obtain ⟨h1, h2, h3, h4, h5, h6⟩ := h
             have hlen : (keysQ l).length = n := by unfold keysQ; rw [List.length_mergeSort, List.length_map, h3]
             refine cSortedD (l := l) (c := c) (StS.box_get hC) hCf (by simp only [BoxS.conc, hCc, concCs_cons, concCs_nil]; rfl) (StS.box_get hB) hm he ?_ (by rw [h3]; omega) h1 h2 h5 ?_
             · simp only [BoxS.conc, hcells]; rw [mapCells, arr_eq h3]
             · refine .of ?_ rfl (h6 _ rfl hlen)
               simp only [DC.conc]
               rw [hlen, h3]
               congr 2
               unfold keysQ
               generalize ((l.map fun e => (e.1 : Int)).mergeSort fun x y => decide (x ≤ y)) = ks
               induction ks with
               | nil => rfl
               | cons x ks ih => show _ :: _ = [PD.v (.int .i64 x)] ++ tI.rows ks; rw [← ih]; rfl
           · exact h.elim
         · exact h.elim
       · exact h.elim
     · exact h.elim
   · exact h.elim
 · exact h.elim
def lkV (l : LE) (a : Int) : LKV := ((l.find? fun e => e.1 == a).map (·.2.1)).getD (0, (0, (0, 0)))
def locksL (l : LE) : List LKV := (keysQ l).map (lkV l)
theorem lkV_has {l : LE} {a : Int} {v : LKV} {b : Int} (h : MHas l a v b) : lkV l a = v := by
 obtain ⟨l1, l2, rfl, h⟩ := h
 unfold lkV
 rw [List.find?_append, List.find?_eq_none.2 fun x hx => by simpa using h x hx]
 simp
theorem lkV_not {l : LE} {a : Int} (h : MNot l a) : lkV l a = (0, (0, (0, 0))) := by
 unfold lkV
 rw [List.find?_eq_none.2 fun x hx => by simpa using h x hx]; rfl
theorem cLocks (k tw c : Int) (n : Nat) (l : LE) (R : List LKV) (r : Nat) (hR : R = locksL l) (hr : r = R.length * 4) (hok : MOK l c) (hc0 : 0 ≤ c) (hn : l.length = n) (hn2 : n ≤ 100) (hin : ∀ e ∈ l, -9223372036854775808 ≤ e.1 ∧ e.1 ≤ 9223372036854775807) : FnS Try.prog 18 ([.ptr 0 0]) (tabS k tw c n l ) fun x_ s_ => x_ = (.og 0 tLock R) ∧ s_ = (⟨(tabS k tw c n l).box, [(r, 50)]⟩) := by
 refine FnS.of (S := []) (T := [(44, _)]) (U := []) (tbl := [(45, ac45 none, [.tmp 2], 4)]) (n := 29) hm32 cfg .nil (.cons tSorted .nil) .nil (.cons Try.call45 Try.func45 (ac45_ok none) (by rw [Try.ntmps45]; exact Nat.le_refl _) .nil) 6 Try.call18 Try.func18 (ac18_ok (some (2, 0))) (by rw [Try.ntmps18]; exact Nat.le_refl _) rfl _ _ _ (by rfl) ?_
 intro cmp ar cv tn ic ai mx an ad ml sb mn ln em gt up ap sc vw cp rp p1 p2 s1 s2 X Y hX hY r0 r1 r2 r3 r4 r5 r6 r7 r8 r9 r10 r11 r12 r13 r14 r15 r16 r17 r18 r19 r20 r21 r22 r23 r24
 cbv
 refine SRTK.mk hok hc0 hn (by omega) hin fun ks hks hlen => ?_
 have hRk : R = ks.map (lkV l) := by rw [hR, hks]; rfl
 have hbd : ∀ v, v ∈ ks → -9223372036854775808 ≤ v ∧ v ≤ 9223372036854775807 := fun v hv => by
   rw [hks] at hv
   unfold keysQ at hv
   rw [List.mem_mergeSort] at hv
   obtain ⟨e, he, rfl⟩ := List.mem_map.1 hv
   exact hin e he
 clear hks hR
 obtain ⟨N, hN⟩ : ∃ N : Int, N = n := ⟨_, rfl⟩
 have hlk : ic (ln tI ks) = N := by rw [r4, r12]; show ((ks.length : Nat) : Int) = N; rw [hlen, hN]
 cbv
 rw [hlk]
 try simp only [nc_eq] at *
 refine LOOP.ind (σ := List LKV × Int) (fun (O, i) => [(0, .ptr 0 0), (2, .og 0 tLock O), (12, .tl none tI ks), (13, .p (iv N)), (14, .p (iv i))])
   (fun (O, i) => ⟨(tabS k tw c n l).box ++ [{ cells := [.mref 1], e := 76, fz := false }], [(ml (ln tLock O) 4, 50)]⟩) (fun (O, i) => (N - i).toNat) (fun (O, i) => 0 ≤ i ∧ i ≤ N ∧ O = (ks.take i.toNat).map (lkV l) ∧ O.length ≤ i) ([], 0) (by simp; omega) (.inr ⟨[some 0, some 1, some 2], [none], ?_⟩) ?_
 · rw [SIM_iff]; cbv; simp [nlLe_self, lstEq]
 intro ⟨O, i⟩ hI X' hX
 dsimp only at hI
 obtain ⟨hI1, hI2, hI3, hI4⟩ := hI
 obtain ⟨x, hx⟩ : ∃ x : Int, x = gt tI ks i := ⟨_, rfl⟩
 have hst : i < N → (ks.take (i + 1).toNat).map (lkV l) = O ++ [lkV l x] := fun h => by
   have hlt : i.toNat < ks.length := by omega
   rw [show (i + 1).toNat = i.toNat + 1 by omega, List.take_add_one, List.getElem?_eq_getElem hlt, List.map_append, ← hI3]
   congr 1
   have : x = ks[i.toNat] := by rw [hx, r14]; simp [gtR, hlt]
   rw [this]; rfl
 have hend : ¬ i < N → O = R := fun h => by rw [hI3, hRk, List.take_of_length_le (by omega)]
 have hap : ∀ v, ap tLock O [v] = O ++ [v] := fun v => by rw [r16]
 have hlO : ln tLock O = O.length := by rw [r12]
 have hl1 : ∀ v, ln tLock [v] = 1 := fun v => by rw [r12]; rfl
 have hadd : i < N → ar .add .i64 i 1 = i + 1 := fun h => by rw [r1]; exact wrap64 (n := i + 1) (by omega) (by omega)
 have hh := fun (v : LKV) b (h : MHas l x v b) => lkV_has h
 have hnn := fun (h : MNot l x) => lkV_not h
 obtain ⟨w, hw⟩ : ∃ w, w = lkV l x := ⟨_, rfl⟩
 rw [← hw] at hst hh hnn
 have hlim : i < N → LIM (ad O.length 1) 32 := fun h => ⟨by rw [r8]; show (O.length + 1) * 32 ≤ _; omega, by rw [r8]; show O.length + 1 ≤ 2 ^ 63 - 1; omega⟩
 have hOl : ∀ w : LKV, ((O ++ [w]).length : Int) ≤ i + 1 := fun w => by rw [List.length_append, List.length_singleton]; omega
 have hml : EQN (ml O.length 4) (ml O.length 4) := ⟨rfl⟩
 clear hI3 hRk hw
 cbv
 try simp only [nc_eq] at *
 rw [hlk, ← hx]
 refine BR.lss r0 (fun hc => ⟨⟨hI1, hc⟩, ⟨hI1, hc⟩, MLK.mk hn (fun v b hv => ?_) (fun hv => ?_)⟩) (fun hc => ?_)
 · have hv := hh v b hv
   obtain ⟨v1, v2, v3, v4⟩ : Int × Int × Int × Int := v
   have q1 : p1 tI (.pair tU (.pair tI tI)) (v1, v2, v3, v4) = v1 := by rw [r21]
   have q2 : p1 tU (.pair tI tI) (p2 tI (.pair tU (.pair tI tI)) (v1, v2, v3, v4)) = v2 := by rw [r21, r22]
   have q3 : p1 tI tI (p2 tU (.pair tI tI) (p2 tI (.pair tU (.pair tI tI)) (v1, v2, v3, v4))) = v3 := by rw [r21, r22]
   have q4 : p2 tI tI (p2 tU (.pair tI tI) (p2 tI (.pair tU (.pair tI tI)) (v1, v2, v3, v4))) = v4 := by rw [r22]
   cbv
   rw [q1, q2, q3, q4, ← hv, hap, hlO, hl1, hadd hc]
   refine ⟨hml, hlim hc, NEXT.mk (hX (_, _) _ _ ⟨by show 0 ≤ i + 1; omega, by show i + 1 ≤ N; omega, (hst hc).symm, hOl w⟩ (by show (N - (i + 1)).toNat < (N - i).toNat; omega) (.inl ⟨rfl, rfl⟩))⟩
 · have hv := hnn hv
   rw [hap, hlO, hl1, hadd hc, ← hv]
   refine ⟨hml, hlim hc, NEXT.mk (hX (_, _) _ _ ⟨by show 0 ≤ i + 1; omega, by show i + 1 ≤ N; omega, (hst hc).symm, hOl w⟩ (by show (N - (i + 1)).toNat < (N - i).toNat; omega) (.inl ⟨rfl, rfl⟩))⟩
 · obtain rfl := hend hc
   refine RET.mk ⟨[some 0, some 1], [some 0], ?_⟩
   rw [SIM_iff]; cbv
   simp [lstEq, r9, r12, hr]
end Go.Ab
