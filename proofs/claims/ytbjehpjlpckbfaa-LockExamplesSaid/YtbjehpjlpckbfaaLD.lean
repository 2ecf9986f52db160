/- What closed runs know of maps of any number of locks. -/
import Derived.Test.YtbjehpjlpckbfaaLn
set_option linter.unusedSimpArgs false
set_option linter.unusedVariables false
set_option maxRecDepth 20000
set_option maxHeartbeats 8000000
namespace Go.Proofs
open Go.Shelf Go.RowKit Go.Lib Go.Sort Go.Maps Go.Ab
theorem Try.sortedNil (w : World) (bx : Nat) (hcell : w.cell? ⟨bx, 0, none⟩ = some (.map none)) (hbx : bx < w.heap.size) :
   Calls Try.prog 44 #[.func (.func 62) #[] #[.pointer (some ⟨bx, 0, none⟩)]] w fun e w' => ∃ v : Value, e = .returned v ∧ w'.ownsRow w.heap.size 3 1 v 0 [] ∧ Below w.heap.size w w' := by
 refine (callsIn_wide (n := 5)).1 ?_
 have hseq := AnyZI.keys_gives_nil (ρ := Try.keysL_ren) { Try.keysL with } Fence.wide 2 trivial rfl bx w hbx hcell
 have cS := AnyZI.sorted_in Try.sortedL Fence.wide 5 trivial trivial trivial trivial rfl (by omega) (Try.sortsL _) (enters_of Try.func61 (by kernel_rfl) rfl) 62 #[.pointer (some ⟨bx, 0, none⟩)] trivial (enters_of Try.func62 (by kernel_rfl) rfl) _ _ (by decide) (by decide) _ hseq
 change CallsIn _ _ Try.prog 44 _ _ _ at cS
 refine cS.mono ?_
 rintro e w' ⟨v, ss, rfl, rfl, hrow, hnil, hb⟩
 have e0 : ([] : List Int).mergeSort (fun x y => decide (x ≤ y)) = [] := by simp
 rw [e0] at hrow
 exact ⟨v, rfl, hrow, hb⟩
end Go.Proofs
namespace Go.Ab
open Go.Proofs Go.RowKit
theorem cSortedNil {st : St} {j : Nat} {C : Box} (hC : st.box[j]? = some C) (hCf : C.fz = false) (hCc : C.cells = [.p (.v (.map none))]) {K : D → St → Prop} (hK : K (.p (.sl none 0 [])) st) :
   FnC Try.prog 44 [.fn (.func 62) [] [.ptr j 0]] st K := by
 intro cx
 refine ⟨Try.call44, fun E w vs hw hgl hsz hR => ?_⟩
 obtain ⟨v0, rfl⟩ : ∃ v0, vs = #[v0] := ⟨vs[0]'(by rw [hsz]; exact Nat.one_pos), by
   apply Array.ext
   · simpa using hsz
   · intro k h1 h2
     have hk : k < 1 := by simpa using h2
     match k, hk with
     | 0, _ => rfl⟩
 obtain ⟨us, ws, hv0, hus, hws, _, hT⟩ := (hR 0 (by simp)).fn_inv
 obtain rfl : us = #[] := Array.eq_empty_of_size_eq_zero (by simpa using hus)
 obtain ⟨u0, rfl⟩ : ∃ u0, ws = #[u0] := ⟨ws[0]'(by rw [hws]; exact Nat.one_pos), by
   apply Array.ext
   · simpa using hws
   · intro k h1 h2
     have hk : k < 1 := by simpa using h2
     match k, hk with
     | 0, _ => rfl⟩
 obtain ⟨bx, hNx, hu0⟩ := (hT 0 (by simp)).ptr_inv
 have hu0 : u0 = .pointer (some ⟨bx, 0, none⟩) := by simpa using hu0
 subst hu0
 obtain rfl : v0 = .func (.func 62) #[] #[.pointer (some ⟨bx, 0, none⟩)] := hv0
 have hjx := hw.live hNx hC hCf
 obtain ⟨C', cs, q1, q2, q3, q4, _, q6, _⟩ := hw.box j bx hjx
 rw [hC] at q1
 obtain rfl : C = C' := by simpa using q1
 rw [objOf_cells cs (q6.1.symm.trans hCf)] at q2
 have hcl : 0 < C.cells.length := by rw [hCc]; simp
 have h0 := q4 0 hcl
 rw [hCc] at h0
 have hcs0 := h0.1.p_inv.v_inv
 have hcell : w.cell? ⟨bx, 0, none⟩ = some (.map none) := by
   unfold World.cell?
   have : 0 < cs.size := by omega
   simp only [q2]
   rw [← hcs0]
   simp [Array.getD, this]
 refine (Try.sortedNil w bx hcell (hw.ι_lt hjx)).mono ?_
 rintro e w' ⟨v, rfl, hrow, hbel⟩
 obtain ⟨E', k1, k2, k3, k4⟩ := hw.sortedKeys hbel (n := 0) (ks := []) rfl hrow
 exact ⟨v, E', _, _, rfl, k1, k2, k3, fun i b hi _ => k4 i b hi, hK⟩
noncomputable def leP : List D → Option LE
 | [] => some []
 | .p (.v (.int .i64 k)) :: .p (.v (.int .i64 a)) :: .p (.v (.int .u8 s)) :: .p (.v (.int .i64 m)) :: .p (.v (.int .i64 u)) :: .p (.v (.int .i64 b)) :: r => (match leP r with | some l => some ((k, ((a, (s, (m, u))), b)) :: l) | none => none)
 | _ => none
theorem leP_spec : ∀ (n : Nat) {cs : List D} {l : LE}, cs.length ≤ n → leP cs = some l → cs = (tLE.rows l).map .p
 | 0, cs, l, hn, h => by
   cases cs with
   | nil => simp only [leP, Option.some.injEq] at h; subst h; rfl
   | cons _ _ => simp at hn
 | n + 1, cs, l, hn, h => by
   unfold leP at h
   split at h
   · simp only [Option.some.injEq] at h; subst h; rfl
   · rename_i k a s m u b r
     split at h
     · rename_i l' hl
       simp only [Option.some.injEq] at h; subst h
       have := leP_spec n (by simp only [List.length_cons] at hn; omega) hl
       rw [this]; rfl
     · cases h
   · cases h
noncomputable def nodI : List Int → Bool
 | [] => true
 | x :: r => (r.all fun y => !decide (x = y)) && nodI r
theorem nodI_spec : ∀ {l : List Int}, nodI l = true → l.Pairwise fun x y => x ≠ y
 | [], _ => .nil
 | x :: r, h => by
   simp only [nodI, Bool.and_eq_true, List.all_eq_true] at h
   exact .cons (fun y hy => by simpa using h.1 y hy) (nodI_spec h.2)
noncomputable def okB (l : LE) (c : Int) : Bool := (l.all fun e => decide (0 ≤ e.2.2 ∧ e.2.2 < c ∧ -9223372036854775808 ≤ e.1 ∧ e.1 ≤ 9223372036854775807)) && nodI (l.map (·.2.2)) && nodI (l.map (·.1)) && decide (0 ≤ c) && Nat.ble l.length 1000
theorem okB_spec {l : LE} {c : Int} (h : okB l c = true) : MOK l c ∧ 0 ≤ c ∧ l.length ≤ 1000 ∧ ∀ e ∈ l, -9223372036854775808 ≤ e.1 ∧ e.1 ≤ 9223372036854775807 := by
 simp only [okB, Bool.and_eq_true, List.all_eq_true, decide_eq_true_eq, Nat.ble_eq] at h
 obtain ⟨⟨⟨⟨h1, h2⟩, h3⟩, h4⟩, h5⟩ := h
 refine ⟨⟨fun e he => ⟨(h1 e he).1, (h1 e he).2.1⟩, ?_, ?_⟩, h4, h5, fun e he => (h1 e he).2.2⟩
 · have := nodI_spec h2; rwa [List.pairwise_map] at this
 · have := nodI_spec h3; rwa [List.pairwise_map] at this
noncomputable def insI (x : Int) : List Int → List Int
 | [] => [x]
 | y :: r => bif decide (x ≤ y) then x :: y :: r else y :: insI x r
noncomputable def isrt : List Int → List Int
 | [] => []
 | x :: r => insI x (isrt r)
theorem insI_perm (x : Int) : ∀ l : List Int, (insI x l).Perm (x :: l)
 | [] => .refl _
 | y :: r => by
   unfold insI
   cases decide (x ≤ y)
   · exact ((insI_perm x r).cons y).trans (.swap _ _ _)
   · exact .refl _
theorem isrt_perm : ∀ l : List Int, (isrt l).Perm l
 | [] => .refl _
 | x :: r => (insI_perm x _).trans ((isrt_perm r).cons x)
theorem insI_sorted (x : Int) : ∀ {l : List Int}, (l.Pairwise fun x y => x ≤ y) → (insI x l).Pairwise fun x y => x ≤ y
 | [], _ => List.pairwise_singleton _ _
 | y :: r, h => by
   have h' := h
   rw [List.pairwise_cons] at h
   unfold insI
   cases hd : decide (x ≤ y)
   · refine List.pairwise_cons.2 ⟨fun z hz => ?_, insI_sorted x h.2⟩
     rcases List.mem_cons.1 ((insI_perm x r).mem_iff.1 hz) with rfl | hz
     · have := of_decide_eq_false hd; omega
     · exact h.1 z hz
   · have := of_decide_eq_true hd
     refine List.pairwise_cons.2 ⟨fun z hz => ?_, h'⟩
     rcases List.mem_cons.1 hz with rfl | hz
     · exact this
     · have := h.1 z hz; omega
theorem isrt_sorted : ∀ l : List Int, (isrt l).Pairwise fun x y => x ≤ y
 | [] => .nil
 | x :: r => insI_sorted x (isrt_sorted r)
theorem sorted_uniq : ∀ {A B : List Int}, (A.Pairwise fun x y => x ≤ y) → (B.Pairwise fun x y => x ≤ y) → A.Perm B → A = B
 | [], B, _, _, h => h.nil_eq
 | a :: A, [], _, _, h => by have := h.length_eq; simp at this
 | a :: A, b :: B, hA, hB, h => by
   rw [List.pairwise_cons] at hA hB
   have e : a = b := by
     have h1 : a ≤ b := by
       rcases List.mem_cons.1 (h.mem_iff.2 (List.mem_cons_self : b ∈ b :: B)) with e | hb
       · omega
       · exact hA.1 b hb
     have h2 : b ≤ a := by
       rcases List.mem_cons.1 (h.mem_iff.1 (List.mem_cons_self : a ∈ a :: A)) with e | ha
       · omega
       · exact hB.1 a ha
     omega
   subst e
   rw [sorted_uniq hA.2 hB.2 h.cons_inv]
theorem isrt_eq (l : List Int) : isrt l = l.mergeSort fun x y => decide (x ≤ y) := by
 have h1 := List.pairwise_mergeSort (le := fun x y : Int => decide (x ≤ y)) (fun a b c h1 h2 => by simp only [decide_eq_true_eq] at *; omega) (fun a b => by simp only [Bool.or_eq_true, decide_eq_true_eq]; omega) l
 exact sorted_uniq (isrt_sorted l) (h1.imp fun h => by simpa using h) ((isrt_perm l).trans (List.mergeSort_perm _ _).symm)
noncomputable def kSort : List D → St → (D → St → Bool) → Bool := fun ds st K => match ds with
 | [.fn (.func f) [] [.ptr j 0]] => Nat.beq f 62 && (match bnth st.box j with
   | some C => !C.fz && (match C.cells with
     | [.p (.v (.map none))] => K (.p (.sl none 0 [])) st
     | [.mref i] => (match bnth st.box i with
       | some B => B.m && Nat.beq B.e 6 && (match B.cells with
         | .p (.v (.int .i64 c)) :: r => (match leP r with
           | some l => okB l c && fNat l.length fun n => fList ((isrt (l.map (·.1))).map fun k => PD.v (.int .i64 k)) fun cs => K (.p (.sl none n cs)) st
           | none => false)
         | _ => false)
       | none => false)
     | _ => false)
   | none => false)
 | _ => false
theorem kSort_ok : ∀ ds st K, kSort ds st K = true → FnC Try.prog 44 ds st fun d st => K d st = true := fun ds st K h => by
 unfold kSort at h
 split at h
 · rename_i f j
   simp only [Bool.and_eq_true, Nat.beq_eq] at h
   obtain ⟨rfl, h⟩ := h
   split at h
   · rename_i C hC
     simp only [Bool.and_eq_true, Bool.not_eq_true'] at h
     obtain ⟨hCf, h⟩ := h
     rw [bnth_eq] at hC
     split at h
     · rename_i hCc
       exact cSortedNil hC hCf hCc h
     · rename_i i hCc
       split at h
       · rename_i B hB
         simp only [Bool.and_eq_true, Nat.beq_eq] at h
         obtain ⟨⟨hm, he⟩, h⟩ := h
         rw [bnth_eq] at hB
         split at h
         · rename_i c r hc
           split at h
           · rename_i l hl
             simp only [Bool.and_eq_true, fNat_eq, fList_eq] at h
             obtain ⟨h1, h2⟩ := h
             obtain ⟨k1, k2, k3, k4⟩ := okB_spec h1
             refine cSortedD (l := l) (c := c) hC hCf hCc hB hm he (by rw [hc, leP_spec _ (Nat.le_refl _) hl]) (by omega) k1 k2 k4 ?_
             rw [isrt_eq] at h2
             exact h2
           · cases h
         · cases h
       · cases h
     · cases h
   · cases h
 · cases h
theorem kSort_lin : ∀ ds st K, kSort ds st K = true → ∃ d st', K d st' = true ∧ ∀ K' : D → St → Bool, K' d st' = true → kSort ds st K' = true := fun ds st K h => by
 unfold kSort at h ⊢
 split at h
 · simp only [Bool.and_eq_true] at h ⊢
   obtain ⟨h0, h⟩ := h
   split at h
   · simp only [Bool.and_eq_true] at h ⊢
     obtain ⟨h1, h⟩ := h
     split at h
     · exact ⟨_, _, h, fun K' hk => ⟨h0, h1, hk⟩⟩
     · split at h
       · simp only [Bool.and_eq_true] at h ⊢
         obtain ⟨h2, h⟩ := h
         split at h
         · split at h
           · simp only [Bool.and_eq_true, fNat_eq, fList_eq] at h ⊢
             exact ⟨_, _, h.2, fun K' hk => ⟨h0, h1, h2, h.1, hk⟩⟩
           · cases h
         · cases h
       · cases h
     · cases h
   · cases h
 · cases h
end Go.Ab
