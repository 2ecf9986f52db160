/- advise.Check, its reference, and Mask. -/
import Derived.Test.YtbjehpjlpckbfaaLu
set_option linter.unusedSimpArgs false
set_option linter.unusedVariables false
set_option maxRecDepth 20000
set_option maxHeartbeats 8000000
namespace Go.Ab
open Go.Proofs
abbrev tBnd : Ty := .pair tU (.pair tI tI)
abbrev BND := Int × Int × Int
def achkT : List BND → Int
 | [] => 0
 | x :: r => if x.1 ≠ 1 ∧ x.1 ≠ 2 then 6 else if x.2.1 > x.2.2 ∨ x.2.1 < -100 ∨ x.2.2 > 100 then 1 else achkT r
def achk (l : List BND) : Int := if l.length = 0 then 3 else if l.length > 6 then 4 else achkT (l.drop 1)
theorem cAchk (nl : Option Bool) (l : List BND) (h : Short 2000 l) : PurS Try.prog 46 [injT (.sl tBnd) (nl, l)] (.p (iv (achk l))) := by
 refine PurS.of (S := []) (T := []) (U := []) (tbl := []) (n := 46) hm32 cfg .nil .nil .nil .nil 0 Try.call46 Try.func46 (ac46_ok (some (0, 0))) (by rw [Try.ntmps46]; exact Nat.le_refl _) rfl ⟨_, rfl⟩ ?_
 intro cmp ar cv tn ic ai mx an ad ml sb mn ln em gt up ap sc vw cp rp p1 p2 s1 s2 X Y hX hY r0 r1 r2 r3 r4 r5 r6 r7 r8 r9 r10 r11 r12 r13 r14 r15 r16 r17 r18 r19 r20 r21 r22 r23 r24
 generalize hg0 : achk = g0
 cbv
 have h := h.h
 have hl : ic (ln tBnd l) = l.length := by rw [r4, r12]
 have e0 : l.length = 0 → 3 = g0 l := fun h => by rw [← hg0]; unfold achk; rw [if_pos h]
 have e1 : l.length ≠ 0 → l.length > 6 → 4 = g0 l := fun h h' => by rw [← hg0]; unfold achk; rw [if_neg h, if_pos h']
 have e2 : l.length ≠ 0 → ¬ l.length > 6 → achkT (l.drop 1) = g0 l := fun h h' => by rw [← hg0]; unfold achk; rw [if_neg h, if_neg h']
 obtain ⟨N, hN⟩ : ∃ N : Int, N = l.length := ⟨_, rfl⟩
 rw [hl, ← hN]
 refine BR.eql r0 (fun hc => e0 (by omega)) fun h1 => BR.gtr r0 (fun hc => e1 (by omega) (by omega)) fun h2 => ⟨⟨by omega, by omega, by omega⟩, ?_⟩
 have e2 := e2 (by omega) (by omega)
 obtain ⟨S, hS⟩ : ∃ S, S = sc tBnd l 1 N := ⟨_, rfl⟩
 have hSd : S = l.drop 1 := by
   rw [hS, r17]; unfold scR
   rw [hN, Int.toNat_natCast, List.take_length]; rfl
 have hSl : ic (ln tBnd S) = N - 1 := by rw [r4, r12]; show ((S.length : Nat) : Int) = N - 1; rw [hSd, List.length_drop]; omega
 have hSn : (S.length : Int) = N - 1 := by rw [hSd, List.length_drop]; omega
 rw [← hSd] at e2
 obtain ⟨u, hu⟩ : ∃ u, u = N - 1 := ⟨_, rfl⟩
 have hu0 : 0 ≤ u ∧ u ≤ 2000 := by omega
 rw [← hu] at hSl hSn
 rw [← hS, hSl]
 clear hSd hS hu
 refine LOOP.ind (σ := Int) (fun i => [(14, .tl nl tBnd S), (15, .p (iv u)), (16, .p (iv i))]) (fun _ => ⟨[], []⟩) (fun i => (u - i).toNat) (fun i => 0 ≤ i ∧ i ≤ u ∧ achkT (S.drop i.toNat) = g0 l) 0 ⟨by omega, by omega, e2⟩ (.inl ⟨rfl, rfl⟩) ?_
 intro i hI X' hX
 obtain ⟨hI1, hI2, hI3⟩ := hI
 obtain ⟨⟨s, lo, hi⟩, hx⟩ : ∃ x : BND, x = gt tBnd S i := ⟨_, rfl⟩
 have hst : i < u → S.drop i.toNat = (s, lo, hi) :: S.drop (i + 1).toNat := fun h => by rw [hx, r14]; exact gtR_drop (t := tBnd) hI1 (by omega)
 have hend : ¬ i < u → 0 = g0 l := fun h => by rw [← hI3, gtR_end (by omega)]; rfl
 have q1 : p1 tU (.pair tI tI) (s, lo, hi) = s := by rw [r21]
 have q2 : p1 tI tI (p2 tU (.pair tI tI) (s, lo, hi)) = lo := by rw [r21, r22]
 have q3 : p2 tI tI (p2 tU (.pair tI tI) (s, lo, hi)) = hi := by rw [r22]
 have hadd : i < u → ar .add .i64 i 1 = i + 1 := fun h => by rw [r1]; exact wrap64 (n := i + 1) (by omega) (by omega)
 have f1 : i < u → s ≠ 1 → s ≠ 2 → 6 = g0 l := fun h h1 h2 => by rw [← hI3, hst h, achkT, if_pos ⟨h1, h2⟩]
 have f2 : i < u → (s = 1 ∨ s = 2) → (lo > hi ∨ lo < -100 ∨ hi > 100) → 1 = g0 l := fun h h1 h2 => by rw [← hI3, hst h, achkT, if_neg (by dsimp only; omega), if_pos h2]
 have f3 : i < u → (s = 1 ∨ s = 2) → ¬ (lo > hi ∨ lo < -100 ∨ hi > 100) → achkT (S.drop (i + 1).toNat) = g0 l := fun h h1 h2 => by rw [← hI3, hst h, achkT, if_neg (by dsimp only; omega), if_neg h2]
 clear hI3 hst
 cbv
 try simp only [nc_eq] at *
 rw [← hx, q1, q2, q3, hSl]
 have hin : i < u → INB i u := fun h => ⟨by omega, h⟩
 refine BR.lss r0 (fun hc => ?_) hend
 have hin := hin hc
 rw [hadd hc]
 have fin : (s = 1 ∨ s = 2) → BR (cmp .gtr lo hi) (1 = g0 l) (BR (cmp .lss lo (-100)) (1 = g0 l) (BR (cmp .gtr hi 100) (1 = g0 l) (NEXT X' [(14, .tl nl tBnd S), (15, .p (iv u)), (16, .p (iv (i + 1)))] ⟨[{ cells := [.p (uv s), .p (iv lo), .p (iv hi)], e := 74, fz := false }], []⟩))) := fun hs =>
   BR.gtr r0 (fun h => f2 hc hs (.inl h)) fun n1 => BR.lss r0 (fun h => f2 hc hs (.inr (.inl h))) fun n2 => BR.gtr r0 (fun h => f2 hc hs (.inr (.inr h))) fun n3 => NEXT.mk (hX (i + 1) _ _ ⟨by omega, by omega, f3 hc hs (by omega)⟩ (by show (u - (i + 1)).toNat < (u - i).toNat; omega) (.inr ⟨[], [], by rw [SIM_iff]; cbv; simp [nlLe_self, lstEq]⟩))
 refine ⟨hin, hin, BR.neq r0 (fun h1 => BR.neq r0 (fun h2 => f1 hc h1 h2) fun h2 => fin (by omega)) fun h1 => fin (by omega)⟩
theorem cRAchk (nl : Option Bool) (l : List BND) (h : Short 2000 l) : PurS Try.prog 47 [injT (.sl tBnd) (nl, l)] (.p (iv (achk l))) := by
 refine PurS.of (S := []) (T := []) (U := []) (tbl := []) (n := 57) hm32 cfg .nil .nil .nil .nil 0 Try.call47 Try.func47 (ac47_ok (some (0, 0))) (by rw [Try.ntmps47]; exact Nat.le_refl _) rfl ⟨_, rfl⟩ ?_
 intro cmp ar cv tn ic ai mx an ad ml sb mn ln em gt up ap sc vw cp rp p1 p2 s1 s2 X Y hX hY r0 r1 r2 r3 r4 r5 r6 r7 r8 r9 r10 r11 r12 r13 r14 r15 r16 r17 r18 r19 r20 r21 r22 r23 r24
 generalize hg0 : achk = g0
 cbv
 have h := h.h
 have hl : ic (ln tBnd l) = l.length := by rw [r4, r12]
 have e0 : l.length = 0 → 3 = g0 l := fun h => by rw [← hg0]; unfold achk; rw [if_pos h]
 have e1 : l.length ≠ 0 → l.length > 6 → 4 = g0 l := fun h h' => by rw [← hg0]; unfold achk; rw [if_neg h, if_pos h']
 have e2 : l.length ≠ 0 → ¬ l.length > 6 → achkT (l.drop 1) = g0 l := fun h h' => by rw [← hg0]; unfold achk; rw [if_neg h, if_neg h']
 obtain ⟨N, hN⟩ : ∃ N : Int, N = l.length := ⟨_, rfl⟩
 rw [hl, ← hN]
 refine BR.eql r0 (fun hc => e0 (by omega)) fun h1 => BR.gtr r0 (fun hc => e1 (by omega) (by omega)) fun h2 => ?_
 have e2 := e2 (by omega) (by omega)
 refine LOOP.ind (σ := Int) (fun i => [(0, .tl nl tBnd l), (3, .p (iv i))]) (fun _ => ⟨[], []⟩) (fun i => (N - i).toNat) (fun i => 1 ≤ i ∧ i ≤ N ∧ achkT (l.drop i.toNat) = g0 l) 1 ⟨by omega, by omega, e2⟩ (.inl ⟨rfl, rfl⟩) ?_
 intro i hI X' hX
 obtain ⟨hI1, hI2, hI3⟩ := hI
 obtain ⟨⟨s, lo, hi⟩, hx⟩ : ∃ x : BND, x = gt tBnd l i := ⟨_, rfl⟩
 have hst : i < N → l.drop i.toNat = (s, lo, hi) :: l.drop (i + 1).toNat := fun h => by rw [hx, r14]; exact gtR_drop (t := tBnd) (by omega) (by omega)
 have hend : ¬ i < N → 0 = g0 l := fun h => by rw [← hI3, gtR_end (by omega)]; rfl
 have q1 : p1 tU (.pair tI tI) (s, lo, hi) = s := by rw [r21]
 have q2 : p1 tI tI (p2 tU (.pair tI tI) (s, lo, hi)) = lo := by rw [r21, r22]
 have q3 : p2 tI tI (p2 tU (.pair tI tI) (s, lo, hi)) = hi := by rw [r22]
 have hadd : i < N → ar .add .i64 i 1 = i + 1 := fun h => by rw [r1]; exact wrap64 (n := i + 1) (by omega) (by omega)
 have f1 : i < N → s ≠ 1 → s ≠ 2 → 6 = g0 l := fun h h1 h2 => by rw [← hI3, hst h, achkT, if_pos ⟨h1, h2⟩]
 have f2 : i < N → (s = 1 ∨ s = 2) → (lo > hi ∨ lo < -100 ∨ hi > 100) → 1 = g0 l := fun h h1 h2 => by rw [← hI3, hst h, achkT, if_neg (by dsimp only; omega), if_pos h2]
 have f3 : i < N → (s = 1 ∨ s = 2) → ¬ (lo > hi ∨ lo < -100 ∨ hi > 100) → achkT (l.drop (i + 1).toNat) = g0 l := fun h h1 h2 => by rw [← hI3, hst h, achkT, if_neg (by dsimp only; omega), if_neg h2]
 clear hI3 hst
 cbv
 try simp only [nc_eq] at *
 rw [← hx, q1, q2, q3, hl, ← hN]
 have hin : i < N → INB i N := fun h => ⟨by omega, h⟩
 refine BR.lss r0 (fun hc => ?_) hend
 have hin := hin hc
 rw [hadd hc]
 have fin : (s = 1 ∨ s = 2) → BR (cmp .gtr lo hi) (1 = g0 l) (INB i N ∧ INB i N ∧ BR (cmp .lss lo (-100)) (1 = g0 l) (INB i N ∧ INB i N ∧ BR (cmp .gtr hi 100) (1 = g0 l) (NEXT X' [(0, .tl nl tBnd l), (3, .p (iv (i + 1)))] ⟨[], []⟩))) := fun hs =>
   BR.gtr r0 (fun h => f2 hc hs (.inl h)) fun n1 => ⟨hin, hin, BR.lss r0 (fun h => f2 hc hs (.inr (.inl h))) fun n2 => ⟨hin, hin, BR.gtr r0 (fun h => f2 hc hs (.inr (.inr h))) fun n3 => NEXT.mk (hX (i + 1) _ _ ⟨by omega, by omega, f3 hc hs (by omega)⟩ (by show (N - (i + 1)).toNat < (N - i).toNat; omega) (.inl ⟨rfl, rfl⟩))⟩⟩
 refine ⟨hin, hin, BR.neq r0 (fun h1 => ⟨hin, hin, BR.neq r0 (fun h2 => f1 hc h1 h2) fun h2 => ⟨hin, hin, hin, hin, fin (by omega)⟩⟩) fun h1 => ⟨hin, hin, hin, hin, fin (by omega)⟩⟩
def heldP (sn : List Int) (l : LE) (s : Int) : Bool := l.any fun e => sn.contains e.2.2 && decide (e.2.1.2.1 = s)
def heldB (l : LE) (s : Int) : Bool := l.any fun e => decide (e.2.1.2.1 = s)
def mskL (l : LE) : List BND → List Bool
 | [] => []
 | _ :: r => true :: r.map fun x => !heldB l x.1
theorem heldP_all {sn : List Int} {l : LE} (h : ∀ e ∈ l, e.2.2 ∈ sn) (s : Int) : heldP sn l s = heldB l s := by
 unfold heldP heldB
 rw [Bool.eq_iff_iff, List.any_eq_true, List.any_eq_true]
 constructor
 · rintro ⟨e, he, h2⟩
   simp only [Bool.and_eq_true] at h2
   exact ⟨e, he, h2.2⟩
 · rintro ⟨e, he, h2⟩
   exact ⟨e, he, by simp only [Bool.and_eq_true]; exact ⟨by simpa using h e he, h2⟩⟩
theorem heldP_step {sn : List Int} {l : LE} {c k : Int} {v : LKV} {b : Int} (hok : MOK l c) (h : (k, v, b) ∈ l) (s : Int) : heldP (sn ++ [b]) l s = (heldP sn l s || decide (v.2.1 = s)) := by
 unfold heldP
 rw [Bool.eq_iff_iff, Bool.or_eq_true, List.any_eq_true, List.any_eq_true]
 constructor
 · rintro ⟨e, he, h2⟩
   simp only [Bool.and_eq_true] at h2
   obtain ⟨h3, h4⟩ := h2
   have h3 : e.2.2 ∈ sn ++ [b] := by simpa using h3
   rcases List.mem_append.1 h3 with h3 | h3
   · exact .inl ⟨e, he, by simp only [Bool.and_eq_true]; exact ⟨by simpa using h3, h4⟩⟩
   · obtain rfl := hok.uniqB he h (by simpa using h3)
     exact .inr h4
 · rintro (⟨e, he, h2⟩ | h2)
   · simp only [Bool.and_eq_true] at h2
     have h3 : e.2.2 ∈ sn := by simpa using h2.1
     exact ⟨e, he, by simp only [Bool.and_eq_true]; exact ⟨by simp [h3], h2.2⟩⟩
   · exact ⟨_, h, by simp only [Bool.and_eq_true]; exact ⟨by simp, h2⟩⟩
theorem achkT_ok : ∀ {l : List BND}, achkT l = 0 → ∀ x ∈ l, x.1 = 1 ∨ x.1 = 2
 | [], _, x, hx => by cases hx
 | y :: r, h, x, hx => by
   unfold achkT at h
   split at h
   · cases h
   · rename_i h1
     split at h
     · cases h
     · rcases List.mem_cons.1 hx with rfl | hx
       · omega
       · exact achkT_ok h x hx
theorem achk_ok {l : List BND} (h : achk l = 0) : 1 ≤ l.length ∧ l.length ≤ 6 ∧ ∀ i : Int, 0 < i → i < l.length → (gtR tBnd l i).1 = (1 : Int) ∨ (gtR tBnd l i).1 = (2 : Int) := by
 unfold achk at h
 split at h
 · cases h
 · split at h
   · cases h
   · refine ⟨by omega, by omega, fun i h0 h1 => achkT_ok h _ ?_⟩
     have hi : i.toNat < l.length := by omega
     have : gtR tBnd l i = (l.drop 1)[i.toNat - 1]'(by rw [List.length_drop]; omega) := by
       rw [List.getElem_drop]
       simp only [gtR, List.getD, show 1 + (i.toNat - 1) = i.toNat by omega, List.getElem?_eq_getElem hi, Option.getD_some]
     rw [this]
     exact List.getElem_mem _
theorem mskL_len (l : LE) (B : List BND) : (mskL l B).length = B.length := by cases B <;> simp [mskL]
theorem mskL_zero (l : LE) {B : List BND} (h : B ≠ []) : (mskL l B)[0]? = some true := by
 cases B with
 | nil => exact absurd rfl h
 | cons x r => rfl
theorem mskL_pos (l : LE) {B : List BND} {i : Int} (h0 : 0 < i) (h1 : i < B.length) : (mskL l B)[i.toNat]? = some (!heldB l (gtR tBnd B i).1) := by
 cases B with
 | nil => simp at h1; omega
 | cons x r =>
   obtain ⟨m, hm⟩ : ∃ m, i.toNat = m + 1 := ⟨i.toNat - 1, by omega⟩
   have hl : m < r.length := by simp at h1; omega
   rw [mskL, hm, List.getElem?_cons_succ, List.getElem?_map, List.getElem?_eq_getElem hl]
   simp only [Option.map_some, gtR, List.getD]
   rw [hm, List.getElem?_cons_succ, List.getElem?_eq_getElem hl]
   rfl
theorem cMask (k tw c : Int) (n : Nat) (l : LE) (nb : Option Bool) (B : List BND) (N : Nat) (M : List Bool) (hT : TAB c n l) (h : Short 2000 B) (hN : N = B.length) (hE : achk B = 0) (hM : M = mskL l B) : FnS Try.prog 19 ([.ptr 0 0, injT (.sl tBnd) (nb, B)]) (tabS k tw c n l ) fun x_ s_ => x_ = (.tup [.ms 2 0 1 none N, .p (iv 0)]) ∧ s_ = (⟨(tabS k tw c n l).box ++ [{ cells := [.arr N .bool M], e := 4, fz := false, ap := true }], []⟩) := by
 refine FnS.of (S := [(46, _)]) (T := []) (U := []) (tbl := []) (n := 63) hm32 cfg (.cons (spT1.ok (a := (.sl (.pair (.int .u8) (.pair (.int .i64) (.int .i64))))) fun x0 h => cAchk x0.1 x0.2 h) .nil) .nil .nil .nil 0 Try.call19 Try.func19 (ac19_ok (some (3, 0))) (by rw [Try.ntmps19]; exact Nat.le_refl _) rfl _ _ _ (by rfl) ?_
 intro cmp ar cv tn ic ai mx an ad ml sb mn ln em gt up ap sc vw cp rp p1 p2 s1 s2 X Y hX hY r0 r1 r2 r3 r4 r5 r6 r7 r8 r9 r10 r11 r12 r13 r14 r15 r16 r17 r18 r19 r20 r21 r22 r23 r24
 generalize hg0 : achk = g0
 cbv
 refine ⟨h, BR.neq r0 (fun hc => absurd (by rw [← hg0]; exact hE) hc) fun _ => ⟨⟨hT.c0⟩, ?_⟩⟩
 refine LOOP.ind (σ := List Int × Nat × Bool × Bool × Bool) (fun (sn, ns, h0, h1, h2) => [(1, .tl nb tBnd B), (7, .ptr 2 0), (31, .ptr 3 0)])
   (fun (sn, ns, h0, h1, h2) => ⟨(tabS k tw c n l).box ++ [{ cells := [.p (.v (.bool h0)), .p (.v (.bool h1)), .p (.v (.bool h2))], e := 89, fz := false }, { cells := [.mref 1, .p (iv c), .p (iv c), .arr ns tI sn], e := 0, fz := true, m := true }], []⟩) (fun (sn, ns, h0, h1, h2) => leftN sn l)
   (fun (sn, ns, h0, h1, h2) => sn.length = ns ∧ h0 = heldP sn l 0 ∧ h1 = heldP sn l 1 ∧ h2 = heldP sn l 2 ∧ ∀ b ∈ sn, 0 ≤ b) ([], 0, false, false, false) ⟨rfl, by simp [heldP], by simp [heldP], by simp [heldP], fun b hb => by cases hb⟩ (.inl ⟨rfl, rfl⟩) ?_
 intro ⟨sn, ns, h0, h1, h2⟩ hI X' hX
 dsimp only at hI
 obtain ⟨hI1, hI2, hI3, hI4, hI5⟩ := hI
 cbv
 refine MNX.mk hT.nl hI1 ⟨rfl, hT.c0, by omega⟩ (fun e he => hT.ok.b e he) hI5 (fun hz => ?_) fun k' v b hmem hnb ns' sn' hsn hns => ?_
 · obtain ⟨hB1, hB6, hBs⟩ := achk_ok hE
   obtain ⟨u, hu⟩ : ∃ u : Int, u = N := ⟨_, rfl⟩
   have hl : ic (ln tBnd B) = u := by rw [r4, r12, hu, hN]
   have htn : tn u = N := by rw [r3, hu]; rfl
   have hicN : ic N = u := by rw [r4, hu]
   have hrp : rp .bool N false = List.replicate N false := by rw [r20]
   rw [hl, htn, hrp]
   rw [heldP_all hz] at hI2 hI3 hI4
   have hMl : M.length = N := by rw [hM, mskL_len, hN]
   have hM0 : M[0]? = some true := by rw [hM]; exact mskL_zero l (fun e => by rw [e] at hB1; simp at hB1)
   have hMi : ∀ i : Int, 0 < i → i < u → M[i.toNat]? = some (!heldB l (gtR tBnd B i).1) := fun i h0 h1 => by rw [hM]; exact mskL_pos l h0 (by omega)
   have hBs : ∀ i : Int, 0 < i → i < u → (gtR tBnd B i).1 = (1 : Int) ∨ (gtR tBnd B i).1 = (2 : Int) := fun i h0 h1 => hBs i h0 (by omega)
   refine ⟨⟨by omega, by first | omega | (simp only [maxLen]; omega), by first | omega | (simp only [maxLen]; omega), by first | omega | (simp only [maxLen]; omega)⟩, ?_⟩
   clear hX hM hz hE
   refine LOOP.ind (σ := List Bool × Int) (fun (L, i) => [(7, .ptr 2 0), (10, .ms 4 0 1 none N), (42, .tl nb tBnd B), (43, .p (iv u)), (44, .p (iv i))])
     (fun (L, i) => ⟨(tabS k tw c n l).box ++ [{ cells := [.p (.v (.bool h0)), .p (.v (.bool h1)), .p (.v (.bool h2))], e := 89, fz := false }, { cells := [.mref 1, .p (iv c), .p (iv c), .arr ns tI sn], e := 0, fz := true, m := true }, { cells := [.arr N .bool L], e := 4, fz := false, ap := true }], []⟩) (fun (L, i) => (u - i).toNat) (fun (L, i) => (0 ≤ i ∧ i ≤ u) ∧ L.length = N ∧ ∀ j : Nat, j < i → L[j]? = M[j]?) (List.replicate N false, 0) ⟨⟨by omega, by omega⟩, by simp, fun j hj => absurd hj (by omega)⟩ (.inl ⟨rfl, rfl⟩) ?_
   intro ⟨L, i⟩ hI X2 hX2
   dsimp only at hI
   obtain ⟨⟨hi1, hi2⟩, hi3, hi4⟩ := hI
   obtain ⟨⟨s, lo, hi⟩, hx⟩ : ∃ x : BND, x = gt tBnd B i := ⟨_, rfl⟩
   have q1 : p1 tU (.pair tI tI) (s, lo, hi) = s := by rw [r21]
   have q2 : p1 tI tI (p2 tU (.pair tI tI) (s, lo, hi)) = lo := by rw [r21, r22]
   have q3 : p2 tI tI (p2 tU (.pair tI tI) (s, lo, hi)) = hi := by rw [r22]
   have hadd : i < u → ar .add .i64 i 1 = i + 1 := fun h => by rw [r1]; exact wrap64 (n := i + 1) (by omega) (by omega)
   have hs1 : i ≠ 0 → i < u → (s = 1 ∨ s = 2) ∧ M[i.toNat]? = some (!heldB l s) := fun h0 h1 => by
     have e : gtR tBnd B i = (s, lo, hi) := by rw [hx, r14]
     have g1 := hBs i (by omega) h1
     have g2 := hMi i (by omega) h1
     rw [e] at g1 g2
     exact ⟨g1, g2⟩
   have hs0 : i = 0 → M[i.toNat]? = some true := fun h0 => by rw [h0]; exact hM0
   have hend : ¬ i < u → L = M := fun h => List.ext_getElem? fun j => by
     by_cases hj : j < N
     · exact hi4 j (by omega)
     · rw [List.getElem?_eq_none (by omega), List.getElem?_eq_none (by omega)]
   have hup : ∀ v, i < u → M[i.toNat]? = some v → (up .bool N L i v).length = N ∧ ∀ j : Nat, j < i + 1 → (up .bool N L i v)[j]? = M[j]? := fun v h hv => by
     rw [r15]
     unfold upR
     rw [Ty.norm_eq .bool hi3]
     refine ⟨by rw [List.length_set]; exact hi3, fun j hj => ?_⟩
     rw [List.getElem?_set]
     split
     · rename_i e
       rw [if_pos (by omega), ← e, hv]
     · exact hi4 j (by omega)
   clear hi4 hM0 hMi hBs
   cbv
   try simp only [nc_eq] at *
   rw [← hx, hl, q1, q2, q3, hicN]
   refine BR.lss r0 (fun hc => ?_) (fun hc => ?_)
   · rw [hadd hc]
     have hin : INB i u := ⟨hi1, hc⟩
     have fin : ∀ v, M[i.toNat]? = some v → INB i u ∧ INB i u ∧ NEXT X2 [(7, .ptr 2 0), (10, .ms 4 0 1 none N), (42, .tl nb tBnd B), (43, .p (iv u)), (44, .p (iv (i + 1)))] ⟨[{ cells := [.p (iv k), .p (iv tw), .mref 1], e := 78, fz := false }, { cells := [.p (iv c), .arr n tLE l], e := 6, fz := true, m := true }, { cells := [.p (.v (.bool h0)), .p (.v (.bool h1)), .p (.v (.bool h2))], e := 89, fz := false }, { cells := [.mref 1, .p (iv c), .p (iv c), .arr ns tI sn], e := 0, fz := true, m := true }, { cells := [.arr N .bool (up .bool N L i v)], e := 4, fz := false, ap := true }, { cells := [.p (uv s), .p (iv lo), .p (iv hi)], e := 74, fz := false }], []⟩ := fun v hv =>
       ⟨hin, hin, NEXT.mk (hX2 (up .bool N L i v, i + 1) _ _ ⟨⟨by show 0 ≤ i + 1; omega, by show i + 1 ≤ u; omega⟩, hup v hc hv⟩ (by show (u - (i + 1)).toNat < (u - i).toNat; omega) (.inr ⟨[some 0, some 1, some 2, some 3, some 4], [], by rw [SIM_iff]; cbv; simp [nlLe_self, lstEq]⟩))⟩
     refine ⟨hin, hin, BR.eql r0 (fun h => fin _ (hs0 h)) fun h => ?_⟩
     obtain ⟨g1, g2⟩ := hs1 h hc
     refine ⟨⟨by omega, by rw [r4]; show s < 3; omega⟩, ⟨.mk fun e => absurd e (by omega), .mk fun e => fin _ ?_⟩, .mk fun e => fin _ ?_⟩
     · rw [g2, e]; show some (!heldB l 1) = _; rw [← hI3]; rfl
     · rw [g2, e]; show some (!heldB l 2) = _; rw [← hI4]; rfl
   · obtain rfl := hend hc
     refine RET.mk ⟨[some 0, some 1, some 4], [], ?_⟩
     rw [SIM_iff]; cbv
 · obtain ⟨v1, v2, v3, v4⟩ : Int × Int × Int × Int := v
   cbv
   have hp' : ∀ x ∈ sn', 0 ≤ x := fun x hx => by
     rw [hsn] at hx
     rcases List.mem_append.1 hx with hx | hx
     · exact hI5 x hx
     · obtain rfl := List.mem_singleton.1 hx; exact (hT.ok.b _ hmem).1
   refine MEN.mk hT.nl hns ⟨rfl, hT.c0⟩ (fun e he => (hT.ok.b e he).1) hp' ⟨k', (v1, v2, v3, v4), b, by rw [hsn]; simp, find_birth hT.ok hmem, ?_⟩
   have hv2 : 0 ≤ v2 ∧ v2 ≤ 2 := (hT.v _ hmem).2.2.2
   have h4 : p1 tU (.pair tI tI) (p2 tI (.pair tU (.pair tI tI)) (v1, v2, v3, v4)) = v2 := by rw [r21, r22]
   have hq : ∀ t, heldP sn' l t = (heldP sn l t || decide (v2 = t)) := fun t => by rw [hsn]; exact heldP_step hT.ok hmem t
   have hlt : leftN sn' l < leftN sn l := by rw [hsn]; exact leftN_lt hmem hnb
   have hdf : ∀ x y : Int, x ≠ y → decide (x = y) = false := fun x y h => decide_eq_false h
   have g1 : p1 tI (.pair tU (.pair tI tI)) (v1, v2, v3, v4) = v1 := by rw [r21]
   have g3 : p1 tI tI (p2 tU (.pair tI tI) (p2 tI (.pair tU (.pair tI tI)) (v1, v2, v3, v4))) = v3 := by rw [r21, r22]
   have g4 : p2 tI tI (p2 tU (.pair tI tI) (p2 tI (.pair tU (.pair tI tI)) (v1, v2, v3, v4))) = v4 := by rw [r22]
   cbv
   rw [h4, g1, g3, g4]
   have fin : ∀ x0 x1 x2, x0 = heldP sn' l 0 → x1 = heldP sn' l 1 → x2 = heldP sn' l 2 → NEXT X' [(1, .tl nb tBnd B), (7, .ptr 2 0), (31, .ptr 3 0)] ⟨[{ cells := [.p (iv k), .p (iv tw), .mref 1], e := 78, fz := false }, { cells := [.p (iv c), .arr n tLE l], e := 6, fz := true, m := true }, { cells := [.p (.v (.bool x0)), .p (.v (.bool x1)), .p (.v (.bool x2))], e := 89, fz := false }, { cells := [.mref 1, .p (iv c), .p (iv c), .arr ns' tI sn'], e := 0, fz := true, m := true }, { cells := [.p (iv v1), .p (uv v2), .p (iv v3), .p (iv v4)], e := 50, fz := false }], []⟩ := fun x0 x1 x2 e0 e1 e2 =>
     NEXT.mk (hX (sn', ns', x0, x1, x2) _ _ ⟨hns, e0, e1, e2, hp'⟩ hlt (.inr ⟨[some 0, some 1, some 2, some 3], [], by rw [SIM_iff]; cbv; simp [nlLe_self]⟩))
   refine ⟨⟨hv2.1, by rw [r4]; show v2 < 3; omega⟩, ⟨.mk fun e => fin _ _ _ ?_ ?_ ?_, .mk fun e => fin _ _ _ ?_ ?_ ?_⟩, .mk fun e => fin _ _ _ ?_ ?_ ?_⟩ <;> (replace e : v2 = _ := e; rw [hq, e]; first | (rw [← hI2]; simp; done) | (rw [← hI3]; simp; done) | (rw [← hI4]; simp; done) | simp)
theorem cMaskX (k tw c : Int) (n : Nat) (l : LE) (nb : Option Bool) (B : List BND) (e : Int) (h : Short 2000 B) (hE : e = achk B) (h0 : e ≠ 0) : FnS Try.prog 19 ([.ptr 0 0, injT (.sl tBnd) (nb, B)]) (tabS k tw c n l ) fun x_ s_ => x_ = (.tup [.p (.sl (some true) 0 []), .p (iv e)]) ∧ s_ = (⟨(tabS k tw c n l).box, []⟩) := by
 refine FnS.of (S := [(46, _)]) (T := []) (U := []) (tbl := []) (n := 63) hm32 cfg (.cons (spT1.ok (a := (.sl (.pair (.int .u8) (.pair (.int .i64) (.int .i64))))) fun x0 h => cAchk x0.1 x0.2 h) .nil) .nil .nil .nil 0 Try.call19 Try.func19 (ac19_ok (some (3, 0))) (by rw [Try.ntmps19]; exact Nat.le_refl _) rfl _ _ _ (by rfl) ?_
 intro cmp ar cv tn ic ai mx an ad ml sb mn ln em gt up ap sc vw cp rp p1 p2 s1 s2 X Y hX hY r0 r1 r2 r3 r4 r5 r6 r7 r8 r9 r10 r11 r12 r13 r14 r15 r16 r17 r18 r19 r20 r21 r22 r23 r24
 generalize hg0 : achk = g0
 cbv
 have hE : e = g0 B := by rw [hE, ← hg0]
 refine ⟨h, BR.neq r0 (fun hc => ?_) fun hc => absurd hE.symm (fun e1 => hc (by show g0 B ≠ 0; omega))⟩
 refine RET.mk ⟨[some 0, some 1], [], ?_⟩
 rw [SIM_iff]; cbv
 simp [lstEq, nlLe_self, hE]
structure MASKK (c : Int) (n : Nat) (l : LE) (B : List BND) (A : List Bool → Nat → Prop) (A' : Int → Prop) : Prop where
 tab : TAB c n l
 sh : B.length ≤ 2000
 t : ∀ M N, achk B = 0 → M = mskL l B → N = B.length → A M N
 f : ∀ e, e = achk B → e ≠ 0 → A' e
def spMask : OpsS → CallS := fun _ _ ds st K => match ds with
 | [.ptr a 0, x] => (match getT (.sl tBnd) x with
   | some B => tabAt a st fun b k w c n l => MASKK c n l B.2
       (fun M N => frS [a, b] [] [.ptr 0 0, injT (.sl tBnd) (B.1, B.2)] (tabS k w c n l) (.tup [.ms 2 0 1 none N, .p (iv 0)]) ⟨(tabS k w c n l).box ++ [{ cells := [.arr N .bool M], e := 4, fz := false, ap := true }], []⟩ ds st K)
       (fun e => frS [a, b] [] [.ptr 0 0, injT (.sl tBnd) (B.1, B.2)] (tabS k w c n l) (.tup [.p (.sl (some true) 0 []), .p (iv e)]) ⟨(tabS k w c n l).box, []⟩ ds st K)
   | none => False)
 | _ => False
theorem tMask : ∀ ds st K, spMask OpsS.real 19 ds st K → FnS Try.prog 19 ds st K := fun ds st K h => by
 unfold spMask at h
 split at h
 · split at h
   · rename_i B _
     obtain ⟨b, k, w, c, n, l, h⟩ := tabAt_some h
     obtain ⟨nb, B⟩ := B
     obtain ⟨h1, h2, h3, h4⟩ := h
     by_cases h0 : achk B = 0
     · exact frS_ok (cMask k w c n l nb B _ _ h1 ⟨h2⟩ rfl h0 rfl) (h3 _ _ h0 rfl rfl)
     · exact frS_ok (cMaskX k w c n l nb B _ ⟨h2⟩ rfl h0) (h4 _ rfl h0)
   · exact h.elim
 · exact h.elim
end Go.Ab
