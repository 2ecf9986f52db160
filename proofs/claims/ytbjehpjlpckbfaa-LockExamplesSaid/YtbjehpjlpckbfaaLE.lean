/- What closed runs know of maps.DeleteFunc. -/
import Derived.Test.YtbjehpjlpckbfaaLD
set_option linter.unusedSimpArgs false
set_option linter.unusedVariables false
set_option maxRecDepth 20000
set_option maxHeartbeats 8000000
namespace Go.Ab
open Go.Proofs Go.RowKit
theorem LeD.flat {f h : Nat → Option Nat} {d : D} (hd : flatD d = true) : LeD f h d d := fun _ _ _ _ hr => hr.flat hd
theorem LeD.ofAll {f h : Nat → Option Nat} {ds : List D} (hd : ds.all flatD = true) {k : Nat} (hk : k < ds.length) : LeD f h (ds.getD k default) (ds.getD k default) := LeD.flat (by
 rw [List.all_eq_true] at hd
 rw [List.getD, List.getElem?_eq_getElem hk]
 exact hd _ (List.getElem_mem _))
theorem FnC.frame2 {P : Program} {f g : FuncId} {st : St} {a b : Nat} {A A' B : Box} (hab : a ≠ b) (hA : st.box[a]? = some A) (hB : st.box[b]? = some B) (hAf : A.fz = A.m) (hBf : B.fz = B.m)
   (fA : A.cells.all flatD = true) (fB : B.cells.all flatD = true) (fA' : A'.cells.all flatD = true) (hA' : A'.fz = A.fz ∧ A'.m = A.m ∧ A'.e = A.e ∧ A'.ap = A.ap)
   (h : FnC P f [.mref 0, .fn (.func g) [] [.ptr 1 0]] ⟨[A, B], []⟩ fun d s => d = .p (.tup []) ∧ s = ⟨[A', B], []⟩) {K : D → St → Prop} (hK : K (.p (.tup [])) { st with box := st.box.set a A' }) :
   FnC P f [.mref a, .fn (.func g) [] [.ptr b 0]] st K := by
 let f1 : Nat → Option Nat := fun i => if i = 0 then some a else if i = 1 then some b else none
 let f2 : Nat → Option Nat := fun j => if j = a then some 0 else if j = b then some 1 else none
 have h10 : f1 0 = some a := rfl
 have h11 : f1 1 = some b := rfl
 have hcase : ∀ {i j}, f1 i = some j → (i = 0 ∧ j = a) ∨ (i = 1 ∧ j = b) := fun {i j} h => by
   simp only [f1] at h
   split at h
   · exact .inl ⟨by assumption, (Option.some.inj h).symm⟩
   · split at h
     · exact .inr ⟨by assumption, (Option.some.inj h).symm⟩
     · cases h
 have hcase2 : ∀ {j i}, f2 j = some i → (i = 0 ∧ j = a) ∨ (i = 1 ∧ j = b) := fun {j i} h => by
   simp only [f2] at h
   split at h
   · exact .inl ⟨(Option.some.inj h).symm, by assumption⟩
   · split at h
     · exact .inr ⟨(Option.some.inj h).symm, by assumption⟩
     · cases h
 have f2a : f2 a = some 0 := by simp [f2]
 have f2b : f2 b = some 1 := by simp [f2, Ne.symm hab]
 have hal : a < st.box.length := (List.getElem?_eq_some_iff.1 hA).1
 refine FnC.frame (f1 := f1) (h1 := fun _ => none) (dsL := [.mref 0, .fn (.func g) [] [.ptr 1 0]]) (stL := ⟨[A, B], []⟩) rfl ⟨Nat.zero_le _, Nat.zero_le _, fun j i hj => ?_, fun j j' i h1 h2 => ?_, fun j hj => absurd hj (Nat.not_lt_zero _), fun _ _ h => (by cases h), fun _ _ _ h => (by cases h), fun j hj => absurd hj (Nat.not_lt_zero _), fun t E E' u _ hr => .bad u⟩ (fun i hi => ?_) h ?_
 · rcases hcase hj with ⟨rfl, rfl⟩ | ⟨rfl, rfl⟩
   · exact ⟨A, A, hA, rfl, hAf, hAf, ⟨rfl, fun _ => rfl⟩, rfl, rfl, Nat.le_refl _, fun k hk => LeD.ofAll fA hk⟩
   · exact ⟨B, B, hB, rfl, hBf, hBf, ⟨rfl, fun _ => rfl⟩, rfl, rfl, Nat.le_refl _, fun k hk => LeD.ofAll fB hk⟩
 · rcases hcase h1 with ⟨e1, e2⟩ | ⟨e1, e2⟩ <;> rcases hcase h2 with ⟨e3, e4⟩ | ⟨e3, e4⟩ <;> omega
 · have hi : i < 2 := hi
   match i, hi with
   | 0, _ =>
     intro E E' u hn hr
     obtain ⟨x, hx, rfl⟩ := hr.mref_inv
     exact .mref 0 x (hn.b 0 a x h10 hx).1
   | 1, _ =>
     intro E E' u hn hr
     obtain ⟨us, ws, rfl, h1, h2, h3, h4⟩ := hr.fn_inv
     refine .fn _ _ _ us ws h1 h2 (fun k hk => absurd hk (Nat.not_lt_zero _)) fun k hk => ?_
     have hk1 : k < 1 := hk
     obtain rfl : k = 0 := by omega
     obtain ⟨x, hx, e⟩ := (h4 0 (by simp)).ptr_inv
     rw [e]
     exact .ptr 1 0 x (hn.b 1 b x h11 hx).1
 · rintro d' stL' ⟨rfl, rfl⟩
   refine ⟨f2, fun _ => none, .p (.tup []), { st with box := st.box.set a A' }, ⟨fun i j h => ?_, fun i j _ h => ?_, fun j j' i h1 h2 => ?_, fun j i B0 hj hB0 => ?_, fun j hj hn => ?_, fun _ _ h => (by cases h), fun _ _ _ h => (by cases h), fun _ _ _ h => (by cases h), fun _ _ _ h => (by cases h), fun _ _ _ => rfl⟩, fun _ _ _ _ hr => hr.flat rfl, hK⟩
   · rcases hcase h with ⟨rfl, rfl⟩ | ⟨rfl, rfl⟩
     · exact f2a
     · exact f2b
   · rcases hcase2 h with ⟨rfl, rfl⟩ | ⟨rfl, rfl⟩
     · exact h10
     · exact h11
   · rcases hcase2 h1 with ⟨e1, e2⟩ | ⟨e1, e2⟩ <;> rcases hcase2 h2 with ⟨e3, e4⟩ | ⟨e3, e4⟩ <;> omega
   · rcases hcase2 hj with ⟨rfl, rfl⟩ | ⟨rfl, rfl⟩
     · have hB0 : A' = B0 := by simpa using hB0
       subst hB0
       exact ⟨A', by rw [List.getElem?_set_self hal], ⟨rfl, rfl⟩, fun _ => ⟨fun _ => rfl, rfl, rfl, Nat.le_refl _, fun k hk => LeD.ofAll fA' hk⟩⟩
     · have hB0 : B = B0 := by simpa using hB0
       subst hB0
       exact ⟨B, by rw [List.getElem?_set_ne hab]; exact hB, ⟨rfl, rfl⟩, fun _ => ⟨fun _ => rfl, rfl, rfl, Nat.le_refl _, fun k hk => LeD.ofAll fB hk⟩⟩
   · show (st.box.set a A')[j]? = st.box[j]?
     rw [List.getElem?_set_ne]
     intro e
     subst e
     rw [f2a] at hn; cases hn
theorem rowsLE_flat (l : LE) : ((tLE.rows l).map D.p).all flatD = true := by
 rw [List.all_map]
 have : ∀ l : LE, (tLE.rows l).all flatP = true := fun l => by
   induction l with
   | nil => rfl
   | cons x r ih =>
     simp only [Ty.rows, List.flatMap_cons, List.all_append, Bool.and_eq_true] at ih ⊢
     exact ⟨rfl, ih⟩
 have := this l
 rw [List.all_eq_true] at this ⊢
 exact fun x hx => this x hx
noncomputable def kDel : List D → St → (D → St → Bool) → Bool := fun ds st K => match ds with
 | [.mref a, .fn (.func f) [] [.ptr b 0]] => Nat.beq f 69 && !Nat.beq a b && (match bnth st.box a, bnth st.box b with
   | some A, some B => A.m && A.fz && !A.ap && Nat.beq A.e 6 && !B.m && !B.fz && !B.ap && Nat.beq B.e 3 && (match A.cells, B.cells with
     | .p (.v (.int .i64 c)) :: r, [.p (.v (.int .i64 now))] => (match leP r with
       | some l => okB l c && fList ((tLE.rows (liveL now l)).map .p) fun cs => fList (st.box.set a { cells := .p (.v (.int .i64 c)) :: cs, e := 6, fz := true, m := true }) fun bs => K (.p (.tup [])) { st with box := bs }
       | none => false)
     | _, _ => false)
   | _, _ => false)
 | _ => false
theorem cDelD {st : St} {a b : Nat} {A B : Box} {c now : Int} {l : LE} (hab : a ≠ b) (hA : st.box[a]? = some A) (hB : st.box[b]? = some B) (eA : A = { cells := .p (iv c) :: (tLE.rows l).map .p, e := 6, fz := true, m := true }) (eB : B = { cells := [.p (iv now)], e := 3, fz := false })
   (hok : MOK l c) (hc0 : 0 ≤ c) (hl : l.length ≤ 1000) {K : D → St → Prop} (hK : K (.p (.tup [])) { st with box := st.box.set a { cells := .p (iv c) :: (tLE.rows (liveL now l)).map .p, e := 6, fz := true, m := true } }) :
   FnC Try.prog 68 [.mref a, .fn (.func 69) [] [.ptr b 0]] st K := by
 subst eA eB
 have h := cDel now c l.length l _ _ rfl rfl hok hc0 rfl hl
 refine FnC.frame2 (A' := { cells := .p (iv c) :: (tLE.rows (liveL now l)).map .p, e := 6, fz := true, m := true }) hab hA hB rfl rfl ?_ rfl ?_ ⟨rfl, rfl, rfl, rfl⟩ ?_ hK
 · rw [List.all_cons, rowsLE_flat]; rfl
 · rw [List.all_cons, rowsLE_flat]; rfl
 · have conv : ∀ (m : Nat) (L : LE), m = L.length → StS.conc ⟨[{ cells := [.p (iv c), .arr m tLE L], e := 6, fz := true, m := true }, { cells := [.p (iv now)], e := 3, fz := false }], []⟩ = ⟨[{ cells := .p (iv c) :: (tLE.rows L).map .p, e := 6, fz := true, m := true }, { cells := [.p (iv now)], e := 3, fz := false }], []⟩ := fun m L hm => by
     subst hm
     simp only [StS.conc, List.map_cons, List.map_nil, BoxS.conc, concCs_cons, concCs_nil, cellS, DC.conc, arrCells, List.append_nil, tLE.norm_eq rfl]
     rfl
   have hc : FnC Try.prog 68 (concL [.mref 0, .fn (.func 69) [] [.ptr 1 0]]) (StS.conc ⟨[{ cells := [.p (iv c), .arr l.length tLE l], e := 6, fz := true, m := true }, { cells := [.p (iv now)], e := 3, fz := false }], []⟩) fun d s => d = .p (.tup []) ∧ s = ⟨[{ cells := .p (iv c) :: (tLE.rows (liveL now l)).map .p, e := 6, fz := true, m := true }, { cells := [.p (iv now)], e := 3, fz := false }], []⟩ := by
     refine FnC.cmono _ _ _ _ _ ?_ h
     rintro x s ⟨d, s', rfl, rfl, rfl, rfl⟩
     exact ⟨by simp only [DC.conc, concL]; rfl, conv _ _ rfl⟩
   rw [conv _ _ rfl] at hc
   exact hc
theorem kDel_ok : ∀ ds st K, kDel ds st K = true → FnC Try.prog 68 ds st fun d st => K d st = true := fun ds st K h => by
 unfold kDel at h
 split at h
 · rename_i a f b
   simp only [Bool.and_eq_true, Nat.beq_eq, Bool.not_eq_true'] at h
   obtain ⟨⟨rfl, hab⟩, h⟩ := h
   have hab : a ≠ b := fun e => by subst e; simp at hab
   split at h
   · rename_i A B hA hB
     simp only [Bool.and_eq_true, Nat.beq_eq, Bool.not_eq_true'] at h
     obtain ⟨⟨⟨⟨⟨⟨⟨⟨a1, a2⟩, a3⟩, a4⟩, b1⟩, b2⟩, b3⟩, b4⟩, h⟩ := h
     rw [bnth_eq] at hA hB
     split at h
     · rename_i c r now hAc hBc
       split at h
       · rename_i l hl
         simp only [Bool.and_eq_true, fList_eq] at h
         obtain ⟨h1, h2⟩ := h
         obtain ⟨k1, k2, k3, k4⟩ := okB_spec h1
         have eA : A = { cells := .p (iv c) :: (tLE.rows l).map .p, e := 6, fz := true, m := true } := by
           cases A
           simp only at a1 a2 a3 a4 hAc
           rw [leP_spec _ (Nat.le_refl _) hl] at hAc
           subst a1 a2 a3 a4 hAc; rfl
         have eB : B = { cells := [.p (iv now)], e := 3, fz := false } := by
           cases B
           simp only at b1 b2 b3 b4 hBc
           subst b1 b2 b3 b4 hBc; rfl
         exact cDelD hab hA hB eA eB k1 k2 k3 h2
       · cases h
     · cases h
   · cases h
 · cases h
theorem kDel_lin : ∀ ds st K, kDel ds st K = true → ∃ d st', K d st' = true ∧ ∀ K' : D → St → Bool, K' d st' = true → kDel ds st K' = true := fun ds st K h => by
 unfold kDel at h ⊢
 split at h
 · simp only [Bool.and_eq_true] at h ⊢
   obtain ⟨h0, h⟩ := h
   split at h
   · simp only [Bool.and_eq_true] at h ⊢
     obtain ⟨h1, h⟩ := h
     split at h
     · split at h
       · simp only [Bool.and_eq_true, fList_eq] at h ⊢
         exact ⟨_, _, h.2, fun K' hk => ⟨h0, h1, h.1, hk⟩⟩
       · cases h
     · cases h
   · cases h
 · cases h
noncomputable def ks32x : KnS := ksCons 68 kDel (ksCons 30 k30 (ksCons 67 k67 (ksCons 44 kSort fun _ => none)))
theorem ks32x_ok : KnSOK Try.prog ks32x := .cons kDel_ok kDel_lin (.cons k30_ok k30_lin (.cons k67_ok k67_lin (.cons kSort_ok kSort_lin .nil)))
theorem OWD.ogI {t : Ty} {e : TypeId} {l : List t.den} {d : DC} {bs : List BoxS} {st : StS} (h : OWD t e l d bs) {m : List t.den} (hm : l = m) {g : Nat} (hg : nthD st.grp g = some (m.length * t.size, e)) (hf : (t.rows l).all flatP = true) : OWNF d bs (.og g t m) st := by
 subst hm
 rcases h.h with ⟨h', rfl, rfl⟩ | ⟨h', rfl, rfl⟩
 · subst h'
   exact OWNF.flat (z := .sl (some true) 0 []) (by simp only [DC.conc]) (by simp only [DC.conc]) rfl
 · refine ⟨_, ?_, gp_box hg hf⟩
   rw [og_concN h', ms_conc]
   simp only [Ren]
   exact ⟨0, e, rfl, rfl⟩
theorem cCopyO (nl : Option Bool) (b : List Int) (h : Short 2000 b) : OwnL Try.prog 26 ([injT (.sl tB) (nl, b)]) (tB) 5 (b) ((fun d => d)) := by
 refine OwnL.of fun d bs hD => OwnS.of (S := []) (T := []) (U := []) (tbl := [(48, ac48 none, [.tmp 2], 19)]) (n := 5) hm32 cfg .nil .nil .nil (.cons Try.call48 Try.func48 (ac48_ok none) (by rw [Try.ntmps48]; exact Nat.le_refl _) .nil) 6 Try.call26 Try.func26 (ac26_ok (some (0, 0))) (by rw [Try.ntmps26]; exact Nat.le_refl _) rfl _ _ ?_
 intro cmp ar cv tn ic ai mx an ad ml sb mn ln em gt up ap sc vw cp rp p1 p2 s1 s2 X Y hX hY r0 r1 r2 r3 r4 r5 r6 r7 r8 r9 r10 r11 r12 r13 r14 r15 r16 r17 r18 r19 r20 r21 r22 r23 r24
 cbv
 have h := h.h
 have hlb : ic (ln tB b) = b.length := by rw [r4, r12]
 refine LOOP.ind0 (σ := List Int × Int) (fun (a, i) => [(0, .tl nl tB b), (3, .og 0 tB a), (4, .p (iv i))]) (fun (a, i) => ⟨[], [(ml (ln tB a) 1, 5)]⟩) (fun (a, i) => (b.length - i).toNat) (fun (a, i) => (0 ≤ i ∧ i ≤ b.length) ∧ a ++ b.drop i.toNat = b ∧ a.length ≤ i) ([], 0) (by simp) (.inr ⟨[], [none], ?_⟩) ?_
 · rw [SIM_iff]; cbv; simp [nlLe_self]
 intro ⟨a, i⟩ hI X' hX
 dsimp only at hI
 obtain ⟨⟨hI1, hI2⟩, hI3, hI4⟩ := hI
 obtain ⟨x, hx⟩ : ∃ x : Int, x = gt tB b i := ⟨_, rfl⟩
 have hst : i < b.length → (a ++ [x]) ++ b.drop (i + 1).toNat = b := fun hc => by
   have := gtR_drop (t := tB) (l := b) (i := i) hI1 hc
   rw [List.append_assoc, List.singleton_append, hx, r14]
   rw [← this]; exact hI3
 have hend : ¬ i < b.length → b = a := fun hc => by
   rw [gtR_end hc, List.append_nil] at hI3; exact hI3.symm
 have hap : ap tB a [x] = a ++ [x] := by rw [r16]
 have hla : ln tB a = a.length := by rw [r12]
 have hl1 : ln tB [x] = 1 := by rw [r12]; rfl
 have hadd : i < b.length → ar .add .i64 i 1 = i + 1 := fun h => by rw [r1]; exact wrap64 (n := i + 1) (by omega) (by omega)
 have hlim : i < b.length → LIM (ad (ln tB a) 1) 1 := fun hc => by
   rw [hla]
   exact ⟨by rw [r8]; show (a.length + 1) * 1 ≤ _; omega, by rw [r8]; show a.length + 1 ≤ 2 ^ 63 - 1; omega⟩
 have hal : ((a ++ [x]).length : Int) ≤ i + 1 := by rw [List.length_append, List.length_singleton]; omega
 clear hI3
 cbv
 try simp only [nc_eq] at *
 rw [hlb, ← hx, hap, hl1]
 refine BR.lss r0 (fun hc => ?_) (fun hc => ?_)
 · rw [hadd hc]
   exact ⟨⟨hI1, hc⟩, ⟨hI1, hc⟩, ⟨rfl⟩, hlim hc, NEXT.mk (hX (_, i + 1) _ _ ⟨⟨by show 0 ≤ i + 1; omega, by show i + 1 ≤ b.length; omega⟩, hst hc, hal⟩ (by show ((b.length : Int) - (i + 1)).toNat < ((b.length : Int) - i).toNat; omega) (.inl ⟨rfl, rfl⟩))⟩
 · refine hD.ogI (hend hc) ?_ (rows_int _)
   show some (ml (ln tB a) 1, 5) = some (a.length * 1, 5)
   rw [r9, hla]
theorem cCopyG (nl : Option Bool) (b : List Int) (m : Nat) (hm : m = b.length) (h : Short 2000 b) : FnS Try.prog 26 ([injT (.sl tB) (nl, b)]) (⟨[], []⟩ ) fun x_ s_ => x_ = (.og 0 tB b) ∧ s_ = (⟨[], [(m, 5)]⟩) := by
 refine FnS.of (S := []) (T := []) (U := []) (tbl := [(48, ac48 none, [.tmp 2], 19)]) (n := 5) hm32 cfg .nil .nil .nil (.cons Try.call48 Try.func48 (ac48_ok none) (by rw [Try.ntmps48]; exact Nat.le_refl _) .nil) 6 Try.call26 Try.func26 (ac26_ok (some (0, 0))) (by rw [Try.ntmps26]; exact Nat.le_refl _) rfl _ _ _ (by rfl) ?_
 intro cmp ar cv tn ic ai mx an ad ml sb mn ln em gt up ap sc vw cp rp p1 p2 s1 s2 X Y hX hY r0 r1 r2 r3 r4 r5 r6 r7 r8 r9 r10 r11 r12 r13 r14 r15 r16 r17 r18 r19 r20 r21 r22 r23 r24
 cbv
 have h := h.h
 have hlb : ic (ln tB b) = b.length := by rw [r4, r12]
 refine LOOP.ind0 (σ := List Int × Int) (fun (a, i) => [(0, .tl nl tB b), (3, .og 0 tB a), (4, .p (iv i))]) (fun (a, i) => ⟨[], [(ml (ln tB a) 1, 5)]⟩) (fun (a, i) => (b.length - i).toNat) (fun (a, i) => (0 ≤ i ∧ i ≤ b.length) ∧ a ++ b.drop i.toNat = b ∧ a.length ≤ i) ([], 0) (by simp) (.inr ⟨[], [none], ?_⟩) ?_
 · rw [SIM_iff]; cbv; simp [nlLe_self]
 intro ⟨a, i⟩ hI X' hX
 dsimp only at hI
 obtain ⟨⟨hI1, hI2⟩, hI3, hI4⟩ := hI
 obtain ⟨x, hx⟩ : ∃ x : Int, x = gt tB b i := ⟨_, rfl⟩
 have hst : i < b.length → (a ++ [x]) ++ b.drop (i + 1).toNat = b := fun hc => by
   have := gtR_drop (t := tB) (l := b) (i := i) hI1 hc
   rw [List.append_assoc, List.singleton_append, hx, r14]
   rw [← this]; exact hI3
 have hend : ¬ i < b.length → b = a := fun hc => by
   rw [gtR_end hc, List.append_nil] at hI3; exact hI3.symm
 have hap : ap tB a [x] = a ++ [x] := by rw [r16]
 have hla : ln tB a = a.length := by rw [r12]
 have hl1 : ln tB [x] = 1 := by rw [r12]; rfl
 have hadd : i < b.length → ar .add .i64 i 1 = i + 1 := fun h => by rw [r1]; exact wrap64 (n := i + 1) (by omega) (by omega)
 have hlim : i < b.length → LIM (ad (ln tB a) 1) 1 := fun hc => by
   rw [hla]
   exact ⟨by rw [r8]; show (a.length + 1) * 1 ≤ _; omega, by rw [r8]; show a.length + 1 ≤ 2 ^ 63 - 1; omega⟩
 have hal : ((a ++ [x]).length : Int) ≤ i + 1 := by rw [List.length_append, List.length_singleton]; omega
 clear hI3
 cbv
 try simp only [nc_eq] at *
 rw [hlb, ← hx, hap, hl1]
 refine BR.lss r0 (fun hc => ?_) (fun hc => ?_)
 · rw [hadd hc]
   exact ⟨⟨hI1, hc⟩, ⟨hI1, hc⟩, ⟨rfl⟩, hlim hc, NEXT.mk (hX (_, i + 1) _ _ ⟨⟨by show 0 ≤ i + 1; omega, by show i + 1 ≤ b.length; omega⟩, hst hc, hal⟩ (by show ((b.length : Int) - (i + 1)).toNat < ((b.length : Int) - i).toNat; omega) (.inl ⟨rfl, rfl⟩))⟩
 · obtain rfl := hend hc
   refine RET.mk ⟨[], [some 0], ?_⟩
   rw [SIM_iff]; cbv
   simp [lstEq, r9, hla, hm]
theorem FnC.frameG {P : Program} {f : FuncId} {st : St} {x : PD} {n : Nat} {e : TypeId} {cells : List PD} (h : FnC P f [.p x] ⟨[], []⟩ fun d s => d = .grp 0 n cells ∧ s = ⟨[], [(n, e)]⟩)
   {K : D → St → Prop} (hK : K (.grp st.grp.length n cells) { st with grp := st.grp ++ [(n, e)] }) : FnC P f [.p x] st K := by
 let h2 : Nat → Option Nat := fun j => if j = st.grp.length then some 0 else none
 have hc2 : ∀ {j i}, h2 j = some i → j = st.grp.length ∧ i = 0 := fun {j i} h => by
   simp only [h2] at h
   split at h
   · exact ⟨by assumption, (Option.some.inj h).symm⟩
   · cases h
 refine FnC.frame (f1 := fun _ => none) (h1 := fun _ => none) (dsL := [.p x]) (stL := ⟨[], []⟩) rfl ⟨Nat.zero_le _, Nat.zero_le _, fun _ _ h => (by cases h), fun _ _ _ h => (by cases h), fun j hj => absurd hj (Nat.not_lt_zero _), fun _ _ h => (by cases h), fun _ _ _ h => (by cases h), fun j hj => absurd hj (Nat.not_lt_zero _), fun t E E' u _ hr => .bad u⟩ (fun i hi => ?_) h ?_
 · have hi : i < 1 := hi
   obtain rfl : i = 0 := by omega
   intro E E' u hn hr
   exact .p _ _ (by rw [hn.G]; exact hr.p_inv)
 · rintro d' stL' ⟨rfl, rfl⟩
   refine ⟨fun _ => none, h2, .grp st.grp.length n cells, { st with grp := st.grp ++ [(n, e)] }, ⟨fun _ _ h => (by cases h), fun _ _ _ h => (by cases h), fun _ _ _ h => (by cases h), fun _ _ _ h => (by cases h), fun _ _ _ => rfl, fun _ _ h => (by cases h), fun i j hj h => ?_, fun j j' i a b => ?_, fun j i q hj hq => ?_, fun j hj _ => ?_⟩, ?_, hK⟩
   · obtain ⟨e1, e2⟩ := hc2 h; omega
   · obtain ⟨e1, e2⟩ := hc2 a; obtain ⟨e3, e4⟩ := hc2 b; omega
   · obtain ⟨rfl, rfl⟩ := hc2 hj
     have hq : (n, e) = q := by simpa using hq
     subst hq
     simp
   · exact List.getElem?_append_left hj
   · intro E E' u hn hr
     obtain ⟨b, cap, cur, hg, hl, hrp, hu⟩ := hr.grp_inv
     exact .grp _ _ _ u b cap cur (hn.g _ 0 _ (by simp [h2]) hg) hl (by rw [hn.G]; exact hrp) hu
noncomputable def k26g : List D → St → (D → St → Bool) → Bool := fun ds st K => match ds with
 | [.p (.sl (some false) n cells)] => (match intsU8 cells with
   | some (x :: r) => decide ((x :: r).length = n ∧ n ≤ 1000) && fNat st.grp.length fun m => fApp st.grp [(n, 5)] fun gs => K (.grp m n cells) { st with grp := gs }
   | _ => false)
 | _ => false
theorem k26g_ok : ∀ ds st K, k26g ds st K = true → FnC Try.prog 26 ds st fun d st => K d st = true := fun ds st K h => by
 unfold k26g at h
 split at h
 · rename_i n cells
   split at h
   · rename_i x r hl
     simp only [Bool.and_eq_true, decide_eq_true_eq, fNat_eq, fApp_eq] at h
     obtain ⟨⟨h1, h2⟩, hk⟩ := h
     have hc := cCopyG (some false) (x :: r) n h1.symm ⟨by omega⟩
     have hcells := intsU8_spec hl
     subst hcells
     refine FnC.frameG ?_ hk
     have hc2 : FnC Try.prog 26 (concL [injT (.sl tB) (some false, x :: r)]) (StS.conc ⟨[], []⟩) fun d s => d = .grp 0 n (tB.rows (x :: r)) ∧ s = ⟨[], [(n, 5)]⟩ := by
       refine FnC.cmono _ _ _ _ _ ?_ hc
       rintro y s ⟨d, s', rfl, rfl, rfl, rfl⟩
       exact ⟨by rw [og_concN (by simp), h1], rfl⟩
     have e1 : concL [injT (.sl tB) (some false, x :: r)] = [.p (.sl (some false) n (tB.rows (x :: r)))] := by rw [← h1]; rfl
     rw [e1] at hc2
     exact hc2
   · cases h
 · cases h
theorem k26g_lin : ∀ ds st K, k26g ds st K = true → ∃ d st', K d st' = true ∧ ∀ K' : D → St → Bool, K' d st' = true → k26g ds st K' = true := fun ds st K h => by
 unfold k26g at h ⊢
 split at h
 · split at h
   · simp only [Bool.and_eq_true, fNat_eq, fApp_eq] at h ⊢
     exact ⟨_, _, h.2, fun K' hk => ⟨h.1, hk⟩⟩
   · cases h
 · cases h
noncomputable def k26 : List D → St → (D → St → Bool) → Bool := fun ds st K => match viewAs st.box ds with
 | some [.p (.sl (some false) n cells)] => (match intsU8 cells with
   | some (x :: r) => decide ((x :: r).length = n ∧ n ≤ 1000) && fNat st.box.length fun m => fList (cells.map D.p) fun cs => fApp st.box [{ cells := cs, e := 5, fz := false }] fun bs => K (.ms m 0 n) { st with box := bs }
   | _ => false)
 | _ => false
theorem k26_ok : ∀ ds st K, k26 ds st K = true → FnC Try.prog 26 ds st fun d st => K d st = true := fun ds st K h => by
 unfold k26 at h
 split at h
 · rename_i n cells hv
   split at h
   · rename_i x r hl
     simp only [Bool.and_eq_true, decide_eq_true_eq, fNat_eq, fList_eq, fApp_eq] at h
     obtain ⟨⟨h1, h2⟩, hk⟩ := h
     have ho := (cCopyO (some false) (x :: r) ⟨by omega⟩).box (by simp)
     have e1 : concL [injT (.sl tB) (some false, x :: r)] = [.p (.sl (some false) n cells)] := by
       rw [intsU8_spec hl, ← h1]; rfl
     rw [e1] at ho
     intro c
     refine ho.cwV rfl (ViewAs.of hv) ?_
     have e2 : D.shift st.box.length (DC.conc (.ms 0 0 tB.size none (x :: r).length)) = .ms st.box.length 0 n := by
       rw [ms_conc, h1]; simp [D.shift]
     have e3 : (concCs [DC.arr (x :: r).length tB (x :: r)]) = cells.map D.p := by
       rw [intsU8_spec hl]
       simp only [concCs_cons, concCs_nil, cellS, arrCells, List.append_nil, tB.norm_eq rfl]
     have e4 : (cells.map D.p).map (D.shift st.box.length) = cells.map D.p := by
       rw [List.map_map]
       exact List.map_congr_left fun y _ => by simp [D.shift]
     show K (D.shift st.box.length (DC.conc (.ms 0 0 tB.size none (x :: r).length))) { st with box := st.box ++ [Box.shift st.box.length ⟨concCs [DC.arr (x :: r).length tB (x :: r)], 5, false, false, false⟩] } = true
     rw [e2]
     unfold Box.shift
     rw [e3, e4]
     exact hk
   · cases h
 · cases h
theorem k26_lin : ∀ ds st K, k26 ds st K = true → ∃ d st', K d st' = true ∧ ∀ K' : D → St → Bool, K' d st' = true → k26 ds st K' = true := fun ds st K h => by
 unfold k26 at h ⊢
 split at h
 · split at h
   · simp only [Bool.and_eq_true, fNat_eq, fList_eq, fApp_eq] at h ⊢
     exact ⟨_, _, h.2, fun K' hk => ⟨h.1, hk⟩⟩
   · cases h
 · cases h
noncomputable def k26o : List D → St → (D → St → Bool) → Bool := fun ds st K => k26 ds st K || k26g ds st K
theorem k26o_ok : ∀ ds st K, k26o ds st K = true → FnC Try.prog 26 ds st fun d st => K d st = true := fun ds st K h => by
 unfold k26o at h
 rw [Bool.or_eq_true] at h
 exact h.elim (k26_ok ds st K) (k26g_ok ds st K)
theorem k26o_lin : ∀ ds st K, k26o ds st K = true → ∃ d st', K d st' = true ∧ ∀ K' : D → St → Bool, K' d st' = true → k26o ds st K' = true := fun ds st K h => by
 unfold k26o at h ⊢
 simp only [Bool.or_eq_true] at h ⊢
 rcases h with h | h
 · obtain ⟨d, st', h1, h2⟩ := k26_lin ds st K h
   exact ⟨d, st', h1, fun K' hk => .inl (h2 K' hk)⟩
 · obtain ⟨d, st', h1, h2⟩ := k26g_lin ds st K h
   exact ⟨d, st', h1, fun K' hk => .inr (h2 K' hk)⟩
noncomputable def ks32y : KnS := ksCons 26 k26o ks32x
theorem ks32y_ok : KnSOK Try.prog ks32y := .cons k26o_ok k26o_lin ks32x_ok
noncomputable def packG : List Int := packM (16777215, (0, (2, 1048575)))
theorem kn32G : PurFn Try.prog 29 [.p (.agg [iv 16777215, iv 0, uv 2, iv 1048575])] (.tup [.sl (some false) 56 (tB.rows packG), iv 0]) := by
 have h := (cPack 16777215 0 2 1048575 packG (by decide) rfl).box (by decide)
 exact h.pur (by kernel_rfl)
noncomputable def kl32x : KnL := [(11, [], .v (.bool true)), (29, [.agg [iv 16777215, iv 0, uv 2, iv 1048575]], .tup [.sl (some false) 56 (tB.rows packG), iv 0])]
theorem kl32x_ok : KnLOK Try.prog kl32x := .cons s32_awake (.cons kn32G .nil)
end Go.Ab
