/- 'hears' as a call. -/
import Derived.Test.YtchmkekndbfflaaLs
set_option linter.unusedSimpArgs false
set_option linter.unusedVariables false
set_option maxRecDepth 20000
set_option maxHeartbeats 8000000
namespace Go.Ab
open Go.Proofs
theorem cHears0 (F : List Int) (now sent t : Int) (N : Nat) (q : List tPar.den) (hN : q.length = N) (ht : atM now t = 0) : FnS Try.prog 26 ([.ptr 0 0, .p (iv t), .tl (some true) tI []]) (linkS F now sent N 0 q ) fun x_ s_ => x_ = (.p (.v (.bool true))) ∧ s_ = (linkS F t sent N 0 q) := by
  refine FnS.of (S := [(27, _)]) (T := [(15, _)]) (tbl := []) (n := 107) hm33 cfg (.cons (spT1.ok (a := (.int .i64)) (pre := fun _ => True) fun x0 _ => c27 x0) .nil) (.cons cHearR .nil) .nil 0 Try.call26 Try.func26 (ac26_ok (some (3, 0))) (by rw [Try.ntmps26]; exact Nat.le_refl _) rfl _ _ _ (by rfl) ?_
  intro cmp ar cv tn ic ai mx an ad ml sb mn ln em gt up ap sc vw cp rp p1 p2 s1 s2 X Y hX hY r0 r1 r2 r3 r4 r5 r6 r7 r8 r9 r10 r11 r12 r13 r14 r15 r16 r17 r18 r19 r20 r21 r22 r23 r24
  cbv
  refine HEAR.mk ⟨ht, hN, by omega, by omega⟩ ?_
  intro n2 q2 o hn2 hq2 ho
  have hn2 : n2 = 0 := hn2
  have hq2 : q2 = q := hq2
  have ho : o = [] := ho
  subst hn2 hq2 ho
  have hl : ln tI [] = 0 := by rw [r12]; rfl
  have hl2 : ln tChoice [] = 0 := by rw [r12]; rfl
  have hi : ic 0 = 0 := by rw [r4]; rfl
  cbv
  refine BR.nn r0 ?_
  refine LOOP.ind (σ := Unit) (fun _ => _) (fun _ => _) (fun _ => 0) (fun _ => True) () trivial (.inl ⟨rfl, rfl⟩) ?_
  intro _ _ X1 hX1
  cbv
  rw [hl2, hi]
  refine BR.mk (fun h => absurd h (by rw [r0]; simp [cmpR])) fun _ => ?_
  refine LOOP.ind (σ := Unit) (fun _ => _) (fun _ => _) (fun _ => 0) (fun _ => True) () trivial (.inl ⟨rfl, rfl⟩) ?_
  intro _ _ X2 hX2
  cbv
  rw [hl, hl2, hi]
  refine BR.mk (fun h => absurd h (by rw [r0]; simp [cmpR])) fun _ => ?_
  refine BR.mk (fun _ => ?_) (fun h => absurd h (by rw [r0]; simp [cmpR]))
  refine RET.mk ⟨[some 0, some 1, some 2], [], ?_⟩
  rw [SIM_iff]; cbv
  all_goals try simp [lstEq]
structure HRS (now t : Int) (N n : Nat) (q : List tPar.den) (m : Nat) (D : List Int) (K : Nat → List tPar.den → List Int → Prop) : Prop where
  pre : (∃ s, SQ q n s ∧ REL s D) ∧ D.length = m ∧ q.length = N ∧ n ≤ 64 ∧ atM now t = 0 ∧ m ≤ 64
  h : ∀ n' q' D' s', SQ q' n' s' → REL s' D' → q'.length = N → n' ≤ n → D'.length = m → (∀ p ∈ s', ¬ p.1 ≤ t) → (∀ p ∈ s', p ∈ q.take n) → K n' q' D'
structure HRS0 (now t : Int) (N n : Nat) (q : List tPar.den) : Prop where
  h : n = 0
  q : q.length = N
  t : atM now t = 0
def spHears : OpsS → CallS := fun _ _ ds st K => match ds with
  | [.ptr a 0, .p (.v (.int .i64 t)), .ms d 0 1 none m] => linkAt a st fun b c F now sent N n q => (match nthD st.box d with
    | some B => (match B.cells with
      | [.arr m' ty D] => m' = m ∧ (match castL tI ty D with
        | some D => HRS now t N n q m D fun n' q' D' => frS [a, b, c, d] [] [.ptr 0 0, .p (iv t), .ms 3 0 1 none m] (stH F now sent N n q m D []) (.p (.v (.bool true))) (stH F t sent N n' q' m D' []) ds st K
        | none => False)
      | _ => False)
    | none => False)
  | [.ptr a 0, .p (.v (.int .i64 t)), .tl (some true) (.int .i64) []] => linkAt a st fun b c F now sent N n q => HRS0 now t N n q ∧ frS [a, b, c] [] [.ptr 0 0, .p (iv t), .tl (some true) tI []] (linkS F now sent N n q) (.p (.v (.bool true))) (linkS F t sent N n q) ds st K
  | _ => False
theorem drop_late {t : Int} {s : List PT} (h : s.Pairwise ltP) : ∀ p ∈ s.dropWhile (dueT t), ¬ p.1 ≤ t := fun p hp => by
  have hso : (s.dropWhile (dueT t)).Pairwise ltP := h.sublist (List.dropWhile_sublist _)
  cases hc : s.dropWhile (dueT t) with
  | nil => rw [hc] at hp; simp at hp
  | cons y r =>
    have hy : dueT t y ≠ true := fun hh => by
      have := List.head?_dropWhile_not (dueT t) s
      rw [hc] at this
      simp [hh] at this
    have hy : ¬ y.1 ≤ t := by simpa [dueT] using hy
    rw [hc] at hp hso
    rcases List.mem_cons.1 hp with rfl | h
    · exact hy
    · have := (List.pairwise_cons.1 hso).1 _ h
      unfold ltP at this
      omega
theorem HRS.use {now t : Int} {N n : Nat} {q : List tPar.den} {m : Nat} {D : List Int} {K : Nat → List tPar.den → List Int → Prop} (h : HRS now t N n q m D K) : ∃ s, SQ q n s ∧ REL s D ∧ D.length = m ∧ q.length = N ∧ n ≤ 64 ∧ atM now t = 0 ∧ m ≤ 64 ∧ K (hearN t n q) (hearQ t n q) (dueM (s.takeWhile (dueT t)) D) := by
  obtain ⟨⟨⟨s, hs, hr⟩, h2, h3, h4, h5, h6⟩, hk⟩ := h
  obtain ⟨x1, x2, x3, x4⟩ := hs.hears (t := t)
  have hh := List.takeWhile_append_dropWhile (p := dueT t) (l := s)
  refine ⟨s, hs, hr, h2, h3, h4, h5, h6, hk _ _ _ _ x3 (REL.hears (by rw [hh]; exact hr)) (by rw [x4, h3]) ?_ (by rw [dueM_len, h2]) (drop_late hs.so) (fun p hp => (hs.pm.mem_iff).1 ((List.dropWhile_sublist _).subset hp))⟩
  rw [x2, ← hs.len]; exact (List.dropWhile_sublist _).length_le
theorem cHearsT : ∀ ds st K, spHears OpsS.real 26 ds st K → FnS Try.prog 26 ds st K := fun ds st K h => by
  unfold spHears at h
  split at h
  · obtain ⟨b, c, F, now, sent, N, n, q, h⟩ := linkAt_some h
    repeat' split at h
    all_goals first | exact h.elim | exact h.2.elim | skip
    obtain ⟨rfl, h⟩ := h
    obtain ⟨s, hs, hr, h2, h3, h4, h5, h6, hk⟩ := h.use
    exact frS_ok (cHears F now sent _ N n q s _ _ _ _ hs hr h2 h3 h4 h5 h6 rfl rfl) hk
  · obtain ⟨b, c, F, now, sent, N, n, q, hu, h⟩ := linkAt_some h
    obtain ⟨rfl, h2, h3⟩ := hu
    exact frS_ok (cHears0 F now sent _ N q h2 h3) h
  · exact h.elim
end Go.Ab

