/- maps.DeleteFunc with live's test. -/
import Derived.Test.YtbjehpjlpckbfaaLg
set_option linter.unusedSimpArgs false
set_option linter.unusedVariables false
set_option maxRecDepth 20000
set_option maxHeartbeats 8000000
namespace Go.Ab
open Go.Proofs
abbrev LKV := Int × Int × Int × Int
abbrev LE := List (Int × LKV × Int)
def deadB (now : Int) (x : LKV) : Bool := decide (x.2.2.2 < now)
def delP (now : Int) (sn : List Int) (l : LE) : LE := l.filter fun e => !(sn.contains e.2.2 && deadB now e.2.1)
def liveL (now : Int) (l : LE) : LE := l.filter fun e => !deadB now e.2.1
theorem delP_nil (now : Int) (l : LE) : delP now [] l = l := by unfold delP; simp
theorem delP_all {now : Int} {sn : List Int} {l : LE} (h : ∀ e ∈ delP now sn l, e.2.2 ∈ sn) : delP now sn l = liveL now l := by
 unfold delP liveL at *
 apply List.filter_congr
 intro e he
 by_cases hs : e.2.2 ∈ sn
 · simp [hs]
 · have : deadB now e.2.1 = false := by
     cases hd : deadB now e.2.1 with
     | false => rfl
     | true => exact absurd (h e (List.mem_filter.2 ⟨he, by simp [hs]⟩)) hs
   simp [this]
theorem delP_sub {now : Int} {sn : List Int} {l : LE} : ∀ e ∈ delP now sn l, e ∈ l := fun e h => (List.mem_filter.1 h).1
theorem MOK.sub {l l' : LE} {c : Int} (h : MOK l c) (hs : l'.Sublist l) : MOK l' c := ⟨fun e he => h.b e (hs.subset he), h.nb.sublist hs, h.nk.sublist hs⟩
theorem MOK.uniqB {l : LE} {c : Int} (h : MOK l c) {x y : Int × LKV × Int} (hx : x ∈ l) (hy : y ∈ l) (e : x.2.2 = y.2.2) : x = y := by
 have := h.nb
 clear h
 induction l with
 | nil => cases hx
 | cons z l ih =>
   rw [List.pairwise_cons] at this
   rcases List.mem_cons.1 hx with rfl | hx'
   · rcases List.mem_cons.1 hy with rfl | hy'
     · rfl
     · exact absurd e (this.1 y hy')
   · rcases List.mem_cons.1 hy with rfl | hy'
     · exact absurd e.symm (this.1 x hx')
     · exact ih hx' hy' this.2
theorem MOK.uniqK {l : LE} {c : Int} (h : MOK l c) {x y : Int × LKV × Int} (hx : x ∈ l) (hy : y ∈ l) (e : x.1 = y.1) : x = y := by
 have := h.nk
 clear h
 induction l with
 | nil => cases hx
 | cons z l ih =>
   rw [List.pairwise_cons] at this
   rcases List.mem_cons.1 hx with rfl | hx'
   · rcases List.mem_cons.1 hy with rfl | hy'
     · rfl
     · exact absurd e (this.1 y hy')
   · rcases List.mem_cons.1 hy with rfl | hy'
     · exact absurd e.symm (this.1 x hx')
     · exact ih hx' hy' this.2
theorem delP_live {now : Int} {sn : List Int} {l : LE} {c : Int} (hok : MOK l c) {k : Int} {v : LKV} {b : Int} (h : (k, v, b) ∈ l) (hd : deadB now v = false) : delP now (sn ++ [b]) l = delP now sn l := by
 unfold delP
 apply List.filter_congr
 intro e he
 by_cases hb : e.2.2 = b
 · obtain rfl := hok.uniqB he h hb
   simp [hd]
 · simp [hb]
theorem delP_dead {now : Int} {sn : List Int} {l l' : LE} {c : Int} (hok : MOK l c) {k : Int} {v : LKV} {b : Int} (h : (k, v, b) ∈ delP now sn l) (hd : deadB now v = true) (hm : MDel (delP now sn l) k l') : l' = delP now (sn ++ [b]) l := by
 have hok' : MOK (delP now sn l) c := hok.sub List.filter_sublist
 have e1 : delP now (sn ++ [b]) l = (delP now sn l).filter fun e => !(e.2.2 == b) := by
   unfold delP
   rw [List.filter_filter]
   apply List.filter_congr
   intro e he
   by_cases hb : e.2.2 = b
   · obtain rfl := hok.uniqB he (delP_sub _ h) hb
     simp [hd]
   · simp [hb]
 rw [e1]
 rcases hm with ⟨l1, v0, b0, l2, e, h1, rfl⟩ | ⟨hn, _⟩
 · have hmem : (k, v0, b0) ∈ delP now sn l := by rw [e]; simp
   have := hok'.uniqK h hmem rfl
   obtain ⟨rfl, rfl⟩ : v = v0 ∧ b = b0 := by simpa using this
   have hnb := hok'.nb
   rw [e] at hnb ⊢
   rw [List.pairwise_append] at hnb
   obtain ⟨_, h2, h3⟩ := hnb
   rw [List.pairwise_cons] at h2
   rw [List.filter_append, List.filter_cons]
   have f1 : l1.filter (fun e => !(e.2.2 == b)) = l1 := List.filter_eq_self.2 fun x hx => by
     have := h3 x hx _ (List.mem_cons_self)
     simpa using this
   have f2 : l2.filter (fun e => !(e.2.2 == b)) = l2 := List.filter_eq_self.2 fun x hx => by
     have := h2.1 x hx
     simpa using fun e => this e.symm
   rw [f1, f2]; simp
 · exact absurd rfl (hn _ h)
def leftN (sn : List Int) (l : LE) : Nat := (l.filter fun e => !sn.contains e.2.2).length
theorem leftN_lt {sn : List Int} {l : LE} {k : Int} {v : LKV} {b : Int} (h : (k, v, b) ∈ l) (hb : b ∉ sn) : leftN (sn ++ [b]) l < leftN sn l := by
 unfold leftN
 have e : (l.filter fun e => !(sn ++ [b]).contains e.2.2) = (l.filter fun e => !sn.contains e.2.2).filter fun e => !(e.2.2 == b) := by
   rw [List.filter_filter]
   apply List.filter_congr
   intro x _
   by_cases hx : x.2.2 = b
   · simp [hx]
   · simp [hx]
 rw [e]
 have hm : (k, v, b) ∈ l.filter fun e => !sn.contains e.2.2 := List.mem_filter.2 ⟨h, by simpa using hb⟩
 generalize (l.filter fun e => !sn.contains e.2.2) = L at hm
 induction L with
 | nil => cases hm
 | cons y L ih =>
   rw [List.filter_cons]
   rcases List.mem_cons.1 hm with rfl | hm
   · simp only [beq_self_eq_true, Bool.not_true, Bool.false_eq_true, if_false, List.length_cons]
     exact Nat.lt_succ_of_le (List.length_filter_le _ _)
   · have := ih hm
     split
     · simp only [List.length_cons]; omega
     · simp only [List.length_cons]; omega
theorem find_birth {l : LE} {c : Int} (hok : MOK l c) {k : Int} {v : LKV} {b : Int} (h : (k, v, b) ∈ l) : l.find? (fun e => e.2.2 == b) = some (k, v, b) := by
 cases hf : l.find? (fun e => e.2.2 == b) with
 | none =>
   have := List.find?_eq_none.1 hf _ h
   simp at this
 | some x =>
   have h1 := List.mem_of_find?_eq_some hf
   have h2 := List.find?_some hf
   rw [hok.uniqB h1 h (by simpa using h2)]
theorem cDel (now c : Int) (n : Nat) (l : LE) (L : LE) (m : Nat) (hL : L = liveL now l) (hm : m = L.length) (hok : MOK l c) (hc0 : 0 ≤ c) (hn : l.length = n) (hn2 : n ≤ 1000) : FnS Try.prog 68 ([.mref 0, .fn (.func 69) [] [.ptr 1 0]]) (⟨[{ cells := [.p (iv c), .arr n tLE l], e := 6, fz := true, m := true }, { cells := [.p (iv now)], e := 3, fz := false }], []⟩ ) fun x_ s_ => x_ = (.tup []) ∧ s_ = (⟨[{ cells := [.p (iv c), .arr m tLE L], e := 6, fz := true, m := true }, { cells := [.p (iv now)], e := 3, fz := false }], []⟩) := by
 refine FnS.of (S := []) (T := []) (U := []) (tbl := [(69, ac69 none, [.tmp 5], 10)]) (n := 19) hm32 cfg .nil .nil .nil (.cons Try.call69 Try.func69 (ac69_ok none) (by rw [Try.ntmps69]; exact Nat.le_refl _) .nil) 6 Try.call68 Try.func68 (ac68_ok (some (2, 0))) (by rw [Try.ntmps68]; exact Nat.le_refl _) rfl _ _ _ (by rfl) ?_
 intro cmp ar cv tn ic ai mx an ad ml sb mn ln em gt up ap sc vw cp rp p1 p2 s1 s2 X Y hX hY r0 r1 r2 r3 r4 r5 r6 r7 r8 r9 r10 r11 r12 r13 r14 r15 r16 r17 r18 r19 r20 r21 r22 r23 r24
 cbv
 refine ⟨⟨hc0⟩, ?_⟩
 refine LOOP.ind (σ := List Int × LE × Nat × Nat) (fun (sn, M, ns, nm) => [(0, .mref 0), (1, .fn (.func 69) [] [.ptr 1 0]), (7, .ptr 2 0)])
   (fun (sn, M, ns, nm) => ⟨[{ cells := [.p (iv c), .arr nm tLE M], e := 6, fz := true, m := true }, { cells := [.p (iv now)], e := 3, fz := false }, { cells := [.mref 0, .p (iv c), .p (iv c), .arr ns tI sn], e := 0, fz := true, m := true }], []⟩) (fun (sn, M, ns, nm) => leftN sn l)
   (fun (sn, M, ns, nm) => M = delP now sn l ∧ M.length = nm ∧ sn.length = ns ∧ ∀ b ∈ sn, 0 ≤ b) ([], l, 0, n) ⟨(delP_nil now l).symm, hn, rfl, fun b hb => by cases hb⟩ (.inl ⟨rfl, rfl⟩) ?_
 intro ⟨sn, M, ns, nm⟩ hI X' hX
 dsimp only at hI
 obtain ⟨hI1, hI2, hI3, hI4⟩ := hI
 have hokM : MOK M c := by rw [hI1]; exact hok.sub List.filter_sublist
 have hend : (∀ e ∈ M, e.2.2 ∈ sn) → M = L := fun h => by rw [hL, hI1]; exact delP_all (by rw [← hI1]; exact h)
 have hlive : ∀ k v b, (k, v, b) ∈ M → deadB now v = false → M = delP now (sn ++ [b]) l := fun k v b h hd => by rw [hI1, delP_live hok (delP_sub _ (by rw [← hI1]; exact h)) hd]
 have hdead : ∀ k v b M', (k, v, b) ∈ M → deadB now v = true → MDel M k M' → M' = delP now (sn ++ [b]) l := fun k v b M' h hd hm => delP_dead hok (by rw [← hI1]; exact h) hd (by rw [← hI1]; exact hm)
 have hleft : ∀ k v b, (k, v, b) ∈ M → b ∉ sn → leftN (sn ++ [b]) l < leftN sn l := fun k v b h hb => leftN_lt (delP_sub _ (by rw [← hI1]; exact h)) hb
 have hdd : ∀ k a s' u, deadB now (k, a, s', u) = decide (u < now) := fun _ _ _ _ => rfl
 clear hI1 hL hok
 cbv
 refine MNX.mk hI2 hI3 ⟨rfl, hc0, by omega⟩ (fun e he => hokM.b e he) hI4 (fun hz => ?_) fun k v b hmem hnb ns' sn' hsn hns => ?_
 · have := hend hz
   subst this
   refine RET.mk ⟨[some 0, some 1], [], ?_⟩
   rw [SIM_iff]; cbv
   have hmn : nm = m := by rw [hm, hI2]
   simp [lstEq, hmn]
 · obtain ⟨v1, v2, v3, v4⟩ : Int × Int × Int × Int := v
   cbv
   have hp' : ∀ x ∈ sn', 0 ≤ x := fun x hx => by
     rw [hsn] at hx
     rcases List.mem_append.1 hx with hx | hx
     · exact hI4 x hx
     · obtain rfl := List.mem_singleton.1 hx; exact (hokM.b _ hmem).1
   refine MEN.mk hI2 hns ⟨rfl, hc0⟩ (fun e he => (hokM.b e he).1) hp' ⟨k, (v1, v2, v3, v4), b, by rw [hsn]; simp, find_birth hokM hmem, ?_⟩
   cbv
   have h4 : p2 tI tI (p2 tU (.pair tI tI) (p2 tI (.pair tU (.pair tI tI)) (v1, v2, v3, v4))) = v4 := by rw [r22]
   rw [h4]
   have hdd' := hdd v1 v2 v3 v4
   refine BR.lss r0 (fun hc => MDL.mk hI2 fun n' l' hmd hln => ?_) (fun hc => ?_)
   · have hl' : l' = delP now sn' l := by rw [hsn]; exact hdead _ _ _ _ hmem (by rw [hdd']; exact decide_eq_true hc) hmd
     have hlt : leftN sn' l < leftN sn l := by rw [hsn]; exact hleft _ _ _ hmem hnb
     cbv
     exact NEXT.mk (hX (sn', l', ns', n') _ _ ⟨hl', hln, hns, hp'⟩ hlt (.inr ⟨[some 0, some 1, some 2], [], by rw [SIM_iff]; cbv⟩))
   · have hl' : M = delP now sn' l := by rw [hsn]; exact hlive _ _ _ hmem (by rw [hdd']; exact decide_eq_false hc)
     have hlt : leftN sn' l < leftN sn l := by rw [hsn]; exact hleft _ _ _ hmem hnb
     exact NEXT.mk (hX (sn', M, ns', nm) _ _ ⟨hl', hI2, hns, hp'⟩ hlt (.inr ⟨[some 0, some 1, some 2], [], by rw [SIM_iff]; cbv⟩))
end Go.Ab
