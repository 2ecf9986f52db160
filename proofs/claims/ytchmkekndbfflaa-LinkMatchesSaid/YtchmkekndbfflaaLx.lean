/- Pending: the parcels, sorted. -/
import Derived.Test.YtchmkekndbfflaaLw
set_option linter.unusedSimpArgs false
set_option linter.unusedVariables false
set_option maxRecDepth 20000
set_option maxHeartbeats 8000000
namespace Go.Ab
open Go.Proofs
structure SRT (n m : Nat) (q : List tPar.den) : Prop where
  h : m = n
  q : q.length = n
  n : n < 1000000000
def spSort (sQ : List tPar.den → List tPar.den) : OpsS → CallS := fun _ _ ds st K => match ds with
  | [.ms a 0 6 none n, .fn (.func 41) [] []] => (match nthD st.box a with
    | some B => (match B.cells with
      | [.arr m t q] => (match castL tPar t q with
        | some q => SRT n m q ∧ frS [a] [] [.ms 0 0 6 none n, .fn (.func 41) [] []] ⟨[{ cells := [.arr n tPar q], e := 49, fz := false, ap := true }], []⟩ (.p (.tup [])) ⟨[{ cells := [.arr n tPar (sQ q)], e := 49, fz := false, ap := true }], []⟩ ds st K
        | none => False)
      | _ => False)
    | none => False)
  | _ => False
theorem cSortT : ∀ ds st K, spSort sortQ OpsS.real 40 ds st K → FnS Try.prog 40 ds st K := fun ds st K h => by
  unfold spSort at h
  split at h
  · repeat' split at h
    all_goals first
      | (obtain ⟨⟨rfl, h2, h3⟩, h⟩ := h; exact frS_ok (cSort _ 0 _ h2 (by omega) true) h)
      | exact h.elim
  · exact h.elim
theorem cPend (F : List Int) (now sent : Int) (N n : Nat) (q : List tPar.den) (hq : q.length = N) (hn : n ≤ N) (h3 : n ≤ 300) : FnS Try.prog 18 ([.ptr 0 0]) (linkS F now sent N n q ) fun x_ s_ => x_ = (.ms 3 0 6 none n) ∧ s_ = (⟨(linkS F now sent N n q).box ++ [{ cells := [.arr n tPar (sortQ (q.take n))], e := 49, fz := false, ap := true }], []⟩) := by
  refine FnS.of (S := []) (T := [(40, _)]) (U := []) (tbl := [(39, ac39 none, [.tmp 2], 8)]) (n := 23) hm33 cfg .nil (.cons (cSortT) .nil) .nil (.cons Try.call39 Try.func39 (ac39_ok none) (by rw [Try.ntmps39]; exact Nat.le_refl _) .nil) 6 Try.call18 Try.func18 (ac18_ok (some (3, 0))) (by rw [Try.ntmps18]; exact Nat.le_refl _) rfl _ _ _ (by rfl) ?_
  intro cmp ar cv tn ic ai mx an ad ml sb mn ln em gt up ap sc vw cp rp p1 p2 s1 s2 X Y hX hY r0 r1 r2 r3 r4 r5 r6 r7 r8 r9 r10 r11 r12 r13 r14 r15 r16 r17 r18 r19 r20 r21 r22 r23 r24
  generalize hg0 : sortQ = g0
  cbv
  have hv : vw tPar N q 0 n = q.take n := by rw [r18]; unfold vwR; rw [Ty.norm_eq tPar hq, List.drop_zero]
  have hl : (ln tPar (q.take n) : Nat) = n := by rw [r12]; show (q.take n).length = n; rw [List.length_take]; omega
  have ha : ad 0 n = n := by rw [r8]; exact Nat.zero_add n
  have h0 : vw tPar 0 [] 0 0 = [] := by rw [r18]; simp [vwR]
  have hap : ap tPar [] (q.take n) = q.take n := by rw [r16]; rfl
  rw [hv, hl, ha, h0, hap]
  refine ⟨⟨by omega⟩, ⟨by omega⟩, ⟨by omega, by simp only [maxLen]; omega⟩, ⟨rfl, by rw [List.length_take]; omega, by omega⟩, ?_⟩
  refine RET.mk ⟨[some 0, some 1, some 2, some 4], [], ?_⟩
  rw [SIM_iff]; cbv
  try simp [lstEq, nlLe_self]
end Go.Ab

