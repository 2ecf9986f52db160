/- CoordinateAll: the loops. -/
import Derived.Test.YteiolnofaebknaaMl
import Derived.Test.YteiolnofaebknaaAw
set_option linter.unusedSimpArgs false
set_option linter.unusedVariables false
set_option maxRecDepth 20000
set_option maxHeartbeats 4000000
namespace Go.Ab
open Go.Proofs
abbrev tIL : Ty := .sl tI
abbrev tUL : Ty := .sl (.int .u8)
def patL : List tIL.den := [(some true, []), (some false, [-1, -1, -1, -1]), (some false, [-1, 0, -1, 0]), (some false, [0, -1, -1, 0])]
def folL : List tUL.den := [(some false, [1, 1, 1, 1]), (some false, [2, 2, 2, 2]), (some false, [1, 2, 1, 2]), (some false, [0, 2, 2, 1])]
theorem pat_ok {k : Int} (h0 : 0 ≤ k) (h : k < 4) : wrongM (gtR tIL patL k).2 = 0 := by
  have key : ∀ k : Fin 4, wrongM (gtR tIL patL (k.val : Int)).2 = 0 := by decide
  have := key ⟨k.toNat, by omega⟩
  rw [show ((k.toNat : Nat) : Int) = k by omega] at this
  exact this
theorem fol_ok {k : Int} (h0 : 0 ≤ k) (h : k < 4) : (gtR tUL folL k).2.length = 4 ∧ rng3 (gtR tUL folL k).2 := by
  have key : ∀ k : Fin 4, (gtR tUL folL (k.val : Int)).2.length = 4 ∧ (gtR tUL folL (k.val : Int)).2.all (fun x : Int => decide (0 ≤ x ∧ x ≤ 2)) = true := by decide
  have := key ⟨k.toNat, by omega⟩
  rw [show ((k.toNat : Nat) : Int) = k by omega] at this
  exact ⟨this.1, fun x hx => by simpa using List.all_eq_true.1 this.2 x hx⟩
def abM (l : Int) : List Int := [arR .sub .i64 0 (arR .and .i64 l 1), arR .sub .i64 0 (arR .and .i64 (arR .shr .i64 l 1) 1), arR .sub .i64 0 (arR .and .i64 (arR .shr .i64 l 2) 1), arR .sub .i64 0 (arR .and .i64 (arR .shr .i64 l 3) 1)]
theorem ab_ok {l : Int} (h0 : 0 ≤ l) (h : l < 16) : wrongM (abM l) = 0 := by
  have key : ∀ k : Fin 16, wrongM (abM (k.val : Int)) = 0 := by decide +kernel
  have := key ⟨l.toNat, by omega⟩
  rw [show ((l.toNat : Nat) : Int) = l by omega] at this
  exact this
def leM (w : Int) : List Int := [IntKind.u8.wrap (arR .rem .i64 w 3), IntKind.u8.wrap (arR .rem .i64 (arR .quo .i64 w 3) 3), IntKind.u8.wrap (arR .rem .i64 (arR .quo .i64 w 9) 3), IntKind.u8.wrap (arR .quo .i64 w 27)]
theorem le_ok {w : Int} (h0 : 0 ≤ w) (h : w < 81) : rng3 (leM w) := by
  have key : ∀ k : Fin 81, (leM (k.val : Int)).all (fun x : Int => decide (0 ≤ x ∧ x ≤ 2)) = true := by decide +kernel
  have := key ⟨w.toNat, by omega⟩
  rw [show ((w.toNat : Nat) : Int) = w by omega] at this
  exact fun x hx => by simpa using List.all_eq_true.1 this x hx
theorem caw34' : PurS Try.prog 21 [] (.p (.v (.bool true))) := ⟨_, rfl, s34_awake⟩
theorem lawAll  : PurS Try.prog 7 [] (.sb true) := by
  refine PurS.of (S := [(21, _), (30, _)]) (T := []) (tbl := []) (n := 90) hm33 cfg (.cons (spT0.ok caw34') (.cons (spT4.ok (a := (.sl (.int .i64))) (b := (.sl (.int .i64))) (c := (.sl (.int .u8))) (d := (.sl (.int .u8))) fun x0 x1 x2 x3 h => cFour x0.1 x0.2 x1.1 x1.2 x2.1 x2.2 x3.1 x3.2 h) .nil)) .nil .nil 0 Try.call7 Try.func7 (ac7_ok (some (0, 0))) (by rw [Try.ntmps7]; exact Nat.le_refl _) rfl ⟨_, rfl⟩ ?_
  intro cmp ar cv tn ic ai mx an ad ml sb mn ln em gt up ap sc vw cp rp p1 p2 s1 s2 X Y hX hY r0 r1 r2 r3 r4 r5 r6 r7 r8 r9 r10 r11 r12 r13 r14 r15 r16 r17 r18 r19 r20 r21 r22 r23 r24
  cbv
  obtain ⟨P, hP⟩ : ∃ P, P = patL := ⟨_, rfl⟩
  obtain ⟨Q, hQ⟩ : ∃ Q, Q = folL := ⟨_, rfl⟩
  refine LOOP.ind (σ := Int) (fun l => [(1, .tl (some false) tIL P), (2, .tl (some false) tUL Q), (3, .p (iv l))]) (fun _ => ⟨[], []⟩) (fun l => (16 - l).toNat) (fun l => 0 ≤ l ∧ l ≤ 16) 0 (by omega) (.inl ⟨by rw [hP, hQ]; rfl, rfl⟩) ?_
  intro l hl X' hX
  obtain ⟨A, hA⟩ : ∃ A, A = abM l := ⟨_, rfl⟩
  have hal : l < 16 → ar .add .i64 l 1 = l + 1 := fun _ => by rw [r1]; exact wrap64 (n := l + 1) (by omega) (by omega)
  cbv
  obtain ⟨A', hA'⟩ : ∃ A', A' = [ar .sub .i64 0 (ar .and .i64 l 1), ar .sub .i64 0 (ar .and .i64 (ar .shr .i64 l 1) 1), ar .sub .i64 0 (ar .and .i64 (ar .shr .i64 l 2) 1), ar .sub .i64 0 (ar .and .i64 (ar .shr .i64 l 3) 1)] := ⟨_, rfl⟩
  refine BR.lss r0 (fun hlt => ?_) (fun _ => by first | rfl | trivial)
  rw [← hA']
  have hab : wrongM A' = 0 := by rw [hA', r1]; exact ab_ok hl.1 hlt
  refine ⟨⟨by decide⟩, ⟨by decide⟩, ⟨by decide⟩, ?_⟩
  refine LOOP.ind (σ := Int) (fun w => [(1, .tl (some false) tIL P), (2, .tl (some false) tUL Q), (3, .p (iv l)), (4, .tl (some false) tI A'), (5, .p (iv w))]) (fun _ => ⟨[], []⟩) (fun w => (81 - w).toNat) (fun w => 0 ≤ w ∧ w ≤ 81) 0 (by omega) (.inl ⟨rfl, rfl⟩) ?_
  intro w hw X1 hX1
  have haw : w < 81 → ar .add .i64 w 1 = w + 1 := fun _ => by rw [r1]; exact wrap64 (n := w + 1) (by omega) (by omega)
  cbv
  obtain ⟨W, hW⟩ : ∃ W, W = [cv .u8 (ar .rem .i64 w 3), cv .u8 (ar .rem .i64 (ar .quo .i64 w 3) 3), cv .u8 (ar .rem .i64 (ar .quo .i64 w 9) 3), cv .u8 (ar .quo .i64 w 27)] := ⟨_, rfl⟩
  refine BR.lss r0 (fun hltw => ?_) (fun _ => ?_)
  · rw [← hW]
    have hWl : W.length = 4 := by rw [hW]; rfl
    have hWr : rng3 W := by rw [hW, r1, r2]; exact le_ok hw.1 hltw
    refine ⟨⟨by decide⟩, ⟨by decide⟩, ⟨by decide⟩, ⟨by decide⟩, ⟨by decide⟩, ⟨by decide⟩, ?_⟩
    refine LOOP.ind (σ := Int) (fun k => [(1, .tl (some false) tIL P), (2, .tl (some false) tUL Q), (3, .p (iv l)), (4, .tl (some false) tI A'), (5, .p (iv w)), (6, .tl (some false) (.int .u8) W), (7, .p (iv k))]) (fun _ => ⟨[], []⟩) (fun k => (4 - k).toNat) (fun k => 0 ≤ k ∧ k ≤ 4) 0 (by omega) (.inl ⟨rfl, rfl⟩) ?_
    intro k hk X2 hX2
    have hak : k < 4 → ar .add .i64 k 1 = k + 1 := fun _ => by rw [r1]; exact wrap64 (n := k + 1) (by omega) (by omega)
    have hPl : ic (ln tIL P) = 4 := by rw [r4, r12, hP]; rfl
    have hQl : ic (ln tUL Q) = 4 := by rw [r4, r12, hQ]; rfl
    have hrem : k < 4 → ar .rem .i64 (k + 1) 4 = (k + 1) % 4 := fun _ => by rw [r1]; exact tmod_nn (by omega)
    have hpk : ∀ i : Int, 0 ≤ i → i < 4 → wrongM (gtR tIL P i).2 = 0 := by rw [hP]; exact fun i => pat_ok
    have hqk : ∀ i : Int, 0 ≤ i → i < 4 → (gtR tUL Q i).2.length = 4 ∧ rng3 (gtR tUL Q i).2 := by rw [hQ]; exact fun i => fol_ok
    cbv
    refine BR.lss r0 (fun hk4 => ?_) (fun _ => ?_)
    · rw [hak hk4, hrem hk4, hPl, hQl, r14, r24]
      have h1 : INB k 4 := ⟨hk.1, hk4⟩
      have h2 : INB ((k + 1) % 4) 4 := ⟨by omega, by omega⟩
      have f1 : FOURK A' (gtR tIL P k).2 W (gtR tUL Q k).2 := ⟨hab, hpk k hk.1 hk4, hWl, (hqk k hk.1 hk4).1, hWr, (hqk k hk.1 hk4).2⟩
      have f2 : FOURK A' (gtR tIL P k).2 W (gtR tUL Q ((k + 1) % 4)).2 := ⟨hab, hpk k hk.1 hk4, hWl, (hqk _ h2.1 h2.2).1, hWr, (hqk _ h2.1 h2.2).2⟩
      refine ⟨h1, h1, h1, h1, f1, BR_true.2 ⟨h1, h1, ⟨by decide⟩, h2, h2, f2, BR_true.2 (NEXT.mk (hX2 (k + 1) _ _ ⟨by omega, by omega⟩ ?_ (.inl ⟨rfl, rfl⟩)))⟩⟩
      show (4 - (k + 1)).toNat < (4 - k).toNat
      omega
    · rw [haw hltw]
      refine NEXT.mk (hX1 (w + 1) _ _ ⟨by omega, by omega⟩ ?_ (.inl ⟨rfl, rfl⟩))
      show (81 - (w + 1)).toNat < (81 - w).toNat
      omega
  · rw [hal hlt]
    refine NEXT.mk (hX (l + 1) _ _ ⟨by omega, by omega⟩ ?_ (.inl ⟨rfl, rfl⟩))
    show (16 - (l + 1)).toNat < (16 - l).toNat
    omega
theorem all_typed : ∀ xs, TyVs Try.prog [] xs → PurFn Try.prog 7 (xs.map .p) (.v (.bool true)) := fun xs h => by
  cases xs with
  | nil => exact lawAll.true
  | cons x xs => exact h.elim
end Go.Ab

