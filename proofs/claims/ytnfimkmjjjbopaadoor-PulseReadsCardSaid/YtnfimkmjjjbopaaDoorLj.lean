/- PulseExamples. -/
import Derived.Test.YtnfimkmjjjbopaaDoorLi
set_option linter.unusedSimpArgs false
set_option linter.unusedVariables false
set_option maxRecDepth 20000
set_option maxHeartbeats 4000000
namespace Go.Ab
open Go.Proofs
theorem cAwakeT : PurS Tryd.prog 10 [] (.p (.v (.bool true))) := cAwake
theorem x1 : reaE (shiT (makT (allL 112 0)) 784) 784 true = 0 := (reaE_eq _ _ _).trans (by kernel_rfl)
theorem x2 : reaN (shiT (makT (allL 112 0)) 784) 784 true = 784 := by rw [reaN, x1]; rfl
theorem x3 : reaB (shiT (makT (allL 112 0)) 784) 784 true = allL 112 0 := (reaB_eq x1).trans (by kernel_rfl)
theorem x4 : reaE (shiT (makT (allL 112 0)) 784) 785 true = 7 := (reaE_eq _ _ _).trans (by kernel_rfl)
theorem x5 : reaE [] 785 true = 7 := (reaE_eq _ _ _).trans (by kernel_rfl)
theorem x6 : reaE [] 784 true = 9 := (reaE_eq _ _ _).trans (by kernel_rfl)
theorem x7 : reaE [5, 5] (-1) true = 1 := (reaE_eq _ _ _).trans (by kernel_rfl)
theorem x8 : mrgT [] = [] := mrgT_is (by kernel_rfl) (by kernel_rfl) (by kernel_rfl) (by kernel_rfl)
theorem x9 : staT [0, 2, 4, 7, 9, 11] = [0, 2] := (staT_eq (by kernel_rfl)).trans (by kernel_rfl)
theorem xa : reaE (shiT (makT (allL 112 0)) 784) 784 false = 0 := (reaE_eq _ _ _).trans (by kernel_rfl)
theorem xb : reaB (shiT (makT (allL 112 0)) 784) 784 false = allL 56 0 := (reaB_eq xa).trans (by kernel_rfl)
theorem cExamples  : PurS Tryd.prog 8 [] (.p (.v (.bool true))) := by
  refine PurS.of (S := [(10, _), (34, _), (13, _), (25, _), (15, _), (27, _), (20, _), (29, _), (32, _)]) (T := []) (tbl := []) (n := 227) hmD cfg (.cons (spT0.ok cAwakeT) (.cons (spT2.ok (a := (.int .i64)) (b := (.int .u8)) fun x0 x1 h => cAllT x0 x1 h) (.cons (spT1.ok (a := (.sl (.int .u8))) fun x0 h => cMakeT x0.1 x0.2 h) (.cons (spT1.ok (a := (.sl (.int .i64))) fun x0 h => cStartsT x0.1 x0.2 h) (.cons (spT1.ok (a := (.sl (.sl (.int .i64)))) fun x0 h => cMergeT x0.1 x0.2 h) (.cons (spT3.ok (a := (.sl (.int .i64))) (b := (.int .i64)) (c := .bool) fun x0 x1 x2 h => cReadT x0.1 x0.2 x1 x2 h) (.cons (spT2.ok (a := (.sl (.int .i64))) (b := (.int .i64)) fun x0 x1 h => cShiftT x0.1 x0.2 x1 h) (.cons (spT2.ok (a := (.sl (.int .i64))) (b := (.sl (.int .i64))) fun x0 x1 h => cEqI x0.1 x0.2 x1.1 x1.2 h) (.cons (spT2.ok (a := (.sl (.int .u8))) (b := (.sl (.int .u8))) fun x0 x1 h => cEqB x0.1 x0.2 x1.1 x1.2 h) .nil))))))))) .nil .nil 0 Tryd.call8 Tryd.func8 (ac8_ok (some (0, 0))) (by rw [Tryd.ntmps8]; exact Nat.le_refl _) rfl ⟨_, rfl⟩ ?_
  intro cmp ar cv tn ic ai mx an ad ml sb mn ln em gt up ap sc vw cp rp p1 p2 s1 s2 X Y hX hY r0 r1 r2 r3 r4 r5 r6 r7 r8 r9 r10 r11 r12 r13 r14 r15 r16 r17 r18 r19 r20 r21 r22 r23 r24
  generalize hg0 : allL = g0
  generalize hg1 : makT = g1
  generalize hg2 : makE = g2
  generalize hg3 : staT = g3
  generalize hg4 : staE = g4
  generalize hg5 : mrgT = g5
  generalize hg6 : mrgE = g6
  generalize hg7 : reaN = g7
  generalize hg8 : reaB = g8
  generalize hg9 : reaE = g9
  generalize hg10 : shiT = g10
  generalize hg11 : shiE = g11
  generalize hg12 : eqI = g12
  cbv
  subst_vars
  dsimp only
  rw [x1, x2, x3, x4, x5, x6, x7, x8, x9, xa, xb]
  repeat' (first | exact True.intro | refine And.intro ?_ ?_ | refine BR.yes (by kernel_rfl) ?_ | refine BR.no (by kernel_rfl) ?_ | exact ⟨by decide, by decide⟩ | exact ⟨by kernel_rfl⟩ | exact Short.ble (by kernel_rfl) | exact INB.dec (by kernel_rfl))
theorem typed0 {P : Program} {f : FuncId} (h : PurS P f [] (.p (.v (.bool true)))) : ∀ xs, TyVs P [] xs → PurFn P f (xs.map .p) (.v (.bool true)) := fun xs hx => by
  match xs, hx with
  | [], _ =>
    obtain ⟨x, h1, h2⟩ := h
    obtain rfl : PD.v (.bool true) = x := by injection h1
    exact h2
theorem examples_typed : ∀ xs, TyVs Tryd.prog [] xs → PurFn Tryd.prog 8 (xs.map .p) (.v (.bool true)) := typed0 cExamples
end Go.Ab

