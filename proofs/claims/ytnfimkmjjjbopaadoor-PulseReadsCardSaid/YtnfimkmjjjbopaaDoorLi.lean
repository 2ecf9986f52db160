/- The contracts as they are called. -/
import Derived.Test.YtnfimkmjjjbopaaDoorLp
set_option linter.unusedSimpArgs false
set_option linter.unusedVariables false
set_option maxRecDepth 20000
set_option maxHeartbeats 4000000
namespace Go.Ab
open Go.Proofs
def allL (n x : Int) : List Int := List.replicate n.toNat x
structure ALN (n : Int) : Prop where
  a : 0 ≤ n
  b : n ≤ 2000
theorem cAllT (n x : Int) (h : ALN n) : PurS Tryd.prog 34 [injT tI n, injT tB x] (.tl none tB (allL n x)) := cAll n x _ rfl ⟨h.a, h.b⟩
def makB (b : List Int) : Bool := b.all fun x => decide (0 ≤ x)
structure MAK (b : List Int) : Prop where
  h : makB b = true
theorem MAK.p {b : List Int} (h : MAK b) : PRE (pMk b) := by
  have h := h.h
  simp only [makB, List.all_eq_true, decide_eq_true_eq] at h
  exact ⟨h⟩
theorem cMakeT (nb : Option Bool) (b : List Int) (h : MAK b) : PurS Tryd.prog 13 [injT (.sl tB) (nb, b)] (.tup [.tl none tI (makT b), .p (iv (makE b))]) := cMake nb b _ _ rfl rfl h.p
theorem cShiftT (nt : Option Bool) (t : List Int) (n : Int) (h : Short 2000 t) : PurS Tryd.prog 20 [injT (.sl tI) (nt, t), injT tI n] (.tup [.tl none tI (shiT t n), .p (iv (shiE t n))]) := cShift nt t _ n _ rfl rfl h
def mrgB (l : List (Option Bool × List Int)) : Bool := Nat.ble l.length 2000 && (Nat.ble 9 l.length || l.all fun t => Nat.ble t.2.length 1500)
structure MRG (l : List (Option Bool × List Int)) : Prop where
  h : mrgB l = true
theorem MRG.p {l : List (Option Bool × List Int)} (h : MRG l) : PRE (pMrg l) := by
  have h := h.h
  simp only [mrgB, Bool.and_eq_true, Bool.or_eq_true, Nat.ble_eq, List.all_eq_true] at h
  exact ⟨h.1, fun h8 => h.2.resolve_left (by omega)⟩
theorem cMergeT (nl : Option Bool) (l : List (Option Bool × List Int)) (h : MRG l) : PurS Tryd.prog 15 [injT (.sl tTr) (nl, l)] (.tup [.tl none tI (mrgT l), .p (iv (mrgE l))]) := cMerge nl l _ _ rfl rfl h.p
theorem cStartsT (nt : Option Bool) (t : List Int) (h : Short 1500 t) : PurS Tryd.prog 25 [injT (.sl tI) (nt, t)] (.tup [.tl none tI (staT t), .p (iv (staE t))]) := cStarts nt t _ _ rfl rfl h.h
theorem cReadT (nt : Option Bool) (t : List Int) (n : Int) (lg : Bool) (h : Short 1500 t) : PurS Tryd.prog 27 [injT (.sl tI) (nt, t), injT tI n, injT .bool lg] (.tup [.agg [.p (iv (reaN t n lg)), .tl none tB (reaB t n lg)], .p (iv (reaE t n lg))]) := by
  cases lg
  · exact cReadS nt t _ n _ _ rfl rfl rfl h.h
  · exact cReadL nt t _ n _ _ rfl rfl rfl h.h
theorem BR.yes {b : Bool} {A : Prop} (h : b = true) (ha : A) : BR b A (false = true) := BR.mk (fun _ => ha) fun hf => by rw [h] at hf; cases hf
theorem BR.no {b : Bool} {B : Prop} (h : b = false) (hb : B) : BR b (false = true) B := BR.mk (fun ht => by rw [h] at ht; cases ht) fun _ => hb
theorem Short.ble {α : Type} {n : Nat} {l : List α} (h : Nat.ble l.length n = true) : Short n l := ⟨Nat.le_of_ble_eq_true h⟩
theorem INB.dec {k n : Int} (h : (decide (0 ≤ k) && decide (k < n)) = true) : INB k n := by simp at h; exact ⟨h.1, h.2⟩
def tZero : List Int := makT (allL 56 0)
def tOne : List Int := makT (allL 56 1)
def tBoth : List Int := unI tZero tOne
def tLater : List Int := shiT tOne 1
def tMix : List Int := unI tZero tLater
theorem both_eq : mrgT [(none, makT (allL 56 0)), (none, makT (allL 56 1))] = tBoth :=
  mrgT_is (by kernel_rfl) (by kernel_rfl) (by kernel_rfl) (by kernel_rfl)
theorem mix_eq : mrgT [(none, makT (allL 56 0)), (none, shiT (makT (allL 56 1)) 1)] = tMix :=
  mrgT_is (by kernel_rfl) (by kernel_rfl) (by kernel_rfl) (by kernel_rfl)
theorem sta_zero : staT (makT (allL 56 0)) = [0] := (staT_eq (by kernel_rfl)).trans (by kernel_rfl)
theorem rea_bothE : reaE tBoth 0 false = 0 := (reaE_eq _ _ _).trans (by kernel_rfl)
theorem rea_both : reaB tBoth 0 false = allL 56 2 := (reaB_eq rea_bothE).trans (by kernel_rfl)
theorem rea_mixE : reaE tMix 0 false = 0 := (reaE_eq _ _ _).trans (by kernel_rfl)
theorem rea_mix : reaB tMix 0 false = allL 56 0 := (reaB_eq rea_mixE).trans (by kernel_rfl)
theorem rea_one : reaE (makT (allL 56 0)) 1 false = 9 := (reaE_eq _ _ _).trans (by kernel_rfl)
theorem cAwake  : PurS Tryd.prog 10 [] (.p (.v (.bool true))) := by
  refine PurS.of (S := [(34, _), (13, _), (25, _), (15, _), (27, _), (20, _), (29, _), (32, _)]) (T := []) (tbl := []) (n := 151) hmD cfg (.cons (spT2.ok (a := (.int .i64)) (b := (.int .u8)) fun x0 x1 h => cAllT x0 x1 h) (.cons (spT1.ok (a := (.sl (.int .u8))) fun x0 h => cMakeT x0.1 x0.2 h) (.cons (spT1.ok (a := (.sl (.int .i64))) fun x0 h => cStartsT x0.1 x0.2 h) (.cons (spT1.ok (a := (.sl (.sl (.int .i64)))) fun x0 h => cMergeT x0.1 x0.2 h) (.cons (spT3.ok (a := (.sl (.int .i64))) (b := (.int .i64)) (c := .bool) fun x0 x1 x2 h => cReadT x0.1 x0.2 x1 x2 h) (.cons (spT2.ok (a := (.sl (.int .i64))) (b := (.int .i64)) fun x0 x1 h => cShiftT x0.1 x0.2 x1 h) (.cons (spT2.ok (a := (.sl (.int .i64))) (b := (.sl (.int .i64))) fun x0 x1 h => cEqI x0.1 x0.2 x1.1 x1.2 h) (.cons (spT2.ok (a := (.sl (.int .u8))) (b := (.sl (.int .u8))) fun x0 x1 h => cEqB x0.1 x0.2 x1.1 x1.2 h) .nil)))))))) .nil .nil 0 Tryd.call10 Tryd.func10 (ac10_ok (some (0, 0))) (by rw [Tryd.ntmps10]; exact Nat.le_refl _) rfl ⟨_, rfl⟩ ?_
  intro cmp ar cv tn ic ai mx an ad ml sb mn ln em gt up ap sc vw cp rp p1 p2 s1 s2 X Y hX hY r0 r1 r2 r3 r4 r5 r6 r7 r8 r9 r10 r11 r12 r13 r14 r15 r16 r17 r18 r19 r20 r21 r22 r23 r24
  generalize hg0 : allL = g0
  generalize hg1 : makT = g1
  generalize hg2 : makE = g2
  generalize hg3 : staT = g3
  generalize hg4 : staE = g4
  generalize hg5 : mrgT = g5
  generalize hg6 : mrgE = g6
  generalize hg7 : reaN = g7
  generalize hg8 : reaB = g8
  generalize hg9 : reaE = g9
  generalize hg10 : shiT = g10
  generalize hg11 : shiE = g11
  generalize hg12 : eqI = g12
  cbv
  subst_vars
  dsimp only
  rw [both_eq, mix_eq, sta_zero, rea_bothE, rea_both, rea_mixE, rea_mix, rea_one]
  repeat' (first | exact True.intro | refine And.intro ?_ ?_ | refine BR.yes (by kernel_rfl) ?_ | refine BR.no (by kernel_rfl) ?_ | exact ⟨by decide, by decide⟩ | exact ⟨by kernel_rfl⟩ | exact Short.ble (by kernel_rfl) | exact INB.dec (by kernel_rfl))
end Go.Ab

