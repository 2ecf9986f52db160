/- The functions of layer 34 that have no loops, as functions on numbers. -/
import Derived.Test.YteiolnofaebknaaCd4
import Derived.Test.YteiolnofaebknaaAbD
set_option linter.unusedSimpArgs false
set_option linter.unusedVariables false
namespace Go.Ab
open Go.Proofs

abbrev iv (n : Int) : PD := .v (.int .i64 n)
abbrev uv (n : Int) : PD := .v (.int .u8 n)
abbrev bv (b : Bool) : PD := .v (.bool b)

structure Side where
  (a o se n h hn : Int)
structure Chc where
  (a t se n : Int)
def Side.p (s : Side) : PD := .agg [iv s.a, iv s.o, uv s.se, iv s.n, uv s.h, iv s.hn]
def Chc.p (c : Chc) : PD := .agg [iv c.a, iv c.t, uv c.se, iv c.n]

theorem hm34 : Try.prog.follows .mixedOrders = true := by kernel_rfl

/-! ### Contracts over typed data -/
structure Cod (α : Type) where
  inj : α → PD
  get : PD → Option α
  inv : ∀ p a, get p = some a → p = inj a

def gI : PD → Option Int | .v (.int .i64 n) => some n | _ => none
def gU : PD → Option Int | .v (.int .u8 n) => some n | _ => none
theorem gI_inv : ∀ p a, gI p = some a → p = iv a := fun p a h => by
  unfold gI at h
  split at h
  · rw [Option.some.inj h]
  · cases h
theorem gU_inv : ∀ p a, gU p = some a → p = uv a := fun p a h => by
  unfold gU at h
  split at h
  · rw [Option.some.inj h]
  · cases h
def cI : Cod Int := ⟨iv, gI, gI_inv⟩
def cU : Cod Int := ⟨uv, gU, gU_inv⟩
def gSide : PD → Option Side
  | .agg [x1, x2, x3, x4, x5, x6] => match gI x1, gI x2, gU x3, gI x4, gU x5, gI x6 with
    | some a, some o, some se, some n, some h, some hn => some ⟨a, o, se, n, h, hn⟩
    | _, _, _, _, _, _ => none
  | _ => none
def gChc : PD → Option Chc
  | .agg [x1, x2, x3, x4] => match gI x1, gI x2, gU x3, gI x4 with
    | some a, some t, some se, some n => some ⟨a, t, se, n⟩
    | _, _, _, _ => none
  | _ => none
theorem gSide_inv : ∀ p a, gSide p = some a → p = Side.p a := fun p a h => by
  unfold gSide at h
  split at h
  · split at h
    · rename_i h1 h2 h3 h4 h5 h6
      rw [← Option.some.inj h, gI_inv _ _ h1, gI_inv _ _ h2, gU_inv _ _ h3, gI_inv _ _ h4, gU_inv _ _ h5, gI_inv _ _ h6]
      rfl
    · cases h
  · cases h
theorem gChc_inv : ∀ p a, gChc p = some a → p = Chc.p a := fun p a h => by
  unfold gChc at h
  split at h
  · split at h
    · rename_i h1 h2 h3 h4
      rw [← Option.some.inj h, gI_inv _ _ h1, gI_inv _ _ h2, gU_inv _ _ h3, gI_inv _ _ h4]
      rfl
    · cases h
  · cases h
def cSide : Cod Side := ⟨Side.p, gSide, gSide_inv⟩
def cChc : Cod Chc := ⟨Chc.p, gChc, gChc_inv⟩

def sp0 (r : PD) : List D → Option PD
  | [] => some r
  | _ => none
def sp1 {α : Type} (A : Cod α) (r : α → PD) : List D → Option PD
  | [.p x] => match A.get x with | some a => some (r a) | none => none
  | _ => none
def sp2 {α β : Type} (A : Cod α) (B : Cod β) (r : α → β → PD) : List D → Option PD
  | [.p x, .p y] => match A.get x, B.get y with | some a, some b => some (r a b) | _, _ => none
  | _ => none
abbrev OkS (P : Program) (f : FuncId) (s : List D → Option PD) : Prop := ∀ ds x, s ds = some x → ∃ args, toAs ds = some args ∧ PurFn P f args x
theorem sp0_ok {P : Program} {f : FuncId} {r : PD} (h : PurFn P f [] r) : OkS P f (sp0 r) := fun ds x hx => by
  unfold sp0 at hx
  split at hx
  · rw [← Option.some.inj hx]; exact ⟨_, rfl, h⟩
  · cases hx
theorem sp1_ok {P : Program} {f : FuncId} {α : Type} {A : Cod α} {r : α → PD} (h : ∀ a, PurFn P f [.p (A.inj a)] (r a)) : OkS P f (sp1 A r) := fun ds x hx => by
  unfold sp1 at hx
  split at hx
  · split at hx
    · rename_i ha
      rw [← Option.some.inj hx, A.inv _ _ ha]; exact ⟨_, rfl, h _⟩
    · cases hx
  · cases hx
theorem sp2_ok {P : Program} {f : FuncId} {α β : Type} {A : Cod α} {B : Cod β} {r : α → β → PD} (h : ∀ a b, PurFn P f [.p (A.inj a), .p (B.inj b)] (r a b)) : OkS P f (sp2 A B r) := fun ds x hx => by
  unfold sp2 at hx
  split at hx
  · split at hx
    · rename_i ha hb
      rw [← Option.some.inj hx, A.inv _ _ ha, B.inv _ _ hb]; exact ⟨_, rfl, h _ _⟩
    · cases hx
  · cases hx
theorem OkS.fn1 {P : Program} {f : FuncId} {α : Type} {A : Cod α} {r : α → PD} (hi : ∀ a, A.get (A.inj a) = some a) (h : OkS P f (sp1 A r)) (a : α) : PurFn P f [.p (A.inj a)] (r a) := by
  obtain ⟨args, h1, h2⟩ := h [.p (A.inj a)] (r a) (by simp [sp1, hi])
  simp only [toAs, toA, toP, Option.map_some, Option.some.injEq] at h1
  exact h1 ▸ h2

/-! ### What the functions compute -/
def outM (n m : Int) : Bool := decide (n < 0 ∨ n > m)
def checkM (s : Side) : Int :=
  if s.a < 0 ∨ s.a > 16777215 ∨ s.o < 0 ∨ s.o > 16777215 ∨ s.a = s.o then 1
  else if s.se > 2 ∨ s.h > 2 then 6
  else if s.n < 0 ∨ s.n > 1048575 ∨ s.hn < 0 ∨ s.hn > 1048575 then 1
  else if (s.n = 0 ∧ s.se ≠ 0) ∨ (s.hn = 0 ∧ s.h ≠ 0) then 16
  else 0
def lcheckM (c : Chc) : Int :=
  if c.a < 0 ∨ c.a > 16777215 ∨ c.t < 0 ∨ c.t > 16777215 ∨ c.a = c.t then 1
  else if c.se > 2 then 6
  else if c.n < 1 ∨ c.n > 1048575 then 1
  else 0
def likeM (a b : Int) : Bool := decide (a ≠ 0 ∧ a = b)
def out24M (n : Int) : Bool := outM n 16777215
def pairM (a o : Int) : Bool := decide (0 ≤ a ∧ a ≤ 16777215 ∧ 0 ≤ o ∧ o ≤ 16777215 ∧ a ≠ o)
def leadsM (s : Side) : Bool := decide (s.a < s.o)
def zeroS : Side := ⟨0, 0, 0, 0, 0, 0⟩
def zeroC : Chc := ⟨0, 0, 0, 0⟩
def oppM (a : Int) : Int := IntKind.u8.wrap (3 - a)
def yieldM (s : Side) (se : Int) : Int := if ¬ s.a < s.o ∧ likeM se s.h = true then oppM se else se
def takeM (s : Side) (se : Int) : Side × Int :=
  if se = s.se then (s, 0) else if s.n = 1048575 then (zeroS, 17) else (⟨s.a, s.o, se, IntKind.i64.wrap (s.n + 1), s.h, s.hn⟩, 0)
def chooseM (s : Side) (w : Int) : Side × Int :=
  if checkM s ≠ 0 then (zeroS, checkM s) else if w > 2 then (zeroS, 6) else takeM s (yieldM s w)
def hearM (s : Side) (c : Chc) : Side × Int :=
  if checkM s ≠ 0 then (zeroS, checkM s) else if lcheckM c ≠ 0 then (zeroS, lcheckM c)
  else if c.a ≠ s.o ∨ c.t ≠ s.a then (zeroS, 16) else if c.n ≤ s.hn then (s, 0)
  else takeM ⟨s.a, s.o, s.se, s.n, c.se, c.n⟩ (yieldM ⟨s.a, s.o, s.se, s.n, c.se, c.n⟩ s.se)
def sayM (s : Side) : Chc × Int :=
  if checkM s ≠ 0 then (zeroC, checkM s) else if s.n = 0 then (zeroC, 9) else (⟨s.a, s.o, s.se, s.n⟩, 0)
def newM (a o : Int) : Side × Int := if checkM ⟨a, o, 0, 0, 0, 0⟩ ≠ 0 then (zeroS, checkM ⟨a, o, 0, 0, 0, 0⟩) else (⟨a, o, 0, 0, 0, 0⟩, 0)
def safeM (a b : Side) : Bool := !likeM a.se b.se
def agreedM (a b : Side) : Bool := decide (a.hn = b.n ∧ b.hn = a.n)

theorem leafS {a o se n h hn e : Int} {r : Side × Int} (hr : (⟨a, o, se, n, h, hn⟩, e) = r) : PLe (.p (.tup [.agg [.v (.int .i64 a), .v (.int .i64 o), .v (.int .u8 se), .v (.int .i64 n), .v (.int .u8 h), .v (.int .i64 hn)], .v (.int .i64 e)])) (.tup [r.1.p, iv r.2]) := by subst hr; exact .p _
theorem leafC {a o se n e : Int} {r : Chc × Int} (hr : (⟨a, o, se, n⟩, e) = r) : PLe (.p (.tup [.agg [.v (.int .i64 a), .v (.int .i64 o), .v (.int .u8 se), .v (.int .i64 n)], .v (.int .i64 e)])) (.tup [r.1.p, iv r.2]) := by subst hr; exact .p _

/-! ### The program's functions -/
theorem c39 : OkS Try.prog 39 (sp2 cI cI fun n m => bv (outM n m)) := sp2_ok fun n m => by
  refine PurFn.ofC (S := []) (tbl := []) (n := 12) hm34 .nil .nil [] 0 Try.call39 Try.func39 ac39_ok (by rw [Try.ntmps39]; exact Nat.le_refl _) rfl ?_
  intro Φ Ω κ ν ι mx dr dn ap ad ml ln dl sc px nth put cp mn rep repP an Q hQ; intros
  cbv
  subst_vars
  simp only [cmpR, mxR, arR, BR_dec, BR_true, BR_false, FIN_iff]
  try simp only [BR_iff]
  repeat' (first | refine And.intro ?_ ?_ | intro _)
  all_goals (refine hQ _ (leafB ?_); clear hQ; simp only [outM] <;> (grind))

theorem c51 : OkS Try.prog 51 (sp1 cI fun n => bv (out24M n)) := sp1_ok fun n => by
  refine PurFn.ofC (S := []) (tbl := []) (n := 9) hm34 .nil .nil [] 0 Try.call51 Try.func51 ac51_ok (by rw [Try.ntmps51]; exact Nat.le_refl _) rfl ?_
  intro Φ Ω κ ν ι mx dr dn ap ad ml ln dl sc px nth put cp mn rep repP an Q hQ; intros
  cbv
  subst_vars
  simp only [cmpR, mxR, arR, BR_dec, BR_true, BR_false, FIN_iff]
  try simp only [BR_iff]
  repeat' (first | refine And.intro ?_ ?_ | intro _)
  all_goals (refine hQ _ (leafB ?_); clear hQ; simp only [outM, out24M] <;> (grind))

theorem c50 : OkS Try.prog 50 (sp2 cU cU fun n m => bv (likeM n m)) := sp2_ok fun n m => by
  refine PurFn.ofC (S := []) (tbl := []) (n := 12) hm34 .nil .nil [] 0 Try.call50 Try.func50 ac50_ok (by rw [Try.ntmps50]; exact Nat.le_refl _) rfl ?_
  intro Φ Ω κ ν ι mx dr dn ap ad ml ln dl sc px nth put cp mn rep repP an Q hQ; intros
  cbv
  subst_vars
  simp only [cmpR, mxR, arR, BR_dec, BR_true, BR_false, FIN_iff]
  try simp only [BR_iff]
  repeat' (first | refine And.intro ?_ ?_ | intro _)
  all_goals (refine hQ _ (leafB ?_); clear hQ; simp only [likeM] <;> (grind))

theorem c40 : OkS Try.prog 40 (sp1 cSide fun s => bv (leadsM s)) := sp1_ok fun ⟨a, o, se, n, h, hn⟩ => by
  refine PurFn.ofC (S := []) (tbl := []) (n := 8) hm34 .nil .nil [] 0 Try.call40 Try.func40 ac40_ok (by rw [Try.ntmps40]; exact Nat.le_refl _) rfl ?_
  intro Φ Ω κ ν ι mx dr dn ap ad ml ln dl sc px nth put cp mn rep repP an Q hQ; intros
  cbv
  subst_vars
  simp only [cmpR, mxR, arR, BR_dec, BR_true, BR_false, FIN_iff]
  try simp only [BR_iff]
  repeat' (first | refine And.intro ?_ ?_ | intro _)
  all_goals (refine hQ _ (leafB ?_); clear hQ; simp only [leadsM] <;> (grind))

theorem c19 : OkS Try.prog 19 (sp1 cSide fun s => iv (checkM s)) := sp1_ok fun ⟨a, o, se, n, h, hn⟩ => by
  refine PurFn.ofC (S := [(39, _)]) (tbl := []) (n := 59) hm34 (.cons c39 .nil) .nil [] 0 Try.call19 Try.func19 ac19_ok (by rw [Try.ntmps19]; exact Nat.le_refl _) rfl ?_
  intro Φ Ω κ ν ι mx dr dn ap ad ml ln dl sc px nth put cp mn rep repP an Q hQ; intros
  generalize hg0 : outM = g0
  cbv
  subst_vars
  simp only [cmpR, mxR, arR, BR_dec, BR_true, BR_false, FIN_iff, outM]
  try simp only [BR_iff]
  repeat' (first | refine And.intro ?_ ?_ | intro _)
  all_goals (refine hQ _ (leafI ?_); clear hQ; simp only [checkM] <;> (grind))

theorem c36 : OkS Try.prog 36 (sp1 cChc fun c => iv (lcheckM c)) := sp1_ok fun ⟨a, t, se, n⟩ => by
  refine PurFn.ofC (S := [(51, _)]) (tbl := []) (n := 35) hm34 (.cons c51 .nil) .nil [] 0 Try.call36 Try.func36 ac36_ok (by rw [Try.ntmps36]; exact Nat.le_refl _) rfl ?_
  intro Φ Ω κ ν ι mx dr dn ap ad ml ln dl sc px nth put cp mn rep repP an Q hQ; intros
  generalize hg0 : out24M = g0
  cbv
  subst_vars
  simp only [cmpR, mxR, arR, BR_dec, BR_true, BR_false, FIN_iff, outM, out24M]
  try simp only [BR_iff]
  repeat' (first | refine And.intro ?_ ?_ | intro _)
  all_goals (refine hQ _ (leafI ?_); clear hQ; simp only [lcheckM] <;> (grind))

theorem c32 : OkS Try.prog 32 (sp2 cSide cU fun s se => uv (yieldM s se)) := sp2_ok fun ⟨a, o, se, n, h, hn⟩ w => by
  refine PurFn.ofC (S := [(40, _), (50, _)]) (tbl := []) (n := 17) hm34 (.cons c40 (.cons c50 .nil)) .nil [] 0 Try.call32 Try.func32 ac32_ok (by rw [Try.ntmps32]; exact Nat.le_refl _) rfl ?_
  intro Φ Ω κ ν ι mx dr dn ap ad ml ln dl sc px nth put cp mn rep repP an Q hQ; intros
  generalize hg0 : leadsM = g0
  generalize hg1 : likeM = g1
  cbv
  subst_vars
  simp only [cmpR, mxR, arR, BR_dec, BR_true, BR_false, FIN_iff, leadsM]
  try simp only [BR_iff]
  repeat' (first | refine And.intro ?_ ?_ | intro _)
  all_goals (refine hQ _ (leafI ?_); clear hQ; simp only [yieldM, oppM] <;> (grind))

theorem c31 : OkS Try.prog 31 (sp2 cSide cU fun s se => .tup [(takeM s se).1.p, iv (takeM s se).2]) := sp2_ok fun ⟨a, o, se, n, h, hn⟩ w => by
  refine PurFn.ofC (S := []) (tbl := []) (n := 24) hm34 .nil .nil [] 0 Try.call31 Try.func31 ac31_ok (by rw [Try.ntmps31]; exact Nat.le_refl _) rfl ?_
  intro Φ Ω κ ν ι mx dr dn ap ad ml ln dl sc px nth put cp mn rep repP an Q hQ; intros
  cbv
  subst_vars
  simp only [cmpR, mxR, arR, BR_dec, BR_true, BR_false, FIN_iff]
  try simp only [BR_iff]
  repeat' (first | refine And.intro ?_ ?_ | intro _)
  all_goals (refine hQ _ (leafS ?_); clear hQ; simp only [takeM, zeroS] <;> ((repeat' split) <;> first | rfl | (simp_all; done) | grind))

theorem c13 : OkS Try.prog 13 (sp2 cSide cChc fun s c => .tup [(hearM s c).1.p, iv (hearM s c).2]) := sp2_ok fun ⟨a, o, se, n, h, hn⟩ ⟨ca, ct, cse, cn⟩ => by
  refine PurFn.ofC (S := [(19, _), (36, _), (32, _), (31, _)]) (tbl := []) (n := 55) hm34 (.cons c19 (.cons c36 (.cons c32 (.cons c31 .nil)))) .nil [] 0 Try.call13 Try.func13 ac13_ok (by rw [Try.ntmps13]; exact Nat.le_refl _) rfl ?_
  intro Φ Ω κ ν ι mx dr dn ap ad ml ln dl sc px nth put cp mn rep repP an Q hQ; intros
  generalize hg0 : checkM = g0
  generalize hg1 : lcheckM = g1
  generalize hg2 : yieldM = g2
  generalize hg3 : takeM = g3
  cbv
  subst_vars
  simp only [cmpR, mxR, arR, BR_dec, BR_true, BR_false, FIN_iff]
  try simp only [BR_iff]
  repeat' (first | refine And.intro ?_ ?_ | intro _)
  all_goals (refine hQ _ (leafS ?_); clear hQ; simp only [hearM, zeroS] <;> ((repeat' split) <;> first | rfl | (simp_all; done) | grind))

theorem c11 : OkS Try.prog 11 (sp2 cSide cU fun s w => .tup [(chooseM s w).1.p, iv (chooseM s w).2]) := sp2_ok fun ⟨a, o, se, n, h, hn⟩ w => by
  refine PurFn.ofC (S := [(19, _), (32, _), (31, _)]) (tbl := []) (n := 23) hm34 (.cons c19 (.cons c32 (.cons c31 .nil))) .nil [] 0 Try.call11 Try.func11 ac11_ok (by rw [Try.ntmps11]; exact Nat.le_refl _) rfl ?_
  intro Φ Ω κ ν ι mx dr dn ap ad ml ln dl sc px nth put cp mn rep repP an Q hQ; intros
  generalize hg0 : checkM = g0
  generalize hg1 : yieldM = g1
  generalize hg2 : takeM = g2
  cbv
  subst_vars
  simp only [cmpR, mxR, arR, BR_dec, BR_true, BR_false, FIN_iff]
  try simp only [BR_iff]
  repeat' (first | refine And.intro ?_ ?_ | intro _)
  all_goals (refine hQ _ (leafS ?_); clear hQ; simp only [chooseM, zeroS] <;> ((repeat' split) <;> first | rfl | (simp_all; done) | grind))

theorem c15 : OkS Try.prog 15 (sp1 cSide fun s => .tup [(sayM s).1.p, iv (sayM s).2]) := sp1_ok fun ⟨a, o, se, n, h, hn⟩ => by
  refine PurFn.ofC (S := [(19, _)]) (tbl := []) (n := 24) hm34 (.cons c19 .nil) .nil [] 0 Try.call15 Try.func15 ac15_ok (by rw [Try.ntmps15]; exact Nat.le_refl _) rfl ?_
  intro Φ Ω κ ν ι mx dr dn ap ad ml ln dl sc px nth put cp mn rep repP an Q hQ; intros
  generalize hg0 : checkM = g0
  cbv
  subst_vars
  simp only [cmpR, mxR, arR, BR_dec, BR_true, BR_false, FIN_iff]
  try simp only [BR_iff]
  repeat' (first | refine And.intro ?_ ?_ | intro _)
  all_goals (refine hQ _ (leafC ?_); clear hQ; simp only [sayM, zeroC] <;> ((repeat' split) <;> first | rfl | (simp_all; done) | grind))

theorem c17 : OkS Try.prog 17 (sp2 cI cI fun a o => .tup [(newM a o).1.p, iv (newM a o).2]) := sp2_ok fun a o => by
  refine PurFn.ofC (S := [(19, _)]) (tbl := []) (n := 18) hm34 (.cons c19 .nil) .nil [] 0 Try.call17 Try.func17 ac17_ok (by rw [Try.ntmps17]; exact Nat.le_refl _) rfl ?_
  intro Φ Ω κ ν ι mx dr dn ap ad ml ln dl sc px nth put cp mn rep repP an Q hQ; intros
  generalize hg0 : checkM = g0
  cbv
  subst_vars
  simp only [cmpR, mxR, arR, BR_dec, BR_true, BR_false, FIN_iff]
  try simp only [BR_iff]
  repeat' (first | refine And.intro ?_ ?_ | intro _)
  all_goals (refine hQ _ (leafS ?_); clear hQ; simp only [newM, zeroS] <;> ((repeat' split) <;> first | rfl | (simp_all; done) | grind))

theorem c25 : OkS Try.prog 25 (sp2 cSide cSide fun a b => bv (safeM a b)) := sp2_ok fun ⟨a, o, se, n, h, hn⟩ ⟨a', o', se', n', h', hn'⟩ => by
  refine PurFn.ofC (S := [(50, _)]) (tbl := []) (n := 11) hm34 (.cons c50 .nil) .nil [] 0 Try.call25 Try.func25 ac25_ok (by rw [Try.ntmps25]; exact Nat.le_refl _) rfl ?_
  intro Φ Ω κ ν ι mx dr dn ap ad ml ln dl sc px nth put cp mn rep repP an Q hQ; intros
  generalize hg0 : likeM = g0
  cbv
  subst_vars
  simp only [cmpR, mxR, arR, BR_dec, BR_true, BR_false, FIN_iff]
  try simp only [BR_iff]
  repeat' (first | refine And.intro ?_ ?_ | intro _)
  all_goals (refine hQ _ (leafB ?_); clear hQ; simp only [safeM] <;> (grind))

theorem c26 : OkS Try.prog 26 (sp2 cSide cSide fun a b => bv (agreedM a b)) := sp2_ok fun ⟨a, o, se, n, h, hn⟩ ⟨a', o', se', n', h', hn'⟩ => by
  refine PurFn.ofC (S := []) (tbl := []) (n := 17) hm34 .nil .nil [] 0 Try.call26 Try.func26 ac26_ok (by rw [Try.ntmps26]; exact Nat.le_refl _) rfl ?_
  intro Φ Ω κ ν ι mx dr dn ap ad ml ln dl sc px nth put cp mn rep repP an Q hQ; intros
  cbv
  subst_vars
  simp only [cmpR, mxR, arR, BR_dec, BR_true, BR_false, FIN_iff]
  try simp only [BR_iff]
  repeat' (first | refine And.intro ?_ ?_ | intro _)
  all_goals (refine hQ _ (leafB ?_); clear hQ; simp only [agreedM] <;> (grind))

/-! ### The reference's functions -/
theorem checkM_ne {s : Side} (h : checkM s = 0) : s.a ≠ s.o := by
  unfold checkM at h
  repeat' split at h
  all_goals omega
theorem check0 (a o : Int) : checkM ⟨a, o, 0, 0, 0, 0⟩ = if pairM a o = true then 0 else 1 := by
  simp only [checkM, pairM, decide_eq_true_eq]
  repeat' split
  all_goals omega
theorem new_alt (a o : Int) : newM a o = if pairM a o = true then (⟨a, o, 0, 0, 0, 0⟩, 0) else (zeroS, 1) := by
  simp only [newM, check0]
  by_cases h : pairM a o = true <;> simp [h]
theorem choose_alt (s : Side) (w : Int) : chooseM s w = if checkM s ≠ 0 then (zeroS, checkM s) else if w > 2 then (zeroS, 6) else if s.a > s.o ∧ likeM w s.h = true then takeM s (oppM w) else takeM s w := by
  unfold chooseM yieldM
  by_cases h : checkM s = 0
  · have := checkM_ne h
    by_cases h1 : s.a < s.o
    · simp [h, h1, show ¬ s.o < s.a by omega]
    · simp only [h, h1, show s.o < s.a by omega, ne_eq, not_true, not_false_eq_true, if_false, true_and, gt_iff_lt]
      by_cases h2 : likeM w s.h = true <;> simp [h2]
  · simp [h]
theorem hear_alt (s : Side) (c : Chc) : hearM s c = if checkM s ≠ 0 then (zeroS, checkM s) else if lcheckM c ≠ 0 then (zeroS, lcheckM c)
  else if c.a ≠ s.o ∨ c.t ≠ s.a then (zeroS, 16) else if c.n ≤ s.hn then (s, 0)
  else if s.a > s.o ∧ likeM s.se c.se = true then takeM ⟨s.a, s.o, s.se, s.n, c.se, c.n⟩ (oppM c.se) else (⟨s.a, s.o, s.se, s.n, c.se, c.n⟩, 0) := by
  unfold hearM yieldM
  by_cases h : checkM s = 0
  · have := checkM_ne h
    by_cases h1 : s.a < s.o
    · simp [h, h1, show ¬ s.o < s.a by omega, takeM]
    · simp only [h, h1, show s.o < s.a by omega, ne_eq, not_true, not_false_eq_true, if_false, true_and, gt_iff_lt]
      by_cases h2 : likeM s.se c.se = true
      · have h3 : s.se = c.se := by simp only [likeM, decide_eq_true_eq] at h2; exact h2.2
        simp only [h3, h2, if_true] at h2 ⊢
        simp [h2]
      · simp [h2, takeM]
  · simp [h]

theorem c38 : OkS Try.prog 38 (sp2 cI cI fun a o => bv (pairM a o)) := sp2_ok fun a o => by
  refine PurFn.ofC (S := []) (tbl := []) (n := 24) hm34 .nil .nil [] 0 Try.call38 Try.func38 ac38_ok (by rw [Try.ntmps38]; exact Nat.le_refl _) rfl ?_
  intro Φ Ω κ ν ι mx dr dn ap ad ml ln dl sc px nth put cp mn rep repP an Q hQ; intros
  cbv
  subst_vars
  simp only [cmpR, mxR, arR, BR_dec, BR_true, BR_false, FIN_iff]
  try simp only [BR_iff]
  repeat' (first | refine And.intro ?_ ?_ | intro _)
  all_goals (refine hQ _ (leafB ?_); clear hQ; simp only [pairM] <;> (grind))

theorem c33 : OkS Try.prog 33 (sp2 cU cU fun n m => bv (likeM n m)) := sp2_ok fun n m => by
  refine PurFn.ofC (S := []) (tbl := []) (n := 12) hm34 .nil .nil [] 0 Try.call33 Try.func33 ac33_ok (by rw [Try.ntmps33]; exact Nat.le_refl _) rfl ?_
  intro Φ Ω κ ν ι mx dr dn ap ad ml ln dl sc px nth put cp mn rep repP an Q hQ; intros
  cbv
  subst_vars
  simp only [cmpR, mxR, arR, BR_dec, BR_true, BR_false, FIN_iff]
  try simp only [BR_iff]
  repeat' (first | refine And.intro ?_ ?_ | intro _)
  all_goals (refine hQ _ (leafB ?_); clear hQ; simp only [likeM] <;> (grind))

theorem c35 : OkS Try.prog 35 (sp1 cU fun a => uv (oppM a)) := sp1_ok fun a => by
  refine PurFn.ofC (S := []) (tbl := []) (n := 5) hm34 .nil .nil [] 0 Try.call35 Try.func35 ac35_ok (by rw [Try.ntmps35]; exact Nat.le_refl _) rfl ?_
  intro Φ Ω κ ν ι mx dr dn ap ad ml ln dl sc px nth put cp mn rep repP an Q hQ; intros
  cbv
  subst_vars
  simp only [cmpR, mxR, arR, BR_dec, BR_true, BR_false, FIN_iff]
  try simp only [BR_iff]
  repeat' (first | refine And.intro ?_ ?_ | intro _)
  all_goals (refine hQ _ (leafI ?_); clear hQ; simp only [oppM] <;> (grind))

theorem c37 : OkS Try.prog 37 (sp1 cChc fun c => iv (lcheckM c)) := sp1_ok fun ⟨a, t, se, n⟩ => by
  refine PurFn.ofC (S := []) (tbl := []) (n := 39) hm34 .nil .nil [] 0 Try.call37 Try.func37 ac37_ok (by rw [Try.ntmps37]; exact Nat.le_refl _) rfl ?_
  intro Φ Ω κ ν ι mx dr dn ap ad ml ln dl sc px nth put cp mn rep repP an Q hQ; intros
  cbv
  subst_vars
  simp only [cmpR, mxR, arR, BR_dec, BR_true, BR_false, FIN_iff]
  try simp only [BR_iff]
  repeat' (first | refine And.intro ?_ ?_ | intro _)
  all_goals (refine hQ _ (leafI ?_); clear hQ; simp only [lcheckM] <;> (grind))

theorem c20 : OkS Try.prog 20 (sp1 cSide fun s => iv (checkM s)) := sp1_ok fun ⟨a, o, se, n, h, hn⟩ => by
  refine PurFn.ofC (S := [(38, _)]) (tbl := []) (n := 53) hm34 (.cons c38 .nil) .nil [] 0 Try.call20 Try.func20 ac20_ok (by rw [Try.ntmps20]; exact Nat.le_refl _) rfl ?_
  intro Φ Ω κ ν ι mx dr dn ap ad ml ln dl sc px nth put cp mn rep repP an Q hQ; intros
  generalize hg0 : pairM = g0
  cbv
  subst_vars
  simp only [cmpR, mxR, arR, BR_dec, BR_true, BR_false, FIN_iff, pairM]
  try simp only [BR_iff]
  repeat' (first | refine And.intro ?_ ?_ | intro _)
  all_goals (refine hQ _ (leafI ?_); clear hQ; simp only [checkM] <;> (grind))

theorem c34 : OkS Try.prog 34 (sp2 cSide cU fun s se => .tup [(takeM s se).1.p, iv (takeM s se).2]) := sp2_ok fun ⟨a, o, se, n, h, hn⟩ w => by
  refine PurFn.ofC (S := []) (tbl := []) (n := 22) hm34 .nil .nil [] 0 Try.call34 Try.func34 ac34_ok (by rw [Try.ntmps34]; exact Nat.le_refl _) rfl ?_
  intro Φ Ω κ ν ι mx dr dn ap ad ml ln dl sc px nth put cp mn rep repP an Q hQ; intros
  cbv
  subst_vars
  simp only [cmpR, mxR, arR, BR_dec, BR_true, BR_false, FIN_iff]
  try simp only [BR_iff]
  repeat' (first | refine And.intro ?_ ?_ | intro _)
  all_goals (refine hQ _ (leafS ?_); clear hQ; simp only [takeM, zeroS] <;> ((repeat' split) <;> first | rfl | (simp_all; done) | grind))

theorem c18 : OkS Try.prog 18 (sp2 cI cI fun a o => .tup [(newM a o).1.p, iv (newM a o).2]) := sp2_ok fun a o => by
  refine PurFn.ofC (S := [(38, _)]) (tbl := []) (n := 14) hm34 (.cons c38 .nil) .nil [] 0 Try.call18 Try.func18 ac18_ok (by rw [Try.ntmps18]; exact Nat.le_refl _) rfl ?_
  intro Φ Ω κ ν ι mx dr dn ap ad ml ln dl sc px nth put cp mn rep repP an Q hQ; intros
  generalize hg0 : pairM = g0
  cbv
  subst_vars
  simp only [cmpR, mxR, arR, BR_dec, BR_true, BR_false, FIN_iff]
  try simp only [BR_iff]
  repeat' (first | refine And.intro ?_ ?_ | intro _)
  all_goals (refine hQ _ (leafS ?_); clear hQ; simp only [new_alt, zeroS] <;> ((repeat' split) <;> first | rfl | (simp_all; done) | grind))

theorem c16 : OkS Try.prog 16 (sp1 cSide fun s => .tup [(sayM s).1.p, iv (sayM s).2]) := sp1_ok fun ⟨a, o, se, n, h, hn⟩ => by
  refine PurFn.ofC (S := [(20, _)]) (tbl := []) (n := 24) hm34 (.cons c20 .nil) .nil [] 0 Try.call16 Try.func16 ac16_ok (by rw [Try.ntmps16]; exact Nat.le_refl _) rfl ?_
  intro Φ Ω κ ν ι mx dr dn ap ad ml ln dl sc px nth put cp mn rep repP an Q hQ; intros
  generalize hg0 : checkM = g0
  cbv
  subst_vars
  simp only [cmpR, mxR, arR, BR_dec, BR_true, BR_false, FIN_iff]
  try simp only [BR_iff]
  repeat' (first | refine And.intro ?_ ?_ | intro _)
  all_goals (refine hQ _ (leafC ?_); clear hQ; simp only [sayM, zeroC] <;> ((repeat' split) <;> first | rfl | (simp_all; done) | grind))

theorem c12 : OkS Try.prog 12 (sp2 cSide cU fun s w => .tup [(chooseM s w).1.p, iv (chooseM s w).2]) := sp2_ok fun ⟨a, o, se, n, h, hn⟩ w => by
  refine PurFn.ofC (S := [(20, _), (33, _), (35, _), (34, _)]) (tbl := []) (n := 38) hm34 (.cons c20 (.cons c33 (.cons c35 (.cons c34 .nil)))) .nil [] 0 Try.call12 Try.func12 ac12_ok (by rw [Try.ntmps12]; exact Nat.le_refl _) rfl ?_
  intro Φ Ω κ ν ι mx dr dn ap ad ml ln dl sc px nth put cp mn rep repP an Q hQ; intros
  generalize hg0 : checkM = g0
  generalize hg1 : likeM = g1
  generalize hg2 : oppM = g2
  generalize hg3 : takeM = g3
  cbv
  subst_vars
  simp only [cmpR, mxR, arR, BR_dec, BR_true, BR_false, FIN_iff]
  try simp only [BR_iff]
  repeat' (first | refine And.intro ?_ ?_ | intro _)
  all_goals (refine hQ _ (leafS ?_); clear hQ; simp only [choose_alt, zeroS] <;> ((repeat' split) <;> first | rfl | (simp_all; done) | grind))

theorem c14 : OkS Try.prog 14 (sp2 cSide cChc fun s c => .tup [(hearM s c).1.p, iv (hearM s c).2]) := sp2_ok fun ⟨a, o, se, n, h, hn⟩ ⟨ca, ct, cse, cn⟩ => by
  refine PurFn.ofC (S := [(20, _), (37, _), (33, _), (35, _), (34, _)]) (tbl := []) (n := 65) hm34 (.cons c20 (.cons c37 (.cons c33 (.cons c35 (.cons c34 .nil))))) .nil [] 0 Try.call14 Try.func14 ac14_ok (by rw [Try.ntmps14]; exact Nat.le_refl _) rfl ?_
  intro Φ Ω κ ν ι mx dr dn ap ad ml ln dl sc px nth put cp mn rep repP an Q hQ; intros
  generalize hg0 : checkM = g0
  generalize hg1 : lcheckM = g1
  generalize hg2 : likeM = g2
  generalize hg3 : oppM = g3
  generalize hg4 : takeM = g4
  cbv
  subst_vars
  simp only [cmpR, mxR, arR, BR_dec, BR_true, BR_false, FIN_iff]
  try simp only [BR_iff]
  repeat' (first | refine And.intro ?_ ?_ | intro _)
  all_goals (refine hQ _ (leafS ?_); clear hQ; simp only [hear_alt, zeroS] <;> ((repeat' split) <;> first | rfl | (simp_all; done) | grind))
end Go.Ab

