/- Abstract values and states for the functions of a translated program, and preconditions over them: evaluation with symbols, laws over typed data. What is proved holds for every program, without conditions. -/
import Derived.Test.YteiolnofaebknaaAbC
import Derived.WalkKit
import Derived.ProofKit
import Derived.OpenShut
import Derived.ReadAgain
/- The abstract layer: preconditions for evaluation with symbols. All arithmetic is by operations that are handed in; comparisons split at once. -/
namespace Go.Ab
open Go.RowKit

structure Ops where
  cmp : BinOp → Int → Int → Bool
  ar : BinOp → IntKind → Int → Int → Int
  cv : IntKind → Int → Int
  tn : Int → Nat
  ic : Nat → Int
  mx : Bool → Int → Int → Int
  dr : List PD → Int → Nat → List PD
  dn : List PD → Nat → List PD
  ap : List PD → List PD → List PD
  ad : Nat → Nat → Nat
  ml : Nat → Nat → Nat
  ln : List PD → Nat
  dl : Int → Int → Nat
  sc : List PD → Int → Int → Nat → List PD
  px : Nat → Int → Nat → Nat
  nth : List D → Nat → Option D
  put : List D → Nat → List D → List D
  cp : List D → Nat → List PD → Nat → Nat → Nat → List D
  mn : Nat → Nat → Nat
  rep : Int → List D → List D
  repP : Int → List PD → List PD
  an : Bool → Bool → Bool

def cmpR (op : BinOp) (a b : Int) : Bool := match op with
  | .eql => decide (a = b)
  | .neq => decide (a ≠ b)
  | .lss => decide (a < b)
  | .leq => decide (a ≤ b)
  | .gtr => decide (a > b)
  | .geq => decide (a ≥ b)
  | _ => false
def arR (op : BinOp) (k : IntKind) (a b : Int) : Int := match op with
  | .add => k.wrap (a + b)
  | .sub => k.wrap (a - b)
  | .mul => k.wrap (a * b)
  | .quo => k.wrap (a.tdiv b)
  | .rem => a.tmod b
  | .and => k.wrap (BitVec.ofInt k.bits a &&& BitVec.ofInt k.bits b).toNat
  | .or => k.wrap (BitVec.ofInt k.bits a ||| BitVec.ofInt k.bits b).toNat
  | .xor => k.wrap (BitVec.ofInt k.bits a ^^^ BitVec.ofInt k.bits b).toNat
  | .andNot => k.wrap (BitVec.ofInt k.bits a &&& ~~~(BitVec.ofInt k.bits b)).toNat
  | .shl => k.wrap (a * 2 ^ (min b.toNat k.bits))
  | .shr => a.fdiv (2 ^ (min b.toNat k.bits))
  | _ => 0
def mxR (mx : Bool) (a b : Int) : Int := if mx then (if b > a then b else a) else (if b < a then b else a)

def Ops.real : Ops where
  cmp := cmpR
  ar := arR
  cv k n := k.wrap n
  tn := Int.toNat
  ic n := n
  mx := mxR
  dr cells k size := cells.drop (k.toNat * size)
  dn cells n := cells.drop n
  ap a b := a ++ b
  ad a b := a + b
  ml a b := a * b
  ln := List.length
  dl a b := b.toNat - a.toNat
  sc cells a b size := (cells.take (b.toNat * size)).drop (a.toNat * size)
  px off k size := off + k.toNat * size
  nth cells off := cells[off]?
  put := putCells
  cp cells off src k _ size := putCells cells off ((src.take (k * size)).map .p)
  mn a b := min a b
  rep n z := (List.replicate n.toNat z).flatten
  repP n z := (List.replicate n.toNat z).flatten
  an a b := a && b

/-! ### What is left over -/
structure BR (b : Bool) (A B : Prop) : Prop where
  t : b = true → A
  f : b = false → B
structure INB (k n : Int) : Prop where
  lo : 0 ≤ k
  hi : k < n
structure SLB (a b n : Int) : Prop where
  lo : 0 ≤ a
  le : a ≤ b
  hi : b ≤ n
structure NZ (b : Int) : Prop where
  h : b ≠ 0
structure NN (b : Int) : Prop where
  h : 0 ≤ b
structure EQN (a b : Nat) : Prop where
  h : a = b
structure LIM (m bytes : Nat) : Prop where
  b : m * bytes ≤ 140737488355328
  l : m ≤ maxLen
structure MK (n m : Int) (bytes : Nat) : Prop where
  lo : 0 ≤ n
  le : n ≤ m
  b : m * bytes ≤ 281474976710656
  l : m ≤ maxLen
structure PUTOK (cells : List D) (off size : Nat) : Prop where
  h : off + size ≤ cells.length
structure LD (cells : List PD) (f : PD → Prop) : Prop where
  h : ∃ c, cells[0]? = some c ∧ f c
structure LDA (size : Nat) (cells : List PD) (f : List PD → Prop) : Prop where
  l : size ≤ cells.length
  h : f (cells.take size)
structure SPX (k : Int) (f : Nat → Prop) : Prop where
  h : ∀ m : Nat, k = m → f m
structure NEW (n : Nat) (A B : Prop) : Prop where
  z : n = 0 → A
  s : n ≠ 0 → B
/-- What comes out; where a loop goes on. -/
structure FIN (Q : D → Prop) (d : D) : Prop where
  h : Q d
structure NEXT (X : Env → St → Prop) (ρ : Env) (st : St) : Prop where
  h : X ρ st
def LoopC (body : (Ax → Env → St → Prop) → Env → St → Prop) (keep : List Nat) (Q : Ax → Env → St → Prop) : Nat → Env → St → Prop
  | 0, _, _ => False
  | k + 1, ρ, st => body (Ax.thn (fun ρ' st' => NEXT (LoopC body keep Q k) (ρ'.keep keep) st') Q) ρ st
structure LOOP (body : (Ax → Env → St → Prop) → Env → St → Prop) (keep : List Nat) (Q : Ax → Env → St → Prop) (ρ : Env) (st : St) : Prop where
  h : ∃ k, LoopC body keep Q k ρ st
theorem LoopC_call {body body' : (Ax → Env → St → Prop) → Env → St → Prop} (hb : ∀ (Q Q' : Ax → Env → St → Prop), (∀ x ρ st, Q x ρ st → Q' x ρ st) → ∀ ρ st, body Q ρ st → body' Q' ρ st) {keep : List Nat} {Q Q' : Ax → Env → St → Prop}
    (hQ : ∀ x ρ st, Q x ρ st → Q' x ρ st) : ∀ (k : Nat) ρ st, LoopC body keep Q k ρ st → LoopN body' keep Q' k ρ st
  | 0, _, _, h => h.elim
  | k + 1, ρ, st, h => hb _ _ (thn_mono (fun _ _ h => LoopC_call hb hQ k _ _ h.h) hQ) _ _ h

def nthD {α : Type} : List α → Nat → Option α
  | [], _ => none
  | x :: _, 0 => some x
  | _ :: r, n + 1 => nthD r n
theorem nthD_eq {α : Type} : ∀ (l : List α) (n : Nat), nthD l n = l[n]?
  | [], _ => by simp [nthD]
  | _ :: _, 0 => rfl
  | _ :: r, n + 1 => by simp [nthD, nthD_eq r n]
def takeD {α : Type} : List α → Nat → Option (List α)
  | _, 0 => some []
  | [], _ + 1 => none
  | x :: r, n + 1 => match takeD r n with | some l => some (x :: l) | none => none
theorem takeD_eq {α : Type} : ∀ (l : List α) (n : Nat) (r : List α), takeD l n = some r → n ≤ l.length ∧ r = l.take n
  | _, 0, r, h => by simp [takeD] at h; subst h; simp
  | [], _ + 1, r, h => by simp [takeD] at h
  | x :: l, n + 1, r, h => by
    simp only [takeD] at h
    split at h
    · rename_i l' hl
      obtain ⟨h1, h2⟩ := takeD_eq l n _ hl
      simp only [Option.some.injEq] at h
      subst h
      exact ⟨by simp; omega, by simp [h2]⟩
    · cases h
def dropD {α : Type} : List α → Nat → List α
  | l, 0 => l
  | [], _ + 1 => []
  | _ :: r, n + 1 => dropD r n
theorem dropD_eq {α : Type} : ∀ (l : List α) (n : Nat), dropD l n = l.drop n
  | _, 0 => by simp [dropD]
  | [], _ + 1 => by simp [dropD]
  | _ :: r, n + 1 => by simp [dropD, dropD_eq r n]
def fitsD {α : Type} (l : List α) (n : Nat) : Bool := match takeD l n with | some _ => true | none => false
theorem fitsD_eq {α : Type} (l : List α) (n : Nat) (h : fitsD l n = true) : n ≤ l.length := by
  unfold fitsD at h
  split at h
  · rename_i r hr; exact (takeD_eq l n r hr).1
  · cases h
theorem take_drop_le {α : Type} {l : List α} {off n : Nat} {r : List α} (h : takeD (dropD l off) n = some r) (h0 : 0 < n) : off + n ≤ l.length ∧ r = (l.drop off).take n := by
  obtain ⟨h1, h2⟩ := takeD_eq _ _ _ h
  rw [dropD_eq] at h1 h2
  simp at h1
  exact ⟨by omega, h2⟩

def eqC (o : Ops) : List Bool → List PD → List PD → Option Bool
  | [], [], [] => some true
  | false :: ks, .v (.int k a) :: xs, .v (.int k' b) :: ys => match eqC o ks xs ys with | some r => if k = k' then some (o.an (o.cmp .eql a b) r) else none | none => none
  | true :: ks, .v (.bool a) :: xs, .v (.bool b) :: ys => match eqC o ks xs ys with | some r => some (o.an (a == b) r) | none => none
  | _, _, _ => none

def cBin (o : Ops) (op : BinOp) (x y : Value) (K : Value → Prop) : Prop :=
  match x, y with
  | .int k a, .int k' b =>
    match op with
    | .add => k = k' ∧ K (.int k (o.ar .add k a b))
    | .sub => k = k' ∧ K (.int k (o.ar .sub k a b))
    | .mul => k = k' ∧ K (.int k (o.ar .mul k a b))
    | .quo => k = k' ∧ NZ b ∧ K (.int k (o.ar .quo k a b))
    | .rem => k = k' ∧ NZ b ∧ K (.int k (o.ar .rem k a b))
    | .and => k = k' ∧ K (.int k (o.ar .and k a b))
    | .or => k = k' ∧ K (.int k (o.ar .or k a b))
    | .xor => k = k' ∧ K (.int k (o.ar .xor k a b))
    | .andNot => k = k' ∧ K (.int k (o.ar .andNot k a b))
    | .shl => NN b ∧ K (.int k (o.ar .shl k a b))
    | .shr => NN b ∧ K (.int k (o.ar .shr k a b))
    | .eql => k = k' ∧ BR (o.cmp .eql a b) (K (.bool true)) (K (.bool false))
    | .neq => k = k' ∧ BR (o.cmp .neq a b) (K (.bool true)) (K (.bool false))
    | .lss => k = k' ∧ BR (o.cmp .lss a b) (K (.bool true)) (K (.bool false))
    | .leq => k = k' ∧ BR (o.cmp .leq a b) (K (.bool true)) (K (.bool false))
    | .gtr => k = k' ∧ BR (o.cmp .gtr a b) (K (.bool true)) (K (.bool false))
    | .geq => k = k' ∧ BR (o.cmp .geq a b) (K (.bool true)) (K (.bool false))
  | _, _ => False

def litOf : Operand → Option Nat
  | .const (.int _ n) => some n.toNat
  | _ => none
def elemB : List Nat → Nat → Bool
  | [], _ => false
  | x :: l, j => if x = j then true else elemB l j
/-- Is the block's content given by symbols? -/
def symB (sy : List Nat) (st : St) (b : Nat) : Bool := match nthD st.box b with | some B => elemB sy B.e | none => false

def ptrK (o : Ops) (sy : List Nat) (st : St) (K : D → St → Prop) (b off : Nat) (i : Operand) (k : Int) (size : Nat) : Prop :=
  match litOf i with
  | some m => K (.ptr b (off + m * size)) st
  | none => match symB sy st b with
    | true => K (.ptr b (o.px off k size)) st
    | false => SPX k fun m => K (.ptr b (off + m * size)) st

def wpOpC (o : Ops) (sy : List Nat) (C : CallW) (ρ : Env) (st : St) (K : D → St → Prop) : AOp → Prop
  | .mv x => K (ev ρ x) st
  | .pick c a b => match ev ρ c with | .p (.v (.bool t)) => (match t with | true => K (ev ρ a) st | false => K (ev ρ b) st) | _ => False
  | .bin op x y => match ev ρ x, ev ρ y with
    | .p (.v a), .p (.v b) => cBin o op a b fun r => K (.p (.v r)) st
    | _, _ => False
  | .binB neg x y => match ev ρ x, ev ρ y with
    | .p (.v (.bool a)), .p (.v (.bool b)) => K (.p (.v (.bool ((a == b) ^^ neg)))) st
    | _, _ => False
  | .eqA ks neg x y => match toP (ev ρ x), toP (ev ρ y) with
    | some (.agg xs), some (.agg ys) => (match eqC o ks xs ys with
      | some b => BR b (K (.p (.v (.bool (!neg)))) st) (K (.p (.v (.bool neg))) st)
      | none => False)
    | _, _ => False
  | .eqN neg x y => match ev ρ x, ev ρ y with
    | .p (.sl (some nl) _ _), .p (.sl (some true) _ _) => BR nl (K (.p (.v (.bool (!neg)))) st) (K (.p (.v (.bool neg))) st)
    | .grp _ _ _, .p (.sl (some true) _ _) => K (.p (.v (.bool neg))) st
    | .ms _ _ _, .p (.sl (some true) _ _) => K (.p (.v (.bool neg))) st
    | _, _ => False
  | .eqP neg x y => match ev ρ x, ev ρ y with
    | .ptr _ _, .p (.v (.pointer none)) => K (.p (.v (.bool neg))) st
    | .el _, .p (.v (.pointer none)) => K (.p (.v (.bool neg))) st
    | .p (.v (.pointer none)), .p (.v (.pointer none)) => K (.p (.v (.bool (!neg)))) st
    | _, _ => False
  | .un op x => match op, ev ρ x with
    | .not, .p (.v (.bool b)) => K (.p (.v (.bool (!b)))) st
    | .neg, .p (.v (.int k n)) => K (.p (.v (.int k (o.ar .sub k 0 n)))) st
    | _, _ => False
  | .conv k x => match ev ρ x with | .p (.v (.int _ n)) => K (.p (.v (.int k (o.cv k n)))) st | _ => False
  | .len x => match ev ρ x with
    | .p (.sl _ n _) => K (.p (.v (.int .i64 (o.ic n)))) st
    | .grp _ n _ => K (.p (.v (.int .i64 (o.ic n)))) st
    | .ms _ _ n => K (.p (.v (.int .i64 (o.ic n)))) st
    | _ => False
  | .idx size x i => match ev ρ x, ev ρ i with
    | .p (.sl _ n cells), .p (.v (.int _ k)) => INB k (o.ic n) ∧ K (.el (o.dr cells k size)) st
    | .grp _ n cells, .p (.v (.int _ k)) => INB k (o.ic n) ∧ K (.el (o.dr cells k size)) st
    | .ms b off n, .p (.v (.int _ k)) => INB k (o.ic n) ∧ ptrK o sy st K b off i k size
    | _, _ => False
  | .idxA len size x i => match ev ρ x, ev ρ i with
    | .ptr b off, .p (.v (.int _ k)) => INB k (o.ic len) ∧ ptrK o sy st K b off i k size
    | .el cells, .p (.v (.int _ k)) => INB k (o.ic len) ∧ K (.el (o.dr cells k size)) st
    | _, _ => False
  | .load x => match ev ρ x with
    | .el cells => LD cells fun c => K (.p c) st
    | .ptr b off => (match nthD st.box b with
      | some B => B.fz = false ∧ (match elemB sy B.e with
        | true => (match o.nth B.cells off with | some d => K d st | none => False)
        | false => (match nthD B.cells off with | some d => K d st | none => False))
      | none => False)
    | _ => False
  | .loadA size x => match ev ρ x with
    | .el cells => LDA size cells fun l => K (.p (.agg l)) st
    | .ptr b off => (match nthD st.box b with
      | some B => B.fz = false ∧ (match size with
        | 0 => False
        | s + 1 => (match takeD (dropD B.cells off) (s + 1) with | some l => K (mkAgg l) st | none => False))
      | none => False)
    | _ => False
  | .store size a x => match ev ρ a with
    | .ptr b off => (match nthD st.box b with
      | some B => B.fz = false ∧ (cellsD (ev ρ x)).length = size ∧ (cellsD (ev ρ x)).all oneD = true ∧ (match elemB sy B.e with
        | true => PUTOK B.cells off size ∧ K (.p (.v undef)) { st with box := st.box.set b { B with cells := o.put B.cells off (cellsD (ev ρ x)) } }
        | false => fitsD B.cells (off + size) = true ∧ K (.p (.v undef)) { st with box := st.box.set b { B with cells := putCells B.cells off (cellsD (ev ρ x)) } })
      | none => False)
    | _ => False
  | .alloc e zero => K (.ptr st.box.length 0) { st with box := st.box ++ [{ cells := zero, e := e, fz := false }] }
  | .box e x => (cellsD (ev ρ x)).all oneD = true ∧ K (.ptr st.box.length 0) { st with box := st.box ++ [{ cells := cellsD (ev ρ x), e := e, fz := false }] }
  | .build zero parts => (match fillD zero (parts.map fun q => (q.1, q.2.1, ev ρ q.2.2)) with | some cs => K (mkAgg cs) st | none => False)
  | .bslice own e n _ zero parts => (match (fillD ((List.replicate n zero).flatten) (parts.map fun q => (q.1, q.2.1, ev ρ q.2.2))).bind allP with
    | some cs => (match own with | true => K (.grp st.grp.length n cs) { st with grp := st.grp ++ [(o.ln cs, e)] } | false => K (.p (.sl (some false) n cs)) st)
    | none => False)
  | .append e size bytes s x => match toP (ev ρ x) with
    | some (.sl _ m new) => EQN (o.ln new) (o.ml m size) ∧ (match ev ρ s with
      | .p (.sl (some true) _ _) => LIM m bytes ∧ NEW m (K (.p (.sl (some true) 0 [])) st) (K (.grp st.grp.length m new) { st with grp := st.grp ++ [(o.ln new, e)] })
      | .grp g n cells => (match nthD st.grp g with
        | some (l, e') => EQN l (o.ln cells) ∧ e' = e ∧ EQN (o.ln cells) (o.ml n size) ∧ LIM (o.ad n m) bytes ∧ K (.grp g (o.ad n m) (o.ap cells new)) { st with grp := st.grp.set g (o.ln (o.ap cells new), e) }
        | none => False)
      | .ms b off n => (match nthD st.box b with
        | some B => off = 0 ∧ B.fz = false ∧ B.ap = true ∧ B.e = e ∧ fitsD B.cells (n * size) = true ∧ LIM (n + m) bytes ∧
            NEW m (K (.ms b 0 n) st) (K (.ms st.box.length 0 (n + m))
              { st with box := st.box.set b { B with cells := [], fz := true } ++ [{ cells := B.cells.take (n * size) ++ new.map .p, e := e, fz := false, ap := true }] })
        | none => False)
      | _ => False)
    | _ => False
  | .mslice e size bytes zero l c => match ev ρ l, ev ρ c with
    | .p (.v (.int _ n)), .p (.v (.int _ m)) => MK n m bytes ∧ (match elemB sy e with
      | true => K (.ms st.box.length 0 (o.tn n)) { st with box := st.box ++ [{ cells := o.rep m zero, e := e, fz := false }] }
      | false => (match litOf l, litOf c with
        | some n', some m' => K (.ms st.box.length 0 n') { st with box := st.box ++ [{ cells := (List.replicate m' zero).flatten, e := e, fz := false }] }
        | _, _ => False))
    | _, _ => False
  | .slice size x lo hi => match ev ρ x with
    | .p (.sl nl n cells) => (match lo.map (ev ρ), hi.map (ev ρ) with
      | none, none => K (.p (.sl nl n cells)) st
      | some (.p (.v (.int _ a))), none => SLB a (o.ic n) (o.ic n) ∧ EQN (o.ln cells) (o.ml n size) ∧ K (.p (.sl nl (o.dl a (o.ic n)) (o.sc cells a (o.ic n) size))) st
      | none, some (.p (.v (.int _ b))) => SLB 0 b (o.ic n) ∧ EQN (o.ln cells) (o.ml n size) ∧ K (.p (.sl nl (o.dl 0 b) (o.sc cells 0 b size))) st
      | some (.p (.v (.int _ a))), some (.p (.v (.int _ b))) => SLB a b (o.ic n) ∧ EQN (o.ln cells) (o.ml n size) ∧ K (.p (.sl nl (o.dl a b) (o.sc cells a b size))) st
      | _, _ => False)
    | .grp g n cells => (match lo.map (ev ρ), hi.map (ev ρ) with
      | none, none => K (.grp g n cells) st
      | some (.p (.v (.int _ a))), none => SLB a (o.ic n) (o.ic n) ∧ EQN (o.ln cells) (o.ml n size) ∧ K (.p (.sl (some false) (o.dl a (o.ic n)) (o.sc cells a (o.ic n) size))) st
      | none, some (.p (.v (.int _ b))) => SLB 0 b (o.ic n) ∧ EQN (o.ln cells) (o.ml n size) ∧ K (.p (.sl (some false) (o.dl 0 b) (o.sc cells 0 b size))) st
      | some (.p (.v (.int _ a))), some (.p (.v (.int _ b))) => SLB a b (o.ic n) ∧ EQN (o.ln cells) (o.ml n size) ∧ K (.p (.sl (some false) (o.dl a b) (o.sc cells a b size))) st
      | _, _ => False)
    | .ms b off n => (match lo.map (ev ρ), hi.map (ev ρ) with
      | none, none => K (.ms b off n) st
      | none, some (.p (.v (.int _ k))) => SLB 0 k (o.ic n) ∧ K (.ms b off (o.tn k)) st
      | _, _ => False)
    | _ => False
  | .extract x i => match ev ρ x with
    | .p (.tup ps) => (match nthD ps i with | some p => K (.p p) st | none => False)
    | .tup ds => (match nthD ds i with | some d => K d st | none => False)
    | _ => False
  | .call f args => C f (args.map (ev ρ)) st K
  | .callv x args => match ev ρ x with
    | .fn (.func f) first captured => C f (first ++ args.map (ev ρ) ++ captured) st K
    | _ => False
  | .fieldA off x => match ev ρ x with
    | .ptr b q => (match symB sy st b with | true => K (.ptr b (o.ad q off)) st | false => K (.ptr b (q + off)) st)
    | .el cells => K (.el (o.dn cells off)) st
    | _ => False
  | .field off size x => match ev ρ x with
    | .p (.agg ps) => (match size with
      | none => (match nthD ps off with | some c => K (.p c) st | none => False)
      | some 0 => False
      | some (s + 1) => (match takeD (dropD ps off) (s + 1) with | some l => K (.p (.agg l)) st | none => False))
    | .agg ds => (match size with
      | none => (match nthD ds off with | some c => K c st | none => False)
      | some 0 => False
      | some (s + 1) => (match takeD (dropD ds off) (s + 1) with | some l => K (mkAgg l) st | none => False))
    | _ => False
  | .index len size agg x i => match ev ρ x, ev ρ i with
    | .p (.agg ps), .p (.v (.int _ k)) => INB k (o.ic len) ∧ (match litOf i with
      | some m => (match agg with
        | true => (match size with | 0 => False | s + 1 => (match takeD (dropD ps (m * (s + 1))) (s + 1) with | some l => K (.p (.agg l)) st | none => False))
        | false => (match nthD ps (m * size) with | some c => K (.p c) st | none => False))
      | none => (match agg with
        | true => False
        | false => SPX k fun m => match nthD ps (m * size) with | some c => K (.p c) st | none => False))
    | _, _ => False
  | .nilck x => match ev ρ x with | .ptr b q => K (.ptr b q) st | .el cells => K (.el cells) st | _ => False
  | .mkfn f first captured => K (.fn f (first.map (ev ρ)) (captured.map (ev ρ))) st
  | .minmax mx args => match args.map (ev ρ) with
    | [.p (.v (.int k a)), .p (.v (.int k' b))] => k = k' ∧ K (.p (.v (.int k (o.mx mx a b)))) st
    | _ => False
  | .mkifc t x => K (.ifc t (ev ρ x)) st
  | .bsliceM e n _ zero parts => (match fillD ((List.replicate n zero).flatten) (parts.map fun q => (q.1, q.2.1, ev ρ q.2.2)) with
    | some cs => K (.ms st.box.length 0 n) { st with box := st.box ++ [{ cells := cs, e := e, fz := false, ap := true }] }
    | none => False)
  | .msliceP _ _ bytes zero l c => match ev ρ l, ev ρ c, allP zero with
    | .p (.v (.int _ n)), .p (.v (.int _ m)), some zs => MK n m bytes ∧ K (.p (.sl (some false) (o.tn n) (o.repP n zs))) st
    | _, _, _ => False
  | .sliceA len size x => match ev ρ x with
    | .ptr b off => (match nthD st.box b with
      | some B => B.fz = false ∧ B.ap = false ∧ K (.ms b off len) st
      | none => False)
    | _ => False
  | .copy size d s => match toP (ev ρ s), ev ρ d with
    | some (.sl _ m cells), .ms b off n => (match nthD st.box b with
      | some B => B.fz = false ∧ EQN (o.ln cells) (o.ml m size) ∧ (match elemB sy B.e with
        | true => PUTOK B.cells off (o.ml (o.mn m n) size) ∧ K (.p (.v (.int .i64 (o.ic (o.mn m n))))) { st with box := st.box.set b { B with cells := o.cp B.cells off cells (o.mn m n) n size } }
        | false => False)
      | none => False)
    | _, _ => False
  | .tassert t ok x => match ev ρ x with
    | .ifc u d => u = t ∧ K (match ok with | true => mkTup [d, .p (.v (.bool true))] | false => d) st
    | _ => False
  | .invk tbl x args => match ev ρ x with
    | .ifc t d => (match lookT tbl t with
      | some (f, false) => C f (d :: args.map (ev ρ)) st K
      | some (f, true) => (match d with
        | .ptr b off => (match nthD st.box b with
          | some B => B.fz = false ∧ (match nthD B.cells off with | some d' => C f (d' :: args.map (ev ρ)) st K | none => False)
          | none => False)
        | _ => False)
      | none => False)
    | _ => False
end Go.Ab
/- The abstract layer: evaluation with symbols is sound. -/
namespace Go.Ab
open Go.RowKit

theorem eqC_sound : ∀ {ks : List Bool} {xs ys : List PD} {b : Bool}, eqC Ops.real ks xs ys = some b → psEq ks xs ys = some b
  | [], xs, ys, b, h => by
    cases xs <;> cases ys <;> simp_all [eqC, psEq]
  | k :: ks, [], ys, b, h => by cases k <;> simp [eqC] at h
  | k :: ks, x :: xs, [], b, h => by cases k <;> simp [eqC] at h
  | false :: ks, x :: xs, y :: ys, b, h => by
    unfold eqC at h
    split at h <;> simp only [List.cons.injEq, reduceCtorEq, false_and] at * <;> try (exact absurd h (by simp))
    rename_i h1 h2 h3
    obtain ⟨_, rfl⟩ := h1
    obtain ⟨rfl, rfl⟩ := h2
    obtain ⟨rfl, rfl⟩ := h3
    split at h
    · rename_i r hr
      split at h
      · rename_i hk
        simp only [psEq, sEqK, hk, if_true, eqC_sound hr]
        simp only [Ops.real, cmpR, Option.some.injEq] at h ⊢
        rw [← h]; rfl
      · cases h
    · cases h
  | true :: ks, x :: xs, y :: ys, b, h => by
    unfold eqC at h
    split at h <;> simp only [List.cons.injEq, reduceCtorEq, false_and] at * <;> try (exact absurd h (by simp))
    rename_i h1 h2 h3
    obtain ⟨_, rfl⟩ := h1
    obtain ⟨rfl, rfl⟩ := h2
    obtain ⟨rfl, rfl⟩ := h3
    split at h
    · rename_i r hr
      simp only [psEq, sEqK, eqC_sound hr]
      simp only [Ops.real, Option.some.injEq] at h ⊢
      rw [← h]
    · cases h

theorem BR.real {b : Bool} {K : Value → Prop} (h : BR b (K (.bool true)) (K (.bool false))) : K (.bool b) := by
  cases b
  · exact h.f rfl
  · exact h.t rfl
theorem cBin_sound {op : BinOp} {x y : Value} {K : Value → Prop} (h : cBin Ops.real op x y K) : sBin op x y K := by
  unfold cBin at h
  unfold sBin
  split at h
  · split at h
    case h_12 => exact ⟨h.1, by have := h.2.real; simpa [Ops.real, cmpR, Bool.beq_eq_decide_eq] using this⟩
    case h_13 => exact ⟨h.1, by have := h.2.real; simpa [Ops.real, cmpR, bne, Bool.beq_eq_decide_eq] using this⟩
    case h_14 => exact ⟨h.1, h.2.real⟩
    case h_15 => exact ⟨h.1, h.2.real⟩
    case h_16 => exact ⟨h.1, h.2.real⟩
    case h_17 => exact ⟨h.1, h.2.real⟩
    case h_4 => exact ⟨h.1, h.2.1.h, h.2.2⟩
    case h_5 => exact ⟨h.1, h.2.1.h, h.2.2⟩
    case h_10 => exact ⟨h.1.h, h.2⟩
    case h_11 => exact ⟨h.1.h, h.2⟩
    all_goals exact h
  · exact h.elim

theorem litOf_ev {i : Operand} {m : Nat} {ρ : Env} {k : Int} {kd : IntKind} (h : litOf i = some m) (he : ev ρ i = .p (.v (.int kd k))) : m = k.toNat := by
  unfold litOf at h
  split at h
  · rename_i kd' n
    simp only [Option.some.injEq] at h
    simp only [ev, cstP, D.p.injEq, PD.v.injEq, Value.int.injEq] at he
    rw [← he.2, h]
  · cases h

theorem ptrK_sound {sy : List Nat} {st : St} {K : D → St → Prop} {b off : Nat} {i : Operand} {k : Int} {size : Nat} {ρ : Env} {kd : IntKind} (he : ev ρ i = .p (.v (.int kd k))) (h0 : 0 ≤ k) (h : ptrK Ops.real sy st K b off i k size) : K (.ptr b (off + k.toNat * size)) st := by
  unfold ptrK at h
  split at h
  · rename_i m hm
    rwa [litOf_ev hm he] at h
  · split at h
    · exact h
    · exact h.h k.toNat (by omega)

theorem wpOpC_sound {sy : List Nat} {C : CallW} {ρ : Env} {st : St} {K : D → St → Prop} {op : AOp} (h : wpOpC Ops.real sy C ρ st K op) : wpOp C ρ st K op := by
  cases op <;> simp only [wpOpC, nthD_eq] at h <;> simp only [wpOp]
  case mv => exact h
  case pick =>
    split at h
    · rename_i t ht
      simp only [ht]
      cases t
      · exact ⟨fun h => (Bool.false_ne_true h).elim, fun _ => h⟩
      · exact ⟨fun _ => h, fun h => (Bool.false_ne_true h.symm).elim⟩
    · exact h.elim
  case bin =>
    split at h
    · rename_i h1 h2; simp only [h1, h2]; exact cBin_sound h
    · exact h.elim
  case eqA ks neg x y =>
    split at h
    · rename_i h1 h2
      simp only [h1, h2]
      split at h
      · rename_i b h3
        refine ⟨b, eqC_sound h3, ?_⟩
        cases b
        · simpa using h.f rfl
        · simpa using h.t rfl
      · exact h.elim
    · exact h.elim
  case eqN neg x y =>
    split at h
    · rename_i nl _ _ _ _ h1 h2
      simp only [h1, h2]
      cases nl
      · simpa using h.f rfl
      · simpa using h.t rfl
    · rename_i h1 h2; simp only [h1, h2]; exact h
    · rename_i h1 h2; simp only [h1, h2]; exact h
    · exact h.elim
  case idx =>
    split at h
    · rename_i h1 h2; simp only [h1, h2]; exact ⟨h.1.lo, h.1.hi, h.2⟩
    · rename_i h1 h2; simp only [h1, h2]; exact ⟨h.1.lo, h.1.hi, h.2⟩
    · rename_i h1 h2; simp only [h1, h2]; exact ⟨h.1.lo, h.1.hi, ptrK_sound h2 h.1.lo h.2⟩
    · exact h.elim
  case idxA =>
    split at h
    · rename_i h1 h2; simp only [h1, h2]; exact ⟨h.1.lo, h.1.hi, ptrK_sound h2 h.1.lo h.2⟩
    · rename_i h1 h2; simp only [h1, h2]; exact ⟨h.1.lo, h.1.hi, h.2⟩
    · exact h.elim
  case load =>
    split at h
    · rename_i h1; simp only [h1]; exact h.h
    · rename_i h1; simp only [h1]
      split at h
      · rename_i B hB
        simp only [hB]
        refine ⟨h.1, ?_⟩
        replace h := h.2
        split at h
        · split at h
          · rename_i d hd; exact ⟨d, hd, h⟩
          · exact h.elim
        · split at h
          · rename_i d hd; exact ⟨d, hd, h⟩
          · exact h.elim
      · exact h.elim
    · exact h.elim
  case loadA size x =>
    split at h
    · rename_i h1; simp only [h1]; exact ⟨h.l, h.h⟩
    · rename_i h1; simp only [h1]
      split at h
      · rename_i B hB
        simp only [hB]
        refine ⟨h.1, ?_⟩
        replace h := h.2
        cases size with
        | zero => exact h.elim
        | succ s =>
          simp only at h
          split at h
          · rename_i l hl
            obtain ⟨k1, k2⟩ := take_drop_le hl (Nat.succ_pos _)
            subst k2
            exact ⟨k1, h⟩
          · exact h.elim
      · exact h.elim
    · exact h.elim
  case store =>
    split at h
    · rename_i h1; simp only [h1]
      split at h
      · rename_i B hB
        simp only [hB]
        obtain ⟨q1, q2, q3, h⟩ := h
        split at h
        · exact ⟨q1, q2, h.1.h, q3, h.2⟩
        · exact ⟨q1, q2, fitsD_eq _ _ h.1, q3, h.2⟩
      · exact h.elim
    · exact h.elim
  case bslice own e n size zero parts =>
    split at h
    · rename_i cs h1
      simp only [h1]
      cases own
      · exact h
      · exact h
    · exact h.elim
  case append e size bytes s x =>
    split at h
    · rename_i nl m new h1
      simp only [h1]
      obtain ⟨h0, h⟩ := h
      refine ⟨h0.h, ?_⟩
      split at h
      · rename_i h2
        simp only [h2]
        refine ⟨h.1.b, h.1.l, ?_⟩
        by_cases hm : m = 0
        · rw [if_pos hm]; exact h.2.z hm
        · rw [if_neg hm]; exact h.2.s hm
      · rename_i g n cells h2
        simp only [h2]
        split at h
        · rename_i l e' hg
          obtain ⟨k1, k2, k3, k4, k5⟩ := h
          refine ⟨?_, k3.h, k4.b, k4.l, k5⟩
          rw [hg, k1.h, k2]; rfl
        · exact h.elim
      · rename_i b off n h2
        simp only [h2]
        split at h
        · rename_i B hB
          simp only [hB]
          obtain ⟨k1, k2, k3, k4, k5, k6, k7⟩ := h
          refine ⟨k1, k2, k3, k4, fitsD_eq _ _ k5, k6.b, k6.l, ?_⟩
          by_cases hm : m = 0
          · rw [if_pos hm]; exact k7.z hm
          · rw [if_neg hm]; exact k7.s hm
        · exact h.elim
      · exact h.elim
    · exact h.elim
  case mslice e size bytes zero l c =>
    split at h
    · rename_i n _ m h1 h2
      simp only [h1, h2]
      refine ⟨h.1.lo, h.1.le, h.1.b, h.1.l, ?_⟩
      replace h := h.2
      split at h
      · exact h
      · split at h
        · rename_i n' m' hn hm
          rw [litOf_ev hn h1, litOf_ev hm h2] at h
          exact h
        · exact h.elim
    · exact h.elim
  case slice size x lo hi =>
    split at h
    · rename_i nl n cells h1
      simp only [h1]
      split at h
      · rename_i h2 h3; simp only [h2, h3]; exact h
      · rename_i h2 h3; simp only [h2, h3]
        obtain ⟨k1, k2, k3⟩ := h
        have e := k2.h
        refine ⟨k1.lo, k1.le, e, ?_⟩
        simp only [Ops.real, Int.toNat_natCast] at k3 e
        rwa [List.take_of_length_le (Nat.le_of_eq e)] at k3
      · rename_i h2 h3; simp only [h2, h3]
        obtain ⟨k1, k2, k3⟩ := h
        refine ⟨k1.le, k1.hi, k2.h, ?_⟩
        simpa [Ops.real] using k3
      · rename_i h2 h3; simp only [h2, h3]
        obtain ⟨k1, k2, k3⟩ := h
        exact ⟨k1.lo, k1.le, k1.hi, k2.h, k3⟩
      · exact h.elim
    · rename_i g n cells h1
      simp only [h1]
      split at h
      · rename_i h2 h3; simp only [h2, h3]; exact h
      · rename_i h2 h3; simp only [h2, h3]
        obtain ⟨k1, k2, k3⟩ := h
        have e := k2.h
        refine ⟨k1.lo, k1.le, e, ?_⟩
        simp only [Ops.real, Int.toNat_natCast] at k3 e
        rwa [List.take_of_length_le (Nat.le_of_eq e)] at k3
      · rename_i h2 h3; simp only [h2, h3]
        obtain ⟨k1, k2, k3⟩ := h
        refine ⟨k1.le, k1.hi, k2.h, ?_⟩
        simpa [Ops.real] using k3
      · rename_i h2 h3; simp only [h2, h3]
        obtain ⟨k1, k2, k3⟩ := h
        exact ⟨k1.lo, k1.le, k1.hi, k2.h, k3⟩
      · exact h.elim
    · rename_i b off n h1
      simp only [h1]
      split at h
      · rename_i h2 h3; simp only [h2, h3]; exact h
      · rename_i h2 h3; simp only [h2, h3]
        exact ⟨h.1.le, h.1.hi, h.2⟩
      · exact h.elim
    · exact h.elim
  case fieldA =>
    split at h
    · rename_i h1; simp only [h1]
      split at h
      · exact h
      · exact h
    · rename_i h1; simp only [h1]; exact h
    · exact h.elim
  case field off size x =>
    split at h
    · rename_i h1; simp only [h1]
      split at h
      · split at h
        · rename_i c hc; exact ⟨c, hc, h⟩
        · exact h.elim
      · exact h.elim
      · split at h
        · rename_i l hl
          obtain ⟨k1, k2⟩ := take_drop_le hl (Nat.succ_pos _)
          subst k2
          exact ⟨k1, h⟩
        · exact h.elim
    · rename_i h1; simp only [h1]
      split at h
      · split at h
        · rename_i c hc; exact ⟨c, hc, h⟩
        · exact h.elim
      · exact h.elim
      · split at h
        · rename_i l hl
          obtain ⟨k1, k2⟩ := take_drop_le hl (Nat.succ_pos _)
          subst k2
          exact ⟨k1, h⟩
        · exact h.elim
    · exact h.elim
  case index len size agg x i =>
    split at h
    · rename_i h1 h2; simp only [h1, h2]
      obtain ⟨h0, h⟩ := h
      refine ⟨h0.lo, h0.hi, ?_⟩
      split at h
      · rename_i m hm
        rw [litOf_ev hm h2] at h
        cases agg
        · simp only [Bool.false_eq_true, if_false] at h ⊢
          split at h
          · rename_i c hc; exact ⟨c, hc, h⟩
          · exact h.elim
        · simp only [if_true] at h ⊢
          cases size with
          | zero => exact h.elim
          | succ s =>
            simp only at h
            split at h
            · rename_i l hl
              obtain ⟨k1, k2⟩ := take_drop_le hl (Nat.succ_pos _)
              subst k2
              exact ⟨k1, h⟩
            · exact h.elim
      · cases agg
        · simp only [Bool.false_eq_true, if_false] at h ⊢
          have h := h.h (Int.toNat _) (Int.toNat_of_nonneg h0.lo).symm
          split at h
          · rename_i c hc; exact ⟨c, hc, h⟩
          · exact h.elim
        · exact h.elim
    · exact h.elim
  case msliceP e size bytes zero l c =>
    split at h
    · rename_i n _ m zs h1 h2 h3
      simp only [h1, h2, h3]
      exact ⟨h.1.lo, h.1.le, h.1.b, h.1.l, h.2⟩
    · exact h.elim
  case copy size d s =>
    split at h
    · rename_i nl m cells b off n h1 h2
      simp only [h1, h2]
      split at h
      · rename_i B hB
        simp only [hB]
        obtain ⟨k1, k2, h⟩ := h
        split at h
        · exact ⟨k1, k2.h, h.1.h, h.2⟩
        · exact h.elim
      · exact h.elim
    · exact h.elim
  case tassert t ok x =>
    split at h
    · rename_i u d h1
      simp only [h1]
      refine ⟨h.1, ?_⟩
      cases ok
      · exact h.2
      · exact h.2
    · exact h.elim
  case invk tbl x args =>
    split at h
    · rename_i t d h1
      simp only [h1]
      split at h
      · rename_i f h2
        simp only [h2]; exact h
      · rename_i f h2
        simp only [h2]
        split at h
        · split at h
          · rename_i B hB
            simp only [hB]
            refine ⟨h.1, ?_⟩
            replace h := h.2
            split at h
            · rename_i d' hd
              exact ⟨d', hd, h⟩
            · exact h.elim
          · exact h.elim
        · exact h.elim
      · exact h.elim
    · exact h.elim
  all_goals first | exact h | ((repeat' split at h) <;> first | exact h.elim | (simp only [*] at *; done) | exact h | (simp_all; done) | skip)
end Go.Ab
/- The abstract layer: code and calls, evaluated with symbols. -/
namespace Go.Ab
open Go.RowKit

section
variable (o : Ops) (sy : List Nat)

def wpRC (C : CallW) (K : Env → St → Prop) : List AO → Env → St → Prop
  | [], ρ, st => K ρ st
  | ⟨none, dst, op⟩ :: r, ρ, st => wpOpC o sy C ρ st (fun d st' => wpRC C K r (setD dst d ρ) st') op
  | ⟨some (t, want), dst, op⟩ :: r, ρ, st => match ρ.get t with
    | .p (.v (.bool b)) => (match b == want with
      | true => wpOpC o sy C ((t, boolD want) :: ρ) st (fun d st' => wpRC C K r (setD dst d ((t, boolD want) :: ρ)) st') op
      | false => wpRC C K r (setD dst undefD ((t, boolD (!want)) :: ρ)) st)
    | .p (.v (.tuple _)) => wpRC C K r (setD dst undefD ρ) st
    | _ => False

def touchC (pl : List Nat) (ρ : Env) (op : AOp) : Bool := match touchB ρ op with | some i => !elemB pl i | none => true
theorem elemB_of : ∀ {l : List Nat} {j : Nat}, elemB l j = false → j ∉ l
  | [], _, _ => List.not_mem_nil
  | x :: l, j, h => by
    unfold elemB at h
    split at h
    · cases h
    · rename_i hx
      intro hm
      rcases List.mem_cons.1 hm with rfl | hm
      · exact hx rfl
      · exact elemB_of h hm
theorem touchC_spec {pl : List Nat} {ρ : Env} {op : AOp} (h : touchC pl ρ op = true) : ∀ i, touchB ρ op = some i → i ∉ pl := fun i hi => by
  unfold touchC at h
  rw [hi] at h
  exact elemB_of (by simpa using h)

def wpDC (C : CallW) (K : Env → St → Prop) : List Nat → List (Nat × Nat) → List AO → Env → St → Prop
  | _, _, [], ρ, st => K ρ st
  | pl, is, ⟨none, dst, op⟩ :: r, ρ, st => touchC (plF is pl) ρ op = true ∧ wpOpC o sy C ρ st (fun d st' => wpDC C K ((readsB ρ op).toList ++ plF is pl) is.tail r (setD dst d ρ) st') op
  | pl, is, ⟨some (t, want), dst, op⟩ :: r, ρ, st => match ρ.get t with
    | .p (.v (.bool b)) => (match b == want with
      | true => touchC (plF is pl) ((t, boolD want) :: ρ) op = true ∧ wpOpC o sy C ((t, boolD want) :: ρ) st (fun d st' => wpDC C K ((readsB ((t, boolD want) :: ρ) op).toList ++ plF is pl) is.tail r (setD dst d ((t, boolD want) :: ρ)) st') op
      | false => wpDC C K (plF is pl) is.tail r (setD dst undefD ((t, boolD (!want)) :: ρ)) st)
    | .p (.v (.tuple _)) => wpDC C K (plF is pl) is.tail r (setD dst undefD ρ) st
    | _ => False

def wpDsC (C C' : CallW) (K : Env → St → Prop) : List Seg → Env → St → Prop
  | [], ρ, st => K ρ st
  | (true, _, l) :: r, ρ, st => wpRC o sy C (wpDsC C C' K r) l ρ st
  | (false, is, l) :: r, ρ, st => wpDC o sy C' (wpDsC C C' K r) [] is l ρ st

def wpAC (C C' : CallW) : AC → (Ax → Env → St → Prop) → Env → St → Prop
  | .rg l, Q, ρ, st => wpRC o sy C (Q .n) l ρ st
  | .dr segs, Q, ρ, st => wpDsC o sy C C' (Q .n) segs ρ st
  | .seq a b, Q, ρ, st => wpAC C C' a (Ax.thn (wpAC C C' b Q) Q) ρ st
  | .cond c a b, Q, ρ, st => match ev ρ c with
    | .p (.v (.bool t)) => (match t with | true => wpAC C C' a Q ρ st | false => wpAC C C' b Q ρ st)
    | _ => False
  | .blk id a, Q, ρ, st => wpAC C C' a (Ax.blk id Q) ρ st
  | .loop keep a, Q, ρ, st => LOOP (wpAC C C' a) keep Q (ρ.keep keep) st
  | .exit id, Q, ρ, st => Q (.x id) ρ st
  | .ret, Q, ρ, st => Q .r ρ st
  | .skip, Q, ρ, st => Q .n ρ st

def wpRes1C (ρ : Env) (st : St) (K : D → Prop) : ARes → Prop
  | .tmp t => K (ρ.get t)
  | .cell t none => match ρ.get t with
    | .ptr b off => (match nthD st.box b with
      | some B => B.fz = false ∧ (match elemB sy B.e with
        | true => (match o.nth B.cells off with | some d => K d | none => False)
        | false => (match nthD B.cells off with | some d => K d | none => False))
      | none => False)
    | _ => False
  | .cell t (some size) => match ρ.get t with
    | .ptr b off => (match nthD st.box b with
      | some B => B.fz = false ∧ (match size with
        | 0 => False
        | s + 1 => (match takeD (dropD B.cells off) (s + 1) with | some l => K (mkAgg l) | none => False))
      | none => False)
    | _ => False
def wpResC (ρ : Env) (st : St) (K : List D → Prop) : List ARes → Prop
  | [] => K []
  | r :: rs => wpRes1C o sy ρ st (fun d => wpResC ρ st (fun ds => K (d :: ds)) rs) r
def retC (ars : List ARes) (K : D → St → Prop) : Ax → Env → St → Prop
  | .x _, _, _ => False
  | .n, ρ, st => wpResC o sy ρ st (fun ds => K (resOf ds) st) ars
  | .r, ρ, st => wpResC o sy ρ st (fun ds => K (resOf ds) st) ars

/-- A bool that comes out of a call is split. -/
def KB (x : PD) (K : PD → Prop) : Prop := match x with
  | .v (.bool b) => BR b (K (.v (.bool true))) (K (.v (.bool false)))
  | x => K x
def CX (S : Spec) : CallW := fun f ds st K => match S.get f ds with
  | some x => KB x fun x => K (.p x) st
  | none => (match viewAs st.box ds with
    | some ds' => (match S.get f ds' with
      | some x => flatP x = true ∧ KB x fun x => K (.p x) st
      | none => False)
    | none => False)

/-- Codes that are walked in place. -/
abbrev TblL := List (FuncId × AC × List ARes × Nat)
def TblL.get : TblL → FuncId → Option (AC × List ARes × Nat)
  | [], _ => none
  | (g, r) :: l, f => if g = f then some r else TblL.get l f
def shortB : List D → Nat → Bool
  | [], _ => true
  | _ :: _, 0 => false
  | _ :: r, n + 1 => shortB r n
theorem shortB_spec : ∀ {l : List D} {n : Nat}, shortB l n = true → l.length ≤ n
  | [], _, _ => Nat.zero_le _
  | _ :: _, 0, h => by cases h
  | _ :: r, n + 1, h => by have := shortB_spec (l := r) (n := n) h; simpa using this
def CI (S : Spec) (tbl : TblL) : Nat → CallW
  | 0, f, ds, st, K => CX S f ds st K
  | k + 1, f, ds, st, K => match tbl.get f with
    | some (ac, ars, n) => shortB ds n = true ∧ wpAC o sy (CI S tbl k) (CX S) ac (retC o sy ars K) (argsEnv 0 ds) st
    | none => CX S f ds st K
end

section
variable {sy : List Nat}

theorem wpRC_sound {C D : CallW} (hC : ∀ f ds st K, C f ds st K → D f ds st K) (hm : CMono D) {K K' : Env → St → Prop} (hK : ∀ ρ st, K ρ st → K' ρ st) : ∀ (l : List AO) (ρ : Env) (st : St), wpRC Ops.real sy C K l ρ st → wpR D K' l ρ st
  | [], _, _, h => hK _ _ h
  | ⟨none, _, _⟩ :: r, _, _, h => wpOp_mono hm (fun _ _ h => wpRC_sound hC hm hK r _ _ h) (wpOp_call hC (wpOpC_sound h))
  | ⟨some (t, want), dst, op⟩ :: r, ρ, st, h => by
    simp only [wpRC] at h
    simp only [wpR]
    split at h
    · rename_i b hb
      simp only [hb]
      split at h
      · rename_i hw
        simp only [beq_iff_eq] at hw
        exact ⟨fun _ => wpOp_mono hm (fun _ _ h => wpRC_sound hC hm hK r _ _ h) (wpOp_call hC (wpOpC_sound h)), fun e => by rw [hw] at e; cases want <;> simp at e⟩
      · rename_i hw
        simp only [beq_eq_false_iff_ne, ne_eq] at hw
        exact ⟨fun e => absurd e hw, fun _ => wpRC_sound hC hm hK r _ _ h⟩
    · rename_i hb
      simp only [hb]
      exact wpRC_sound hC hm hK r _ _ h
    · exact h.elim

theorem wpDC_sound {C D : CallW} (hC : ∀ f ds st K, C f ds st K → D f ds st K) (hm : CMono D) {K K' : Env → St → Prop} (hK : ∀ ρ st, K ρ st → K' ρ st) : ∀ (l : List AO) (pl : List Nat) (is : List (Nat × Nat)) (ρ : Env) (st : St), wpDC Ops.real sy C K pl is l ρ st → wpD D K' pl is l ρ st
  | [], _, _, _, _, h => hK _ _ h
  | ⟨none, _, _⟩ :: r, _, _, _, _, h => ⟨touchC_spec h.1, wpOp_mono hm (fun _ _ h => wpDC_sound hC hm hK r _ _ _ _ h) (wpOp_call hC (wpOpC_sound h.2))⟩
  | ⟨some (t, want), dst, op⟩ :: r, pl, is, ρ, st, h => by
    simp only [wpDC] at h
    simp only [wpD]
    split at h
    · rename_i b hb
      simp only [hb]
      split at h
      · rename_i hw
        simp only [beq_iff_eq] at hw
        exact ⟨fun _ => ⟨touchC_spec h.1, wpOp_mono hm (fun _ _ h => wpDC_sound hC hm hK r _ _ _ _ h) (wpOp_call hC (wpOpC_sound h.2))⟩, fun e => by rw [hw] at e; cases want <;> simp at e⟩
      · rename_i hw
        simp only [beq_eq_false_iff_ne, ne_eq] at hw
        exact ⟨fun e => absurd e hw, fun _ => wpDC_sound hC hm hK r _ _ _ _ h⟩
    · rename_i hb
      simp only [hb]
      exact wpDC_sound hC hm hK r _ _ _ _ h
    · exact h.elim

theorem wpDsC_sound {C C' D D' : CallW} (hC : ∀ f ds st K, C f ds st K → D f ds st K) (hm : CMono D) (hC' : ∀ f ds st K, C' f ds st K → D' f ds st K) (hm' : CMono D') {K K' : Env → St → Prop} (hK : ∀ ρ st, K ρ st → K' ρ st) : ∀ (l : List Seg) (ρ : Env) (st : St), wpDsC Ops.real sy C C' K l ρ st → wpDs D D' K' l ρ st
  | [], _, _, h => hK _ _ h
  | (true, _, l) :: r, ρ, st, h => wpRC_sound hC hm (fun ρ st h => wpDsC_sound hC hm hC' hm' hK r ρ st h) l ρ st h
  | (false, is, l) :: r, ρ, st, h => wpDC_sound hC' hm' (fun ρ st h => wpDsC_sound hC hm hC' hm' hK r ρ st h) l [] is ρ st h

theorem wpAC_sound {C C' D D' : CallW} (hC : ∀ f ds st K, C f ds st K → D f ds st K) (hm : CMono D) (hC' : ∀ f ds st K, C' f ds st K → D' f ds st K) (hm' : CMono D') : ∀ (a : AC) (Q Q' : Ax → Env → St → Prop), (∀ x ρ st, Q x ρ st → Q' x ρ st) → ∀ ρ st, wpAC Ops.real sy C C' a Q ρ st → wpA D D' a Q' ρ st
  | .rg l, _, _, hQ, _, _, h => wpRC_sound hC hm (hQ .n) l _ _ h
  | .dr l, _, _, hQ, _, _, h => wpDsC_sound hC hm hC' hm' (hQ .n) l _ _ h
  | .seq a b, _, _, hQ, _, _, h => wpAC_sound hC hm hC' hm' a _ _ (thn_mono (fun _ _ h => wpAC_sound hC hm hC' hm' b _ _ hQ _ _ h) hQ) _ _ h
  | .cond c a b, _, _, hQ, _, _, h => by
    simp only [wpAC] at h
    simp only [wpA]
    split at h
    · rename_i t ht
      simp only [ht]
      cases t
      · exact ⟨fun h => (Bool.false_ne_true h).elim, fun _ => wpAC_sound hC hm hC' hm' b _ _ hQ _ _ h⟩
      · exact ⟨fun _ => wpAC_sound hC hm hC' hm' a _ _ hQ _ _ h, fun h => (Bool.false_ne_true h.symm).elim⟩
    · exact h.elim
  | .blk id a, Q, Q', hQ, _, _, h => wpAC_sound hC hm hC' hm' a _ _ (fun x ρ st h => by
      cases x <;> simp only [Ax.blk] at h ⊢
      · exact hQ _ _ _ h
      · split
        · rename_i hi; rw [if_pos hi] at h; exact hQ _ _ _ h
        · rename_i hi; rw [if_neg hi] at h; exact hQ _ _ _ h
      · exact hQ _ _ _ h) _ _ h
  | .loop keep a, _, _, hQ, _, _, h => by
    obtain ⟨k, h⟩ := h
    exact ⟨k, LoopC_call (fun Q Q' hQ ρ st h => wpAC_sound hC hm hC' hm' a Q Q' hQ ρ st h) hQ k _ _ h⟩
  | .exit id, _, _, hQ, _, _, h => hQ _ _ _ h
  | .ret, _, _, hQ, _, _, h => hQ _ _ _ h
  | .skip, _, _, hQ, _, _, h => hQ _ _ _ h

theorem wpRes1C_sound {ρ : Env} {st : St} {K K' : D → Prop} (hK : ∀ d, K d → K' d) {r : ARes} (h : wpRes1C Ops.real sy ρ st K r) : wpRes1 ρ st K' r := by
  unfold wpRes1C at h
  unfold wpRes1
  simp only [nthD_eq] at h
  split at h
  · exact hK _ h
  · split at h
    · rename_i h1; simp only [h1]
      split at h
      · rename_i B hB
        simp only [hB]
        refine ⟨h.1, ?_⟩
        replace h := h.2
        split at h
        · split at h
          · rename_i d hd; exact ⟨d, hd, hK _ h⟩
          · exact h.elim
        · split at h
          · rename_i d hd; exact ⟨d, hd, hK _ h⟩
          · exact h.elim
      · exact h.elim
    · exact h.elim
  · rename_i size
    split at h
    · rename_i h1; simp only [h1]
      split at h
      · rename_i B hB
        simp only [hB]
        refine ⟨h.1, ?_⟩
        replace h := h.2
        cases size with
        | zero => exact h.elim
        | succ s =>
          simp only at h
          split at h
          · rename_i l hl
            obtain ⟨k1, k2⟩ := take_drop_le hl (Nat.succ_pos _)
            subst k2
            exact ⟨k1, hK _ h⟩
          · exact h.elim
      · exact h.elim
    · exact h.elim
theorem wpResC_sound {ρ : Env} {st : St} : ∀ {l : List ARes} {K K' : List D → Prop}, (∀ ds, K ds → K' ds) → wpResC Ops.real sy ρ st K l → wpRes ρ st K' l
  | [], _, _, hK, h => hK _ h
  | _ :: _, _, _, hK, h => wpRes1C_sound (fun d h => wpResC_sound (fun ds h => hK _ h) h) h
theorem retC_sound {ars : List ARes} {K K' : D → St → Prop} (hK : ∀ d st, K d st → K' d st) : ∀ x ρ st, retC Ops.real sy ars K x ρ st → retQ ars K' x ρ st := by
  intro x ρ st h
  cases x with
  | x i => exact h.elim
  | n => exact wpResC_sound (K := fun ds => K (resOf ds) st) (fun ds h => hK _ _ h) h
  | r => exact wpResC_sound (K := fun ds => K (resOf ds) st) (fun ds h => hK _ _ h) h

theorem KB_real {x : PD} {K : PD → Prop} (h : KB x K) : K x := by
  unfold KB at h
  split at h
  · rename_i b
    cases b
    · exact h.f rfl
    · exact h.t rfl
  · exact h

/-- Codes that may be walked in place. -/
def TblLOK (P : Program) (tbl : TblL) : Prop := TblOK P tbl.get
theorem TblLOK.nil {P : Program} : TblLOK P [] := fun _ _ _ _ h => by cases h
theorem TblLOK.cons {P : Program} {k : FuncId} {ac : AC} {ars : List ARes} {n : Nat} {fn : Func} {g : AC} {t : TblL} (hcall : ∀ vs w, (callFunc k vs).run P w = .ok (.enter k vs) w) (hf : P.funcs[k]? = some fn) (hc : compF P fn g = some (ac, ars)) (hn : n ≤ fn.ntmps)
    (ht : TblLOK P t) : TblLOK P ((k, ac, ars, n) :: t) := fun f ac' ars' n' h => by
  simp only [TblL.get] at h
  split at h
  · rename_i e
    subst e
    simp only [Option.some.injEq, Prod.mk.injEq] at h
    obtain ⟨rfl, rfl, rfl⟩ := h
    exact ⟨hcall, fn, g, hf, hc, hn⟩
  · exact ht f ac' ars' n' h

theorem viewA_toA {bs : List Box} {d x : D} (h : viewA bs d = some x) : toA x = some x := by
  have gen : ∀ d, (viewD bs 3 d).map D.p = some x → toA x = some x := fun d h => by
    obtain ⟨y, _, rfl⟩ := Option.map_eq_some_iff.1 h
    rfl
  cases d with
  | ptr i off =>
    simp only [viewA, Option.bind_eq_some_iff] at h
    obtain ⟨B, hB, h⟩ := h
    split at h
    · cases h
    obtain ⟨xs, hx, rfl⟩ := Option.map_eq_some_iff.1 h
    rfl
  | el cells =>
    simp only [viewA, Option.some.injEq] at h
    subst h; rfl
  | _ => simp only [viewA] at h; exact gen _ h
theorem toAs_viewAs {bs : List Box} : ∀ {ds xs args : List D}, viewAs bs ds = some xs → toAs xs = some args → args = xs
  | [], xs, args, h, h' => by
    simp only [viewAs, Option.some.injEq] at h; subst h
    simp only [toAs, Option.some.injEq] at h'; exact h'.symm
  | d :: ds, xs, args, h, h' => by
    simp only [viewAs] at h
    split at h
    · rename_i x r h1 h2
      simp only [Option.some.injEq] at h
      subst h
      simp only [toAs, viewA_toA h1] at h'
      split at h'
      · rename_i y s h3 h4
        simp only [Option.some.injEq] at h3 h'
        subst h3
        rw [← h', toAs_viewAs h2 h4]
      · cases h'
    · cases h

variable {P : Program}
theorem CX.cw {S : Spec} (hS : SpecOK P S) {c : Ctx} {T : Nat → Prop} : ∀ f ds st K, CX S f ds st K → CW P c T f ds st K := fun f ds st K h => by
  unfold CX at h
  split at h
  · rename_i x hx
    obtain ⟨args, ha, hp⟩ := hS f ds x hx
    exact hp.cw ha (KB_real (K := fun x => K (.p x) st) h)
  · split at h
    · rename_i ds' hv
      split at h
      · rename_i x hx
        obtain ⟨args, ha, hp⟩ := hS f ds' x hx
        obtain rfl : args = ds' := toAs_viewAs hv ha
        exact hp.cwV h.1 hv (KB_real (K := fun x => K (.p x) st) h.2)
      · exact h.elim
    · exact h.elim
theorem CX.cp {S : Spec} (hS : SpecOK P S) : ∀ f ds st K, CX S f ds st K → CP P f ds st K := fun f ds st K h => by
  unfold CX at h
  split at h
  · rename_i x hx
    obtain ⟨args, ha, hp⟩ := hS f ds x hx
    exact ⟨x, ⟨args, .inl ha, hp⟩, KB_real (K := fun x => K (.p x) st) h⟩
  · split at h
    · rename_i ds' hv
      split at h
      · rename_i x hx
        obtain ⟨args, ha, hp⟩ := hS f ds' x hx
        obtain rfl : args = ds' := toAs_viewAs hv ha
        exact ⟨x, ⟨args, .inr ⟨hv, h.1⟩, hp⟩, KB_real (K := fun x => K (.p x) st) h.2⟩
      · exact h.elim
    · exact h.elim

theorem CI.cw (hm : P.follows .mixedOrders = true) {S : Spec} (hS : SpecOK P S) {tbl : TblL} (ht : TblLOK P tbl) {c : Ctx} : ∀ k f ds st K, CI Ops.real sy S tbl k f ds st K → CW P c (fun _ => True) f ds st K
  | 0, f, ds, st, K, h => CX.cw hS f ds st K h
  | k + 1, f, ds, st, K, h => by
    simp only [CI] at h
    split at h
    · rename_i ac ars n hf
      obtain ⟨hcall, fn, g, hfn, hc, hle⟩ := ht f ac ars n hf
      have hlen := shortB_spec h.1
      refine CW.of_wpA hm hcall hfn hc (by omega) fun c' => ?_
      exact wpAC_sound (CI.cw hm hS ht k) .cmono (CX.cp hS) .cmono ac _ _ (retC_sound fun d st h => h) _ _ h.2
    · exact CX.cw hS f ds st K h
/-! ### Contracts -/
/-- A contract from the function's code, evaluated with symbols. -/
theorem PurFn.ofC (hm : P.follows .mixedOrders = true) {S : Spec} (hS : SpecOK P S) {tbl : TblL} (ht : TblLOK P tbl) (sy : List Nat) (k : Nat) {f : FuncId} {fn : Func} {g ac : AC} {ars : List ARes} (hcall : ∀ vs w, (callFunc f vs).run P w = .ok (.enter f vs) w) (hf : P.funcs[f]? = some fn)
    (hc : compF P fn g = some (ac, ars)) {args : List D} {n : Nat} (hn : n ≤ fn.ntmps) (hl : shortB args n = true) {d : PD}
    (h : ∀ (cmp : BinOp → Int → Int → Bool) (ar : BinOp → IntKind → Int → Int → Int) (cv : IntKind → Int → Int) (tn : Int → Nat) (ic : Nat → Int) (mx : Bool → Int → Int → Int) (dr : List PD → Int → Nat → List PD) (dn : List PD → Nat → List PD)
      (ap : List PD → List PD → List PD) (ad ml : Nat → Nat → Nat) (ln : List PD → Nat) (dl : Int → Int → Nat) (sc : List PD → Int → Int → Nat → List PD) (px : Nat → Int → Nat → Nat) (nth : List D → Nat → Option D) (put : List D → Nat → List D → List D)
      (cp : List D → Nat → List PD → Nat → Nat → Nat → List D) (mn : Nat → Nat → Nat) (rep : Int → List D → List D) (repP : Int → List PD → List PD) (an : Bool → Bool → Bool) (Q : D → Prop), (∀ x, PLe x d → Q x) →
      cmp = cmpR → ar = arR → cv = Ops.real.cv → tn = Int.toNat → ic = Ops.real.ic → mx = mxR → dr = Ops.real.dr → dn = Ops.real.dn → ap = Ops.real.ap → ad = Ops.real.ad → ml = Ops.real.ml → ln = Ops.real.ln → dl = Ops.real.dl → sc = Ops.real.sc → px = Ops.real.px →
      nth = Ops.real.nth → put = Ops.real.put → cp = Ops.real.cp → mn = Ops.real.mn → rep = Ops.real.rep → repP = Ops.real.repP → an = Ops.real.an →
      wpAC ⟨cmp, ar, cv, tn, ic, mx, dr, dn, ap, ad, ml, ln, dl, sc, px, nth, put, cp, mn, rep, repP, an⟩ sy (CI ⟨cmp, ar, cv, tn, ic, mx, dr, dn, ap, ad, ml, ln, dl, sc, px, nth, put, cp, mn, rep, repP, an⟩ sy S tbl k) (CX S) ac
        (retC ⟨cmp, ar, cv, tn, ic, mx, dr, dn, ap, ad, ml, ln, dl, sc, px, nth, put, cp, mn, rep, repP, an⟩ sy ars fun x _ => FIN Q x) (argsEnv 0 args) ⟨[], []⟩) : PurFn P f args d :=
  PurFn.of hm hcall hf hc (by have := shortB_spec hl; omega) fun c => by
    have h := h cmpR arR Ops.real.cv Int.toNat Ops.real.ic mxR Ops.real.dr Ops.real.dn Ops.real.ap Ops.real.ad Ops.real.ml Ops.real.ln Ops.real.dl Ops.real.sc Ops.real.px Ops.real.nth Ops.real.put Ops.real.cp Ops.real.mn Ops.real.rep Ops.real.repP Ops.real.an
      (fun x => PLe x d) (fun x h => h) rfl rfl rfl rfl rfl rfl rfl rfl rfl rfl rfl rfl rfl rfl rfl rfl rfl rfl rfl rfl rfl rfl
    exact wpAC_sound (CI.cw hm hS ht k) .cmono (CX.cp hS) .cmono ac _ _ (retC_sound fun d st h => h.h) _ _ h
end

/-! ### What is left over, read -/
theorem BR_dec {p : Prop} [Decidable p] {A B : Prop} : BR (decide p) A B ↔ (p → A) ∧ (¬ p → B) :=
  ⟨fun h => ⟨fun hp => h.t (decide_eq_true hp), fun hp => h.f (decide_eq_false hp)⟩, fun h => ⟨fun hp => h.1 (of_decide_eq_true hp), fun hp => h.2 (of_decide_eq_false hp)⟩⟩
theorem BR_iff {b : Bool} {A B : Prop} : BR b A B ↔ (b = true → A) ∧ (b = false → B) := ⟨fun h => ⟨h.t, h.f⟩, fun h => ⟨h.1, h.2⟩⟩
theorem BR_true {A B : Prop} : BR true A B ↔ A := ⟨fun h => h.t rfl, fun h => ⟨fun _ => h, fun e => by cases e⟩⟩
theorem BR_false {A B : Prop} : BR false A B ↔ B := ⟨fun h => h.f rfl, fun h => ⟨fun e => by (cases e), fun _ => h⟩⟩
theorem FIN_iff {Q : D → Prop} {d : D} : FIN Q d ↔ Q d := ⟨fun h => h.h, fun h => ⟨h⟩⟩
theorem NEXT_iff {X : Env → St → Prop} {ρ : Env} {st : St} : NEXT X ρ st ↔ X ρ st := ⟨fun h => h.h, fun h => ⟨h⟩⟩
theorem INB_iff {k n : Int} : INB k n ↔ 0 ≤ k ∧ k < n := ⟨fun h => ⟨h.1, h.2⟩, fun h => ⟨h.1, h.2⟩⟩
theorem SLB_iff {a b n : Int} : SLB a b n ↔ 0 ≤ a ∧ a ≤ b ∧ b ≤ n := ⟨fun h => ⟨h.1, h.2, h.3⟩, fun h => ⟨h.1, h.2.1, h.2.2⟩⟩
theorem NZ_iff {b : Int} : NZ b ↔ b ≠ 0 := ⟨fun h => h.1, fun h => ⟨h⟩⟩
theorem NN_iff {b : Int} : NN b ↔ 0 ≤ b := ⟨fun h => h.1, fun h => ⟨h⟩⟩
theorem EQN_iff {a b : Nat} : EQN a b ↔ a = b := ⟨fun h => h.1, fun h => ⟨h⟩⟩
theorem LIM_iff {m b : Nat} : LIM m b ↔ m * b ≤ 140737488355328 ∧ m ≤ maxLen := ⟨fun h => ⟨h.1, h.2⟩, fun h => ⟨h.1, h.2⟩⟩
theorem MK_iff {n m : Int} {b : Nat} : MK n m b ↔ 0 ≤ n ∧ n ≤ m ∧ m * b ≤ 281474976710656 ∧ m ≤ maxLen := ⟨fun h => ⟨h.1, h.2, h.3, h.4⟩, fun h => ⟨h.1, h.2.1, h.2.2.1, h.2.2.2⟩⟩
theorem NEW_iff {n : Nat} {A B : Prop} : NEW n A B ↔ (n = 0 → A) ∧ (n ≠ 0 → B) := ⟨fun h => ⟨h.1, h.2⟩, fun h => ⟨h.1, h.2⟩⟩
theorem LD_cons {c : PD} {r : List PD} {f : PD → Prop} : LD (c :: r) f ↔ f c := ⟨fun h => by obtain ⟨d, h1, h2⟩ := h.h; simp at h1; exact h1 ▸ h2, fun h => ⟨c, rfl, h⟩⟩
theorem leafP {x d : PD} (h : x = d) : PLe (.p x) d := h ▸ .p x
theorem leafI {k : IntKind} {a b : Int} (h : a = b) : PLe (.p (.v (.int k a))) (.v (.int k b)) := h ▸ .p _
theorem leafB {a b : Bool} (h : a = b) : PLe (.p (.v (.bool a))) (.v (.bool b)) := h ▸ .p _

/-- A loop, by a measure: the states at its head are given by s. -/
theorem LOOP.ind {body : (Ax → Env → St → Prop) → Env → St → Prop} {keep : List Nat} {Q : Ax → Env → St → Prop} {ρ0 : Env} {st0 : St} {σ : Type}
    (env : σ → Env) (st : σ → St) (μ : σ → Nat) (I : σ → Prop) (s0 : σ) (h0 : I s0) (e0 : ρ0 = env s0) (e1 : st0 = st s0)
    (h : ∀ s, I s → ∀ X : Env → St → Prop, (∀ s', I s' → μ s' < μ s → X (env s') (st s')) → body (Ax.thn (fun ρ' st' => NEXT X (ρ'.keep keep) st') Q) (env s) (st s)) : LOOP body keep Q ρ0 st0 := by
  subst e0; subst e1
  refine ⟨μ s0 + 1, ?_⟩
  have key : ∀ k s, I s → μ s < k → LoopC body keep Q k (env s) (st s) := by
    intro k
    induction k with
    | zero => intro s _ hk; omega
    | succ k ih =>
      intro s hs hk
      exact h s hs (LoopC body keep Q k) fun s' hs' hlt => ih s' hs' (by omega)
  exact key _ s0 h0 (Nat.lt_succ_self _)
end Go.Ab
/- The abstract layer: from a law's typed arguments to pure data, and back to the law's row. -/
namespace Go.Ab
open Go.RowKit Go.ChangeShapes Go.WideShapes

/-- What one-cell places hold. -/
def memOf (w : World) : Mem := fun b o => match w.cell? ⟨b, o, none⟩ with | some u => if u.oneCell' then some u else none | none => none
theorem memOf_ok (w : World) : GOK (memOf w) w := fun b o u h => by
  unfold memOf at h
  split at h
  · rename_i v hv
    split at h
    · rename_i h1
      obtain rfl : v = u := by simpa using h
      exact ⟨hv, h1⟩
    · cases h
  · cases h
theorem memOf_of {w : World} {b o : Nat} {u : Value} (h : w.cell? ⟨b, o, none⟩ = some u) (h1 : u.oneCell' = true) : memOf w b o = some u := by
  simp [memOf, h, h1]

/-- The cells of a value of a type, as pure data. -/
def TyC (P : Program) : Nat → TypeId → List PD → Prop
  | 0, _, _ => False
  | n + 1, t, xs => match P.underlying t with
    | some .bool => ∃ b, xs = [.v (.bool b)]
    | some (.int k) => ∃ i, xs = [.v (.int k i)] ∧ (Lit.int k i).wf = true
    | some (.slice e) => ∃ nl m cells, xs = [.sl (some nl) m cells] ∧ (nl = true → m = 0) ∧ m ≤ maxLen ∧ cells.length = m * P.cellsOf e ∧ ∀ i, i < m → TyC P n e ((cells.drop (i * P.cellsOf e)).take (P.cellsOf e))
    | some (.struct fs) => xs.length = P.cellsOf t ∧ ∀ f ∈ fs.toList, TyC P n f.type ((xs.drop f.offset).take (P.cellsOf f.type))
    | some (.array m e) => xs.length = P.cellsOf t ∧ ∀ i, i < m → TyC P n e ((xs.drop (i * P.cellsOf e)).take (P.cellsOf e))
    | _ => ∃ c, xs = [.v c]
def TyV (P : Program) (t : TypeId) (x : PD) : Prop := match P.underlying t with
  | some (.struct _) | some (.array _ _) => ∃ n xs, x = .agg xs ∧ TyC P n t xs
  | _ => ∃ n, TyC P n t [x]

/-- Cells and their data. -/
def Rep (w : World) (cs : List Value) (xs : List PD) : Prop := xs.length = cs.length ∧ ∀ i, i < cs.length → RP (memOf w) (xs.getD i default) (cs.getD i undef) ∧ (cs.getD i undef).oneCell' = true

theorem Rep.one {w : World} {c : Value} {x : PD} (h : RP (memOf w) x c) (h1 : c.oneCell' = true) : Rep w [c] [x] := ⟨rfl, fun i hi => by
  obtain rfl : i = 0 := by simpa using hi
  exact ⟨h, h1⟩⟩
theorem Rep.append {w : World} {cs ds : List Value} {xs ys : List PD} (h : Rep w cs xs) (h' : Rep w ds ys) : Rep w (cs ++ ds) (xs ++ ys) := ⟨by simp [h.1, h'.1], fun i hi => by
  by_cases hc : i < cs.length
  · have hx : i < xs.length := by rw [h.1]; exact hc
    simp only [List.getD, List.getElem?_append_left hc, List.getElem?_append_left hx]
    exact h.2 i hc
  · have hx : xs.length ≤ i := by rw [h.1]; omega
    simp only [List.getD, List.getElem?_append_right (Nat.le_of_not_lt hc), List.getElem?_append_right hx, h.1]
    exact h'.2 _ (by simp at hi; omega)⟩

/-- Pieces that lie one behind the other. -/
theorem Rep.cover {w : World} : ∀ (l : List (Nat × (List PD → Prop))) (cs : List Value), (l.map (·.1)).sum = cs.length →
    (∀ (j : Nat) (s : Nat × (List PD → Prop)), l[j]? = some s → ∃ xs, Rep w ((cs.drop ((l.take j).map (·.1)).sum).take s.1) xs ∧ s.2 xs) →
    ∃ xs : List PD, Rep w cs xs ∧ ∀ (j : Nat) (s : Nat × (List PD → Prop)), l[j]? = some s → s.2 ((xs.drop ((l.take j).map (·.1)).sum).take s.1)
  | [], cs, hs, _ => by
    have : cs = [] := List.eq_nil_of_length_eq_zero (by simpa using hs.symm)
    subst this
    exact ⟨[], ⟨rfl, fun i hi => by simp at hi⟩, fun j s h => by simp at h⟩
  | (k, p) :: l, cs, hs, h => by
    simp only [List.map_cons, List.sum_cons] at hs
    obtain ⟨xs0, r0, p0⟩ := h 0 (k, p) rfl
    simp only [List.take_zero, List.map_nil, List.sum_nil, List.drop_zero] at r0
    obtain ⟨xs1, r1, p1⟩ := Rep.cover l (cs.drop k) (by simp; omega) fun j s hj => by
      obtain ⟨xs, r, q⟩ := h (j + 1) s (by simpa using hj)
      simp only [List.take_succ_cons, List.map_cons, List.sum_cons] at r
      rw [List.drop_drop]
      exact ⟨xs, r, q⟩
    have hl : xs0.length = k := by rw [r0.1]; simp; omega
    refine ⟨xs0 ++ xs1, ?_, fun j s hj => ?_⟩
    · have := r0.append r1
      rwa [List.take_append_drop] at this
    · cases j with
      | zero =>
        obtain rfl : (k, p) = s := by simpa using hj
        simp only [List.take_zero, List.map_nil, List.sum_nil, List.drop_zero]
        rw [List.take_left' hl]; exact p0
      | succ j =>
        simp only [List.take_succ_cons, List.map_cons, List.sum_cons]
        rw [← List.drop_drop, List.drop_left' hl]
        exact p1 j s (by simpa using hj)

theorem sum_replicate (m k : Nat) (p : List PD → Prop) (j : Nat) (hj : j ≤ m) : (((List.replicate m (k, p)).take j).map (·.1)).sum = j * k := by
  rw [List.take_replicate, Nat.min_eq_left hj, List.map_replicate, List.sum_replicate_nat]

section
variable {H : Type} {enc : TypeId × Value → H} {P : Program} {w : World} {spare : Nat → Bool} {held : Bool}

theorem Rep.array {cs : List Value} {m k : Nat} {p : List PD → Prop} (hl : cs.length = m * k) (h : ∀ i, i < m → ∃ xs, Rep w ((cs.drop (i * k)).take k) xs ∧ p xs) :
    ∃ xs, Rep w cs xs ∧ ∀ i, i < m → p ((xs.drop (i * k)).take k) := by
  obtain ⟨xs, r, q⟩ := Rep.cover (w := w) (List.replicate m (k, p)) cs (by rw [List.map_replicate, List.sum_replicate_nat, hl]) fun j s hj => by
    rw [List.getElem?_replicate] at hj
    split at hj
    · rename_i hm
      obtain rfl : (k, p) = s := by simpa using hj
      rw [sum_replicate m k p j (by omega)]
      exact h j hm
    · cases hj
  refine ⟨xs, r, fun i hi => ?_⟩
  have := q i (k, p) (by rw [List.getElem?_replicate, if_pos hi])
  rwa [sum_replicate m k p i (by omega)] at this

theorem cellAt_add (a : Addr) (i j : Nat) : (a.add i).add j = a.add (i + j) := by
  unfold Addr.add
  by_cases hi : i = 0 <;> by_cases hj : j = 0 <;> simp [hi, hj] <;> omega

theorem cells?_get {base : Nat} {a : Addr} {n : Nat} {cs : List Value} (h : w.cells? base a n = some cs) : cs.length = n ∧ ∀ j, j < n → w.cell? (a.add j) = cs[j]? := by
  unfold World.cells? at h
  split at h
  · have hl : cs.length = n := by simpa using Go.mapM_some_length h
    exact ⟨hl, fun j hj => Go.mapM_some_get h j j (by simp [hj])⟩
  · cases h

theorem cell?_none {a : Addr} {n : Nat} {u : Value} (h : w.cell? (a.add n) = some u) : (n = 0 → a.spot = none) ∧ w.cell? ⟨a.block, a.off + n, none⟩ = some u := by
  unfold Addr.add at h
  by_cases hn : n = 0
  · subst hn
    rw [if_pos rfl] at h
    obtain ⟨b, o, sp⟩ := a
    cases sp with
    | none => exact ⟨fun _ => rfl, h⟩
    | some s =>
      exfalso
      unfold World.cell? at h
      split at h <;> simp at h
  · rw [if_neg hn] at h
    exact ⟨fun e => absurd e hn, h⟩

/-- What reads as data of a type is given by pure data of this type. -/
theorem trod_rep (K : Kids P (· < P.types.size)) (hz : ∀ t e, t < P.types.size → P.underlying t = some (.slice e) → 0 < P.cellsOf e) : ∀ (n : Nat) (t : TypeId) (cs : List Value) (x : DataW H × List MemPlace), t < P.types.size → DataW.trod enc P w 0 spare held n t cs = some x → ∃ xs, Rep w cs xs ∧ TyC P n t xs
  | 0, _, _, _, _, h => by simp [DataW.trod] at h
  | n + 1, t, cs, x, hT, h => by
    have one : ∀ c, cs = [c] → c.oneCell' = true → ∃ xs, Rep w cs xs ∧ ∃ c, xs = [PD.v c] := fun c e h1 => by
      subst e
      exact ⟨_, Rep.one (.v _) h1, _, rfl⟩
    cases hu : P.underlying t with
    | none => unfold DataW.trod at h; rw [hu] at h; simp at h
    | some u =>
      cases u with
      | bool =>
        unfold DataW.trod at h; rw [hu] at h
        simp only [TyC, hu]
        split at h <;> first | exact ⟨_, Rep.one (.v _) rfl, _, rfl⟩ | (simp_all; done)
      | int k =>
        unfold DataW.trod at h; rw [hu] at h
        simp only [TyC, hu]
        split at h <;> first | (simp_all; done) | skip
        · rename_i k1 k2 i h1
          simp only [Option.some.injEq, TypeDesc.int.injEq] at h1
          split at h
          · rename_i h2
            exact ⟨_, Rep.one (.v _) rfl, _, by rw [h2.1, h1], by rw [h1]; exact h2.2⟩
          · cases h
      | slice e =>
        simp only [TyC, hu]
        rcases DataW.trod_slice hu h with ⟨rfl, _⟩ | ⟨a, len, cap, elems, rest, n', hn, rfl, _, _, hlc, hcm, hel, hi, _, _⟩
        · exact ⟨_, Rep.one (.nil (some true) (by simp)) rfl, _, _, _, rfl, fun _ => rfl, Nat.zero_le _, by simp, fun i hi => absurd hi (Nat.not_lt_zero _)⟩
        · obtain rfl : n = n' := by omega
          let us : Nat → Value := fun i => (w.cell? ⟨a.block, a.off + i, none⟩).getD undef
          have hseg : ∀ i, i < len → ∃ ds y, w.cells? 0 (a.add (i * P.cellsOf e)) (P.cellsOf e) = some ds ∧ DataW.trod enc P w 0 spare held n e ds = some y := fun i hi' => by
            have := hi i hi'
            rw [List.getElem?_eq_getElem (by omega)] at this
            obtain ⟨ds, h1, h2⟩ := Option.bind_eq_some_iff.1 this
            exact ⟨ds, _, h1, h2⟩
          have hds : ∀ i, i < len → ∀ ds, w.cells? 0 (a.add (i * P.cellsOf e)) (P.cellsOf e) = some ds → ((((List.range (len * P.cellsOf e)).map us).drop (i * P.cellsOf e)).take (P.cellsOf e)) = ds := fun i hi' ds hd => by
            obtain ⟨h1, h2⟩ := cells?_get hd
            have hle : i * P.cellsOf e + P.cellsOf e ≤ len * P.cellsOf e := by
              rw [← Nat.succ_mul]; exact Nat.mul_le_mul_right _ hi'
            apply List.ext_getElem?
            intro j
            by_cases hj : j < P.cellsOf e
            · rw [List.getElem?_take_of_lt hj, List.getElem?_drop, List.getElem?_map, List.getElem?_range (by omega)]
              have hc := h2 j hj
              rw [cellAt_add, List.getElem?_eq_getElem (by omega)] at hc
              rw [List.getElem?_eq_getElem (by omega)]
              simp only [Option.map_some, us, (cell?_none hc).2, Option.getD_some]
            · rw [List.getElem?_eq_none (by simp; omega), List.getElem?_eq_none (by omega)]
          obtain ⟨xs, r, q⟩ := Rep.array (w := w) (cs := (List.range (len * P.cellsOf e)).map us) (m := len) (k := P.cellsOf e) (p := TyC P n e) (by simp) fun i hi' => by
            obtain ⟨ds, y, h1, h2⟩ := hseg i hi'
            rw [hds i hi' ds h1]
            exact trod_rep K hz n e ds y (K.slice hT hu) h2
          have hcell : ∀ i, i < len * P.cellsOf e → w.cell? ⟨a.block, a.off + i, none⟩ = some (us i) ∧ (i = 0 → a.spot = none) := fun i hi' => by
            have hk : 0 < P.cellsOf e := Nat.pos_of_ne_zero fun h0 => by rw [h0] at hi'; omega
            have hq : i / P.cellsOf e < len := (Nat.div_lt_iff_lt_mul hk).2 hi'
            obtain ⟨ds, y, h1, _⟩ := hseg _ hq
            obtain ⟨g1, g2⟩ := cells?_get h1
            have hc := g2 (i % P.cellsOf e) (Nat.mod_lt _ hk)
            rw [cellAt_add, List.getElem?_eq_getElem (by rw [g1]; exact Nat.mod_lt _ hk), Nat.div_add_mod'] at hc
            obtain ⟨g3, g4⟩ := cell?_none hc
            exact ⟨by simp only [us]; rw [g4]; rfl, g3⟩
          have hxl : xs.length = len * P.cellsOf e := by rw [r.1]; simp
          obtain ⟨b, o, sp⟩ := a
          have hR : ∀ i, i < xs.length → RP (memOf w) (xs.getD i default) (us i) ∧ (us i).oneCell' = true := fun i hi' => by
            have := r.2 i (by simp; omega)
            rwa [show ((List.range (len * P.cellsOf e)).map us).getD i undef = us i by simp [List.getD, List.getElem?_range (show i < len * P.cellsOf e by omega)]] at this
          by_cases h0 : len * P.cellsOf e = 0
          · by_cases hl0 : len = 0
            · refine ⟨_, Rep.one (.sl' (some false) len xs b o cap us sp (by simp) hlc (fun i hi' => by omega) (fun i hi' => (hR i hi').1) (.inr hl0)) rfl, _, _, _, rfl, fun e => (by cases e), by omega, hxl, q⟩
            · exact absurd h0 (Nat.ne_of_gt (Nat.mul_pos (Nat.pos_of_ne_zero hl0) (hz t e hT hu)))
          · have hsp : sp = none := (hcell 0 (by omega)).2 rfl
            subst hsp
            exact ⟨_, Rep.one (.sl (some false) len xs b o cap us (by simp) hlc (fun i hi' => memOf_of (hcell i (by omega)).1 (hR i hi').2) (fun i hi' => (hR i hi').1)) rfl, _, _, _, rfl, fun e => (by cases e), by omega, hxl, q⟩
      | struct fs =>
        simp only [TyC, hu]
        obtain ⟨ys, n', hn, _, hcl, hyl, hf⟩ := DataW.trod_struct hu h
        obtain rfl : n = n' := by omega
        obtain ⟨k1, k2, k3⟩ := K.struct hT hu
        obtain ⟨xs, r, q⟩ := Rep.cover (w := w) (fs.toList.map fun f => (P.cellsOf f.type, TyC P n f.type)) cs (by rw [List.map_map, hcl, k2]; rfl) fun j s hj => by
          rw [List.getElem?_map] at hj
          obtain ⟨f, hfj, rfl⟩ := Option.map_eq_some_iff.1 hj
          have ho := k3 j f hfj
          have hy := hf j f (by simpa using hfj)
          have hjl : j < fs.size := by have := (List.getElem?_eq_some_iff.1 hfj).1; simpa using this
          rw [List.getElem?_eq_getElem (by omega)] at hy
          rw [← List.map_take, List.map_map]
          have e1 : ((fs.toList.take j).map ((·.1) ∘ fun f : Field => (P.cellsOf f.type, TyC P n f.type))).sum = f.offset := ho.symm
          rw [e1]
          exact trod_rep K hz n f.type _ _ (k1 f (List.mem_of_getElem? hfj)) hy
        refine ⟨xs, r, by rw [r.1, hcl], fun f hfm => ?_⟩
        obtain ⟨j, hfj⟩ := List.getElem?_of_mem hfm
        have := q j (P.cellsOf f.type, TyC P n f.type) (by rw [List.getElem?_map, hfj]; rfl)
        rw [← List.map_take, List.map_map] at this
        have e1 : ((fs.toList.take j).map ((·.1) ∘ fun f : Field => (P.cellsOf f.type, TyC P n f.type))).sum = f.offset := (k3 j f hfj).symm
        rwa [e1] at this
      | array m e =>
        simp only [TyC, hu]
        obtain ⟨k1, k2⟩ := K.array hT hu
        unfold DataW.trod at h; rw [hu] at h
        simp only at h
        split at h
        · rename_i hcl
          simp only [Option.map_eq_some_iff] at h
          obtain ⟨ys, hy, _⟩ := h
          have hyl : ys.length = m := by simpa using Go.mapM_some_length hy
          obtain ⟨xs, r, q⟩ := Rep.array (w := w) (cs := cs) (m := m) (k := P.cellsOf e) (p := TyC P n e) (by rw [hcl, k2]) fun i hi => by
            have := Go.mapM_some_get hy i i (by simp [hi])
            rw [List.getElem?_eq_getElem (by omega)] at this
            exact trod_rep K hz n e _ _ k1 this
          exact ⟨xs, r, by rw [r.1, hcl], q⟩
        · cases h
      | _ =>
        unfold DataW.trod at h; rw [hu] at h
        simp only [TyC, hu]
        split at h <;> first | exact one _ rfl rfl | (simp_all; done)


/-- An argument as pure data. -/
theorem trod_arg (K : Kids P (· < P.types.size)) (hz : ∀ t e, t < P.types.size → P.underlying t = some (.slice e) → 0 < P.cellsOf e) {r : Reach} {b0 : Nat} {t : TypeId} {v : Value} {d : DataW H} {p : List MemPlace} (hT : t < P.types.size)
    (hv : Value.okWide P w r b0 t v) (h : DataW.Trod enc P w 0 spare held t v d p) : ∃ x, RP (memOf w) x v ∧ TyV P t x := by
  obtain ⟨n, h⟩ := h
  obtain ⟨xs, hr, ht⟩ := trod_rep K hz n t _ _ hT h
  have agg : ∀ cs : Array Value, v = .agg cs → ∃ x, RP (memOf w) x v ∧ ∃ n xs, x = .agg xs ∧ TyC P n t xs := fun cs e => by
    subst e
    refine ⟨.agg xs, .agg _ _ (by simpa [Value.cells] using hr.1.symm) (fun i hi => ?_), n, xs, rfl, ht⟩
    have := (hr.2 i (by rw [← hr.1]; exact hi)).1
    have e : cs.getD i undef = cs[i]?.getD undef := by simp
    rw [e]
    simpa [Value.cells, List.getD] using this
  have one : (∀ cs, v ≠ .agg cs) → ∃ x, RP (memOf w) x v ∧ ∃ n, TyC P n t [x] := fun hne => by
    have hc : v.cells.toList = [v] := by cases v <;> first | rfl | exact absurd rfl (hne _)
    rw [hc] at hr
    obtain ⟨hl, hR⟩ := hr
    match xs, hl with
    | [x], _ => exact ⟨x, (hR 0 (by simp)).1, n, ht⟩
  unfold TyV
  unfold Value.okWide at hv
  split at hv
  · rename_i fs hu
    simp only [hu]
    obtain ⟨cs, e, _⟩ := hv
    exact agg cs e
  · rename_i m e hu
    simp only [hu]
    obtain ⟨cs, e, _⟩ := hv
    exact agg cs e
  · rename_i h1 h2
    have := one fun cs e => by
      subst e
      unfold Cell.okWide at hv
      split at hv <;> simp_all [Cell.ok]
    split
    · rename_i fs hu; exact absurd hu (h1 fs)
    · rename_i m e hu; exact absurd hu (h2 m e)
    · exact this

/-- Arguments as pure data. -/
def TyVs (P : Program) : List TypeId → List PD → Prop
  | [], [] => True
  | t :: ts, x :: xs => TyV P t x ∧ TyVs P ts xs
  | _, _ => False

theorem trod_args (K : Kids P (· < P.types.size)) (hz : ∀ t e, t < P.types.size → P.underlying t = some (.slice e) → 0 < P.cellsOf e) {r : Reach} {b0 : Nat} : ∀ (ts : List TypeId) (vs : List Value) (ds : List (DataW H)) (ps : List MemPlace), (∀ t ∈ ts, t < P.types.size) →
    (∀ (j : Nat) t v, ts[j]? = some t → vs[j]? = some v → Value.okWide P w r b0 t v) → DataW.TrodAll enc P w 0 spare held ts vs ds ps → ∃ xs, TyVs P ts xs ∧ xs.length = vs.length ∧ ds.length = ts.length ∧ ∀ i, i < vs.length → RP (memOf w) (xs.getD i default) (vs.getD i undef)
  | [], [], [], _, _, _, _ => ⟨[], trivial, rfl, rfl, fun i hi => absurd hi (Nat.not_lt_zero _)⟩
  | t :: ts, v :: vs, d :: ds, ps, hT, hv, ⟨p, q, h1, h2, _⟩ => by
    obtain ⟨x, hx, tx⟩ := trod_arg K hz (hT t (by simp)) (hv 0 t v rfl rfl) h1
    obtain ⟨xs, txs, hl, hl', hxs⟩ := trod_args K hz ts vs ds q (fun t ht => hT t (by simp [ht])) (fun j t v h1 h2 => hv (j + 1) t v (by simpa using h1) (by simpa using h2)) h2
    refine ⟨x :: xs, ⟨tx, txs⟩, by simp [hl], by simp [hl'], fun i hi => ?_⟩
    cases i with
    | zero => exact hx
    | succ i => exact hxs i (by simpa using hi)
  | [], _ :: _, _, _, _, _, h => h.elim
  | [], [], _ :: _, _, _, _, h => h.elim
  | _ :: _, [], _, _, _, _, h => h.elim
  | _ :: _, _ :: _, [], _, _, _, h => h.elim

theorem Grown.sameAt {w w' : World} (h : Grown w w') {p : MemPlace} (hb : p.block < w.heap.size) : w.sameAt w' p := by
  cases p with
  | cell b o => exact h.1.cell hb (fun h => h)
  | map b =>
    have hk := h.1.2.2 b hb
    show w'.heap[b]? = w.heap[b]?
    split at hk
    · rename_i c t fr c' t' fr' e1 e2
      obtain ⟨rfl, rfl, _, h3⟩ := hk
      have : c' = c := Array.ext_getElem? fun j => h3 j (fun h => h)
      rw [e1, e2, this]
    · rename_i e1 e2
      rcases hk with hm' | ⟨h1, h2⟩
      · exact hm'.elim
      · rw [e1, e2, h1, h2]
    · exact hk

theorem TrodAll.carry {w' : World} : ∀ {ts : List TypeId} {vs : List Value} {ds : List (DataW H)} {ps : List MemPlace}, DataW.TrodAll enc P w 0 spare held ts vs ds ps → (∀ p ∈ ps, w.sameAt w' p) → DataW.TrodAll enc P w' 0 spare held ts vs ds ps
  | [], [], [], _, h, _ => h
  | _ :: _, _ :: _, _ :: _, _, ⟨p, q, ⟨n, h1⟩, h2, e⟩, hs => ⟨p, q, ⟨n, DataW.trod_carry n _ _ _ h1 fun x hx => hs x (by rw [e]; exact List.mem_append_left _ hx)⟩, TrodAll.carry h2 fun x hx => hs x (by rw [e]; exact List.mem_append_right _ hx), e⟩
  | [], _ :: _, _, _, h, _ => h.elim
  | [], [], _ :: _, _, h, _ => h.elim
  | _ :: _, [], _, _, h, _ => h.elim
  | _ :: _, _ :: _, [], _, h, _ => h.elim

/-- The row's step for a law that is true of all typed data, and has no package-level variables. -/
theorem PurFn.law (K : Kids P (· < P.types.size)) (hz : ∀ t e, t < P.types.size → P.underlying t = some (.slice e) → 0 < P.cellsOf e) {f : FuncId} {fn : Func} {s : ChangeSpec} {apart fresh handsOn again : Bool} {base : Nat} {W : World} {args : Array Value} {ds gs : List (DataW H)} {before : List MemPlace} {t : TypeId}
    (h : ∀ xs, TyVs P fn.params.toList xs → PurFn P f (xs.map .p) (.v (.bool true)))
    (hT : ∀ t ∈ fn.params.toList, t < P.types.size) (hres : fn.resultTypes.toList = [t]) (ht : P.underlying t = some .bool) (hsv : s.vars = [])
    (hfn : ∀ ds : List (DataW H), ds.length = fn.params.toList.length → s.fn H ds = { results := [.lit (.bool true)], args := ds })
    (hval : ∀ (j : Nat) t v, fn.params[j]? = some t → args[j]? = some v → Value.okWide P W .any base t v)
    (hW : DataW.Whole enc P fn.params.toList s.vars apart W args.toList ds gs before) :
    Calls P f args W fun e W' => ∃ v, e = .returned v ∧ s.post enc P fn apart fresh handsOn again W args v W' := by
  have hW' := hW
  obtain ⟨p, q, hA, hV, rfl, hfz, hnd⟩ := hW
  rw [hsv] at hV
  obtain ⟨rfl, rfl⟩ := trodVars_none hV
  obtain ⟨xs, htx, hl, hdl, hR⟩ := trod_args K hz _ _ _ _ hT (fun j t v h1 h2 => hval j t v (by simpa using h1) (by simpa using h2)) hA
  refine ((h xs htx).2 (memOf W) W args (memOf_ok W) (by simpa using hl.symm) (fun i hi => ?_)).mono ?_
  · have := hR i (by simp only [List.length_map] at hi; omega)
    simp only [List.length_map] at hi
    simp only [List.getD, List.getElem?_map, List.getElem?_eq_getElem hi, Option.map_some, Option.getD_some]
    refine .p _ _ ?_
    show RP (memOf W) _ _
    have e : args.getD i undef = args[i]?.getD undef := by simp
    rw [e]
    simpa [List.getD, List.getElem?_eq_getElem hi] using this
  rintro e w' ⟨v, G', rfl, _, _, _, hb, hr⟩
  rw [hr.v_inv]
  have hg : Grown W w' := ⟨hb.toBelow.frame _, hb.frz, hb.size⟩
  have hlt := hW'.lt
  have hres' : fn.resultTypes.size = 1 := by rw [← Array.length_toList, hres]; rfl
  have hd := hfn (ds ++ []) (by simpa using hdl)
  refine ⟨_, rfl, post_of_same (pa := p) (pv := []) hW' (fun _ _ _ => ?_) (fun sp hsp => ?_) (fun _ _ => ?_) rfl (hg.frame _) hg.2.1 ?_⟩
  · rw [hd, hres, hres']
    exact trodAll_cons_mk (shut_bool ht _) trodAll_mk0
  · rw [hd, List.append_nil]
    exact TrodAll.carry (DataW.TrodAll.respare K hz hT hA fun x hx => hsp x (by simpa using hx)) fun x hx => Grown.sameAt hg (hlt x (by simpa using hx))
  · rw [hd, hsv]; rfl
  · intro j t' r h1 h2
    rw [hres'] at h2
    have hj : j = 0 := by
      have := (Array.getElem?_eq_some_iff.1 h1).1
      omega
    subst hj
    obtain rfl : t = t' := by
      have h3 : fn.resultTypes.toList[0]? = some t' := by simpa using h1
      rw [hres] at h3
      simpa using h3
    have h4 : r = .bool true := by simpa [Value.resultList] using h2.symm
    subst h4
    exact okWide_bool_mk ht _
end
end Go.Ab
