/- Abstract values and states for the functions of a translated program, and preconditions over them: calls that are worked out. What is proved holds for every program, without conditions. -/
import Derived.Test.YteiolnofaebknaaAbB
/- The abstract layer, part 19: preconditions that compute. -/
namespace Go.Ab
open Go.RowKit

/-! ### Values are worked out before they are handed on -/
noncomputable def fNat (n : Nat) (f : Nat → Bool) : Bool := Nat.rec (f 0) (fun m _ => f (Nat.succ m)) n
noncomputable def fInt (n : Int) (f : Int → Bool) : Bool := Int.rec (fun m => fNat m fun m => f (.ofNat m)) (fun m => fNat m fun m => f (.negSucc m)) n
noncomputable def fBool (b : Bool) (f : Bool → Bool) : Bool := Bool.rec (f false) (f true) b
noncomputable def fVal (v : Value) (f : Value → Bool) : Bool :=
  match v with
  | .int k n => fInt n fun n => f (.int k n)
  | .bool b => fBool b fun b => f (.bool b)
  | v => f v
theorem fNat_eq (n : Nat) (f : Nat → Bool) : fNat n f = f n := by cases n <;> rfl
theorem fInt_eq (n : Int) (f : Int → Bool) : fInt n f = f n := by
  cases n with
  | ofNat m => exact fNat_eq m fun m => f (.ofNat m)
  | negSucc m => exact fNat_eq m fun m => f (.negSucc m)
theorem fBool_eq (b : Bool) (f : Bool → Bool) : fBool b f = f b := by cases b <;> rfl
theorem fVal_eq (v : Value) (f : Value → Bool) : fVal v f = f v := by
  unfold fVal; split
  · exact fInt_eq _ _
  · exact fBool_eq _ _
  · rfl
noncomputable def fList {α : Type} (l : List α) (f : List α → Bool) : Bool := List.rec (motive := fun _ => (List α → Bool) → Bool) (fun f => f []) (fun x _ ih f => ih fun r => f (x :: r)) l f
theorem fList_eq {α : Type} : ∀ (l : List α) (f : List α → Bool), fList l f = f l
  | [], _ => rfl
  | x :: l, f => (fList_eq l fun r => f (x :: r))
noncomputable def fApp {α : Type} (a b : List α) (f : List α → Bool) : Bool := List.rec (motive := fun _ => (List α → Bool) → Bool) (fun f => f b) (fun x _ ih f => ih fun r => f (x :: r)) a f
theorem fApp_eq {α : Type} : ∀ (a b : List α) (f : List α → Bool), fApp a b f = f (a ++ b)
  | [], _, _ => rfl
  | x :: a, b, f => (fApp_eq a b fun r => f (x :: r))
noncomputable def fTail {α : Type} (l : List α) (f : List α → Bool) : Bool := match l with | [] => f [] | x :: r => f (x :: r)
theorem fTail_eq {α : Type} (l : List α) (f : List α → Bool) : fTail l f = f l := by cases l <;> rfl
/-- The head of an abstract value. -/
noncomputable def fD (d : D) (f : D → Bool) : Bool :=
  match d with
  | .p (.v v) => fVal v fun v => f (.p (.v v))
  | .p x => f (.p x)
  | .ptr b o => fNat b fun b => fNat o fun o => f (.ptr b o)
  | .ms b o n => fNat b fun b => fNat o fun o => fNat n fun n => f (.ms b o n)
  | .grp g n c => fNat g fun g => fNat n fun n => f (.grp g n c)
  | d => f d
theorem fD_eq (d : D) (f : D → Bool) : fD d f = f d := by
  unfold fD; split <;> simp only [fVal_eq, fNat_eq]

/-! ### Environments -/
noncomputable def bget (ρ : Env) : Nat → D := List.rec (motive := fun _ => Nat → D) (fun _ => .bad) (fun q _ ih t => Bool.rec (ih t) q.2 (Nat.beq q.1 t)) ρ
theorem bget_eq : ∀ (ρ : Env) (t : Nat), bget ρ t = ρ.get t
  | [], _ => rfl
  | (k, d) :: r, t => by
    have e : bget ((k, d) :: r) t = Bool.rec (bget r t) d (Nat.beq k t) := rfl
    rw [e, bget_eq r t]
    simp only [Env.get]
    by_cases h : k = t
    · subst h; simp
    · rw [if_neg h, nbeq_false h]
noncomputable def bkeep (ρ : Env) (l : List Nat) (f : Env → Bool) : Bool := List.rec (motive := fun _ => (Env → Bool) → Bool) (fun f => f []) (fun t _ ih f => fD (bget ρ t) fun d => ih fun r => f ((t, d) :: r)) l f
theorem bkeep_eq (ρ : Env) : ∀ (l : List Nat) (f : Env → Bool), bkeep ρ l f = f (ρ.keep l)
  | [], _ => rfl
  | t :: l, f => by
    show (fD (bget ρ t) fun d => bkeep ρ l fun r => f ((t, d) :: r)) = _
    rw [fD_eq, bget_eq, bkeep_eq ρ l]
    rfl

noncomputable def bev (ρ : Env) : Operand → D
  | .tmp t => bget ρ t
  | .const v => .p (cstP v)
  | .global g => .p (.v (.pointer (some ⟨g, 0, none⟩)))
  | .func f => .fn (.func f) [] []
theorem bev_eq (ρ : Env) (x : Operand) : bev ρ x = ev ρ x := by cases x <;> simp [bev, ev, bget_eq]

theorem bevf_eq (ρ : Env) : bev ρ = ev ρ := funext (bev_eq ρ)

/-! ### Operations -/
noncomputable def bBin (op : BinOp) (x y : Value) (K : Value → Bool) : Bool :=
  match x, y with
  | .int k a, .int k' b =>
    match op with
    | .add => decide (k = k') && fInt (k.wrap (a + b)) fun n => K (.int k n)
    | .sub => decide (k = k') && fInt (k.wrap (a - b)) fun n => K (.int k n)
    | .mul => decide (k = k') && fInt (k.wrap (a * b)) fun n => K (.int k n)
    | .quo => decide (k = k') && !(a == a && b == 0) && fInt (k.wrap (a.tdiv b)) fun n => K (.int k n)
    | .rem => decide (k = k') && !(a == a && b == 0) && fInt (a.tmod b) fun n => K (.int k n)
    | .and => decide (k = k') && fInt (k.wrap (BitVec.ofInt k.bits a &&& BitVec.ofInt k.bits b).toNat) fun n => K (.int k n)
    | .or => decide (k = k') && fInt (k.wrap (BitVec.ofInt k.bits a ||| BitVec.ofInt k.bits b).toNat) fun n => K (.int k n)
    | .xor => decide (k = k') && fInt (k.wrap (BitVec.ofInt k.bits a ^^^ BitVec.ofInt k.bits b).toNat) fun n => K (.int k n)
    | .andNot => decide (k = k') && fInt (k.wrap (BitVec.ofInt k.bits a &&& ~~~(BitVec.ofInt k.bits b)).toNat) fun n => K (.int k n)
    | .shl => decide (0 ≤ b) && fInt (k.wrap (a * 2 ^ (min b.toNat k.bits))) fun n => K (.int k n)
    | .shr => decide (0 ≤ b) && fInt (a.fdiv (2 ^ (min b.toNat k.bits))) fun n => K (.int k n)
    | .eql => decide (k = k') && fBool (a == b) fun n => K (.bool n)
    | .neq => decide (k = k') && fBool (a != b) fun n => K (.bool n)
    | .lss => decide (k = k') && fBool (decide (a < b)) fun n => K (.bool n)
    | .leq => decide (k = k') && fBool (decide (a ≤ b)) fun n => K (.bool n)
    | .gtr => decide (k = k') && fBool (decide (a > b)) fun n => K (.bool n)
    | .geq => decide (k = k') && fBool (decide (a ≥ b)) fun n => K (.bool n)
  | _, _ => false

theorem bBin_sound {op : BinOp} {x y : Value} {K : Value → Bool} (h : bBin op x y K = true) : sBin op x y (fun v => K v = true) := by
  unfold bBin at h
  unfold sBin
  split at h
  · split at h <;> simp only [Bool.and_eq_true, decide_eq_true_eq, fInt_eq, fBool_eq] at h <;> first | exact h | skip
    · exact ⟨h.1.1, by simpa using h.1.2, h.2⟩
    · exact ⟨h.1.1, by simpa using h.1.2, h.2⟩
  · cases h

/-- What a call does. -/
abbrev CallB := FuncId → List D → St → (D → St → Bool) → Bool

/-! ### Lists, step by step -/
noncomputable def bnth {α : Type} (l : List α) (i : Nat) : Option α :=
  Nat.rec (motive := fun _ => List α → Option α) (fun l => List.rec (motive := fun _ => Option α) none (fun x _ _ => some x) l) (fun _ ih l => List.rec (motive := fun _ => Option α) none (fun _ r _ => ih r) l) i l
theorem bnth_eq {α : Type} : ∀ (i : Nat) (l : List α), bnth l i = l[i]?
  | 0, [] => rfl
  | 0, _ :: _ => rfl
  | i + 1, [] => rfl
  | i + 1, x :: r => by
    show bnth r i = _
    rw [bnth_eq i r]; rfl
noncomputable def bfits {α : Type} (k : Nat) (l : List α) : Bool :=
  Nat.rec (motive := fun _ => List α → Bool) (fun _ => true) (fun _ ih l => List.rec (motive := fun _ => Bool) false (fun _ r _ => ih r) l) k l
theorem bfits_eq {α : Type} : ∀ (k : Nat) (l : List α), bfits k l = Nat.ble k l.length
  | 0, l => by show true = _; simp
  | k + 1, [] => rfl
  | k + 1, x :: r => by
    show bfits k r = _
    rw [bfits_eq k r, List.length_cons]; rfl
noncomputable def bdrop {α : Type} (l : List α) (k : Nat) : List α :=
  Nat.rec (motive := fun _ => List α → List α) (fun l => l) (fun _ ih l => List.rec (motive := fun _ => List α) [] (fun _ r _ => ih r) l) k l
theorem bdrop_eq {α : Type} : ∀ (k : Nat) (l : List α), bdrop l k = l.drop k
  | 0, l => rfl
  | k + 1, [] => by show [] = _; simp
  | k + 1, x :: r => by
    show bdrop r k = _
    rw [bdrop_eq k r]; rfl
noncomputable def btake {α : Type} (l : List α) (k : Nat) : List α :=
  Nat.rec (motive := fun _ => List α → List α) (fun _ => []) (fun _ ih l => List.rec (motive := fun _ => List α) [] (fun x r _ => x :: ih r) l) k l
theorem btake_eq {α : Type} : ∀ (k : Nat) (l : List α), btake l k = l.take k
  | 0, l => rfl
  | k + 1, [] => by show [] = _; simp
  | k + 1, x :: r => by
    show x :: btake r k = _
    rw [btake_eq k r]; rfl

noncomputable def bput (cells : List D) (off : Nat) (new : List D) (f : List D → Bool) : Bool :=
  Nat.rec (motive := fun _ => List D → (List D → Bool) → Bool) (fun cells f => fApp new (bdrop cells new.length) f)
    (fun _ ih cells f => List.rec (motive := fun _ => Bool) (fApp new [] f) (fun x r _ => ih r fun r => f (x :: r)) cells) off cells f
theorem bput_eq (new : List D) : ∀ (off : Nat) (cells : List D) (f : List D → Bool), off ≤ cells.length → bput cells off new f = f (putCells cells off new)
  | 0, cells, f, _ => by
    show fApp new (bdrop cells new.length) f = _
    rw [fApp_eq, bdrop_eq]
    simp [putCells]
  | off + 1, [], f, h => by simp at h
  | off + 1, x :: r, f, h => by
    show (bput r off new fun r => f (x :: r)) = _
    rw [bput_eq new off r _ (by simpa using h)]
    simp only [putCells]
    rw [show off + 1 + new.length = (off + new.length) + 1 by omega]
    simp

noncomputable def bset (l : List Box) (i : Nat) (B : Box) (f : List Box → Bool) : Bool :=
  Nat.rec (motive := fun _ => List Box → (List Box → Bool) → Bool) (fun l f => List.rec (motive := fun _ => Bool) (f []) (fun _ r _ => f (B :: r)) l)
    (fun _ ih l f => List.rec (motive := fun _ => Bool) (f []) (fun x r _ => ih r fun r => f (x :: r)) l) i l f
theorem bset_eq (B : Box) : ∀ (i : Nat) (l : List Box) (f : List Box → Bool), bset l i B f = f (l.set i B)
  | 0, [], f => rfl
  | 0, _ :: _, f => rfl
  | i + 1, [], f => rfl
  | i + 1, x :: r, f => by
    show (bset r i B fun r => f (x :: r)) = _
    rw [bset_eq B i r]
    rfl

noncomputable def bfill (cells : List D) (l : List (Nat × Nat × D)) (f : List D → Bool) : Bool :=
  List.rec (motive := fun _ => List D → (List D → Bool) → Bool) (fun cells f => f cells)
    (fun q _ ih cells f => Nat.beq (cellsD q.2.2).length q.2.1 && bfits (q.1 + q.2.1) cells && (cellsD q.2.2).all oneD && bput cells q.1 (cellsD q.2.2) fun cells => ih cells f) l cells f
theorem bfill_sound : ∀ (l : List (Nat × Nat × D)) (cells : List D) (f : List D → Bool), bfill cells l f = true → ∃ cs, fillD cells l = some cs ∧ f cs = true
  | [], cells, f, h => ⟨cells, rfl, h⟩
  | (o, s, d) :: l, cells, f, h => by
    have h : (Nat.beq (cellsD d).length s && bfits (o + s) cells && (cellsD d).all oneD && bput cells o (cellsD d) fun cells => bfill cells l f) = true := h
    simp only [bfits_eq, Bool.and_eq_true, Nat.beq_eq, Nat.ble_eq] at h
    obtain ⟨⟨⟨h1, h2⟩, h3⟩, h4⟩ := h
    rw [bput_eq _ _ _ _ (by omega)] at h4
    obtain ⟨cs, q1, q2⟩ := bfill_sound l _ f h4
    exact ⟨cs, by simp only [fillD]; rw [if_pos ⟨h1, h2, h3⟩]; exact q1, q2⟩

noncomputable def fAgg (ds : List D) (f : D → Bool) : Bool := match allP ds with | some ps => fList ps fun ps => f (.p (.agg ps)) | none => f (.agg ds)
theorem fAgg_eq (ds : List D) (f : D → Bool) : fAgg ds f = f (mkAgg ds) := by
  unfold fAgg mkAgg; cases allP ds with
  | none => rfl
  | some ps => exact fList_eq ps _

noncomputable def fTup (ds : List D) (f : D → Bool) : Bool := match allP ds with | some ps => fList ps fun ps => f (.p (.tup ps)) | none => f (.tup ds)
theorem fTup_eq (ds : List D) (f : D → Bool) : fTup ds f = f (mkTup ds) := by
  unfold fTup mkTup; cases allP ds with
  | none => rfl
  | some ps => exact fList_eq ps _
noncomputable def bOp (C : CallB) (ρ : Env) (st : St) (K : D → St → Bool) : AOp → Bool
  | .mv x => fD (bev ρ x) fun d => K d st
  | .pick c a b => match bev ρ c with | .p (.v (.bool t)) => Bool.rec (fD (bev ρ b) fun d => K d st) (fD (bev ρ a) fun d => K d st) t | _ => false
  | .bin op x y => match bev ρ x, bev ρ y with
    | .p (.v a), .p (.v b) => bBin op a b fun r => K (.p (.v r)) st
    | _, _ => false
  | .binB neg x y => match bev ρ x, bev ρ y with
    | .p (.v (.bool a)), .p (.v (.bool b)) => fBool ((a == b) ^^ neg) fun b => K (.p (.v (.bool b))) st
    | _, _ => false
  | .eqA ks neg x y => match toP (bev ρ x), toP (bev ρ y) with
    | some (.agg xs), some (.agg ys) => match psEq ks xs ys with | some b => fBool (b ^^ neg) fun b => K (.p (.v (.bool b))) st | none => false
    | _, _ => false
  | .un op x => match op, bev ρ x with
    | .not, .p (.v (.bool b)) => fBool (!b) fun b => K (.p (.v (.bool b))) st
    | .neg, .p (.v (.int k n)) => fInt (k.wrap (0 - n)) fun n => K (.p (.v (.int k n))) st
    | _, _ => false
  | .conv k x => match bev ρ x with | .p (.v (.int _ n)) => fInt (k.wrap n) fun n => K (.p (.v (.int k n))) st | _ => false
  | .len x => match bev ρ x with
    | .p (.sl _ n _) => fNat n fun n => K (.p (.v (.int .i64 (.ofNat n)))) st
    | .grp _ n _ => fNat n fun n => K (.p (.v (.int .i64 (.ofNat n)))) st
    | .ms _ _ n => fNat n fun n => K (.p (.v (.int .i64 (.ofNat n)))) st
    | _ => false
  | .idx size x i => match bev ρ x, bev ρ i with
    | .p (.sl _ n cells), .p (.v (.int _ k)) => decide (0 ≤ k) && decide (k < n) && fTail (bdrop cells (k.toNat * size)) fun cells => K (.el cells) st
    | .grp _ n cells, .p (.v (.int _ k)) => decide (0 ≤ k) && decide (k < n) && fTail (bdrop cells (k.toNat * size)) fun cells => K (.el cells) st
    | .ms b off n, .p (.v (.int _ k)) => decide (0 ≤ k) && decide (k < n) && fNat (off + k.toNat * size) fun off => K (.ptr b off) st
    | _, _ => false
  | .idxA len size x i => match bev ρ x, bev ρ i with
    | .ptr b off, .p (.v (.int _ k)) => decide (0 ≤ k) && decide (k < len) && fNat (off + k.toNat * size) fun off => K (.ptr b off) st
    | .el cells, .p (.v (.int _ k)) => decide (0 ≤ k) && decide (k < len) && fTail (bdrop cells (k.toNat * size)) fun cells => K (.el cells) st
    | _, _ => false
  | .load x => match bev ρ x with
    | .el cells => match cells with | c :: _ => K (.p c) st | [] => false
    | .ptr b off => match bnth st.box b with | some B => !B.fz && (match bnth B.cells off with | some d => fD d fun d => K d st | none => false) | none => false
    | _ => false
  | .loadA size x => match bev ρ x with
    | .el cells => bfits size cells && fList (btake cells size) fun l => K (.p (.agg l)) st
    | .ptr b off => match bnth st.box b with | some B => !B.fz && bfits (off + size) B.cells && fAgg (btake (bdrop B.cells off) size) fun d => K d st | none => false
    | _ => false
  | .store size a x => match bev ρ a with
    | .ptr b off => match bnth st.box b with
      | some B => !B.fz && Nat.beq (cellsD (bev ρ x)).length size && bfits (off + size) B.cells && (cellsD (bev ρ x)).all oneD &&
          bput B.cells off (cellsD (bev ρ x)) fun cells => bset st.box b { B with cells := cells } fun bs => K (.p (.v undef)) { st with box := bs }
      | none => false
    | _ => false
  | .alloc e zero => fNat st.box.length fun n => fList zero fun zero => fApp st.box [{ cells := zero, e := e, fz := false }] fun bs => K (.ptr n 0) { st with box := bs }
  | .box e x => (cellsD (bev ρ x)).all oneD && fNat st.box.length fun n => fList (cellsD (bev ρ x)) fun cells => fApp st.box [{ cells := cells, e := e, fz := false }] fun bs => K (.ptr n 0) { st with box := bs }
  | .build zero parts => fList zero fun zero => bfill zero (parts.map fun q => (q.1, q.2.1, bev ρ q.2.2)) fun cs => fAgg cs fun d => K d st
  | .bslice own e n _ zero parts => fList (List.replicate n zero).flatten fun z => bfill z (parts.map fun q => (q.1, q.2.1, bev ρ q.2.2)) fun cs => match allP cs with
    | some cs => fList cs fun cs => if own then fNat st.grp.length fun g => fNat cs.length fun l => fApp st.grp [(l, e)] fun gs => K (.grp g n cs) { st with grp := gs } else K (.p (.sl (some false) n cs)) st
    | none => false
  | .append e size bytes s x => match toP (bev ρ x) with
    | some (.sl _ m new) => Nat.beq new.length (m * size) && (match bev ρ s with
      | .p (.sl (some true) _ _) => Nat.ble (m * bytes) 140737488355328 && Nat.ble m maxLen &&
          (match m with
          | 0 => K (.p (.sl (some true) 0 [])) st
          | m + 1 => fNat st.grp.length fun g => fNat new.length fun l => fApp st.grp [(l, e)] fun gs => K (.grp g (m + 1) new) { st with grp := gs })
      | .grp g n cells => (match bnth st.grp g with | some (l, e') => Nat.beq l cells.length && decide (e' = e) | none => false) && Nat.beq cells.length (n * size) && Nat.ble ((n + m) * bytes) 140737488355328 && Nat.ble (n + m) maxLen &&
          fApp cells new fun all => fNat all.length fun l => fNat (n + m) fun nm => fList (st.grp.set g (l, e)) fun gs => K (.grp g nm all) { st with grp := gs }
      | .ms b off n => (match bnth st.box b with
        | some B => Nat.beq off 0 && !B.fz && B.ap && decide (B.e = e) && bfits (n * size) B.cells && Nat.ble ((n + m) * bytes) 140737488355328 && Nat.ble (n + m) maxLen &&
            (match m with
            | 0 => K (.ms b 0 n) st
            | m + 1 => fApp (btake B.cells (n * size)) (new.map .p) fun cells => fNat st.box.length fun nb => fNat (n + (m + 1)) fun nm => bset st.box b { B with cells := [], fz := true } fun bs =>
                fApp bs [{ cells := cells, e := e, fz := false, ap := true }] fun bs => K (.ms nb 0 nm) { st with box := bs })
        | none => false)
      | _ => false)
    | _ => false
  | .mslice e _ bytes zero l c => match bev ρ l, bev ρ c with
    | .p (.v (.int _ n)), .p (.v (.int _ m)) => decide (0 ≤ n) && decide (n ≤ m) && decide (m * bytes ≤ 281474976710656) && decide (m ≤ maxLen) &&
        fNat st.box.length fun b => fNat n.toNat fun n => fList (List.replicate m.toNat zero).flatten fun z => fApp st.box [{ cells := z, e := e, fz := false }] fun bs => K (.ms b 0 n) { st with box := bs }
    | _, _ => false
  | .slice size x lo hi => match bev ρ x with
    | .p (.sl nl n cells) => match lo.map (bev ρ), hi.map (bev ρ) with
      | none, none => K (.p (.sl nl n cells)) st
      | some (.p (.v (.int _ a))), none => decide (0 ≤ a) && decide (a ≤ n) && Nat.beq cells.length (n * size) && fNat (n - a.toNat) fun m => fTail (bdrop cells (a.toNat * size)) fun l => K (.p (.sl nl m l)) st
      | none, some (.p (.v (.int _ b))) => decide (0 ≤ b) && decide (b ≤ n) && Nat.beq cells.length (n * size) && fNat b.toNat fun m => fList (btake cells (m * size)) fun l => K (.p (.sl nl m l)) st
      | some (.p (.v (.int _ a))), some (.p (.v (.int _ b))) => decide (0 ≤ a) && decide (a ≤ b) && decide (b ≤ n) && Nat.beq cells.length (n * size) &&
          fNat (b.toNat - a.toNat) fun m => fList (bdrop (btake cells (b.toNat * size)) (a.toNat * size)) fun l => K (.p (.sl nl m l)) st
      | _, _ => false
    | .grp g n cells => match lo.map (bev ρ), hi.map (bev ρ) with
      | none, none => K (.grp g n cells) st
      | some (.p (.v (.int _ a))), none => decide (0 ≤ a) && decide (a ≤ n) && Nat.beq cells.length (n * size) && fNat (n - a.toNat) fun m => fTail (bdrop cells (a.toNat * size)) fun l => K (.p (.sl (some false) m l)) st
      | none, some (.p (.v (.int _ b))) => decide (0 ≤ b) && decide (b ≤ n) && Nat.beq cells.length (n * size) && fNat b.toNat fun m => fList (btake cells (m * size)) fun l => K (.p (.sl (some false) m l)) st
      | some (.p (.v (.int _ a))), some (.p (.v (.int _ b))) => decide (0 ≤ a) && decide (a ≤ b) && decide (b ≤ n) && Nat.beq cells.length (n * size) &&
          fNat (b.toNat - a.toNat) fun m => fList (bdrop (btake cells (b.toNat * size)) (a.toNat * size)) fun l => K (.p (.sl (some false) m l)) st
      | _, _ => false
    | .ms b off n => match lo.map (bev ρ), hi.map (bev ρ) with
      | none, none => K (.ms b off n) st
      | some (.p (.v (.int _ a))), none => decide (0 ≤ a) && decide (a < n) && Nat.blt 0 size && fNat (off + a.toNat * size) fun off => fNat (n - a.toNat) fun n => K (.ms b off n) st
      | none, some (.p (.v (.int _ k))) => decide (0 ≤ k) && decide (k ≤ n) && fNat k.toNat fun n => K (.ms b off n) st
      | some (.p (.v (.int _ a))), some (.p (.v (.int _ k))) => decide (0 ≤ a) && decide (a < k) && decide (k ≤ n) && Nat.blt 0 size && fNat (off + a.toNat * size) fun off => fNat (k.toNat - a.toNat) fun n => K (.ms b off n) st
      | _, _ => false
    | _ => false
  | .extract x i => match bev ρ x with
    | .p (.tup ps) => match bnth ps i with | some p => fD (.p p) fun d => K d st | none => false
    | .tup ds => match bnth ds i with | some d => fD d fun d => K d st | none => false
    | _ => false
  | .call f args => fList (args.map (bev ρ)) fun ds => C f ds st K
  | .callv x args => match bev ρ x with
    | .fn (.func f) first captured => fList (first ++ args.map (bev ρ) ++ captured) fun ds => C f ds st K
    | _ => false
  | .fieldA off x => match bev ρ x with
    | .ptr b o => fNat (o + off) fun o => K (.ptr b o) st
    | .el cells => fTail (bdrop cells off) fun cells => K (.el cells) st
    | _ => false
  | .field off size x => match bev ρ x with
    | .p (.agg ps) => (match size with
      | none => (match bnth ps off with | some c => fD (.p c) fun d => K d st | none => false)
      | some s => bfits (off + s) ps && fList (btake (bdrop ps off) s) fun l => K (.p (.agg l)) st)
    | .agg ds => (match size with
      | none => (match bnth ds off with | some c => fD c fun d => K d st | none => false)
      | some s => bfits (off + s) ds && fAgg (btake (bdrop ds off) s) fun d => K d st)
    | _ => false
  | .index len size agg x i => match bev ρ x, bev ρ i with
    | .p (.agg ps), .p (.v (.int _ k)) => decide (0 ≤ k) && decide (k < len) && (bif agg then bfits (k.toNat * size + size) ps && fList (btake (bdrop ps (k.toNat * size)) size) fun l => K (.p (.agg l)) st
        else match bnth ps (k.toNat * size) with | some c => fD (.p c) fun d => K d st | none => false)
    | .agg ds, .p (.v (.int _ k)) => decide (0 ≤ k) && decide (k < len) && !agg && (match bnth ds (k.toNat * size) with | some c => fD c fun d => K d st | none => false)
    | _, _ => false
  | .nilck x => match bev ρ x with | .ptr b o => K (.ptr b o) st | .el cells => K (.el cells) st | _ => false
  | .mkfn f first captured => fList (first.map (bev ρ)) fun a => fList (captured.map (bev ρ)) fun b => K (.fn f a b) st
  | .minmax mx args => match args.map (bev ρ) with
    | [.p (.v (.int k a)), .p (.v (.int k' b))] => decide (k = k') && fInt (if mx then (if b > a then b else a) else (if b < a then b else a)) fun n => K (.p (.v (.int k n))) st
    | _ => false
  | .mkifc t x => fD (bev ρ x) fun d => K (.ifc t d) st
  | .eqN neg x y => match bev ρ x, bev ρ y with
    | .p (.sl (some nl) _ _), .p (.sl (some true) _ _) => fBool (nl ^^ neg) fun b => K (.p (.v (.bool b))) st
    | .grp _ _ _, .p (.sl (some true) _ _) => K (.p (.v (.bool neg))) st
    | .ms _ _ _, .p (.sl (some true) _ _) => K (.p (.v (.bool neg))) st
    | _, _ => false
  | .eqP neg x y => match bev ρ x, bev ρ y with
    | .ptr _ _, .p (.v (.pointer none)) => K (.p (.v (.bool neg))) st
    | .el _, .p (.v (.pointer none)) => K (.p (.v (.bool neg))) st
    | .p (.v (.pointer none)), .p (.v (.pointer none)) => fBool (!neg) fun b => K (.p (.v (.bool b))) st
    | _, _ => false
  | .bsliceM e n _ zero parts => fList (List.replicate n zero).flatten fun z => bfill z (parts.map fun q => (q.1, q.2.1, bev ρ q.2.2)) fun cs =>
      fNat st.box.length fun b => fApp st.box [{ cells := cs, e := e, fz := false, ap := true }] fun bs => K (.ms b 0 n) { st with box := bs }
  | .msliceP _ _ bytes zero l c => match bev ρ l, bev ρ c, allP zero with
    | .p (.v (.int _ n)), .p (.v (.int _ m)), some zs => decide (0 ≤ n) && decide (n ≤ m) && decide (m * bytes ≤ 281474976710656) && decide (m ≤ maxLen) &&
        fNat n.toNat fun n => fList (List.replicate n zs).flatten fun l => K (.p (.sl (some false) n l)) st
    | _, _, _ => false
  | .sliceA len size x => match bev ρ x with
    | .ptr b off => (match bnth st.box b with | some B => !B.fz && !B.ap && K (.ms b off len) st | none => false)
    | .el cells => bfits (len * size) cells && fList (btake cells (len * size)) fun l => K (.p (.sl (some false) len l)) st
    | _ => false
  | .copy size d s => match toP (bev ρ s), bev ρ d with
    | some (.sl _ m cells), .ms b off n => (match bnth st.box b with
      | some B => !B.fz && Nat.beq cells.length (m * size) && bfits (off + min m n * size) B.cells &&
          fNat (min m n) fun k => bput B.cells off ((btake cells (k * size)).map .p) fun cells => bset st.box b { B with cells := cells } fun bs => K (.p (.v (.int .i64 (.ofNat k)))) { st with box := bs }
      | none => false)
    | _, _ => false
  | .tassert t ok x => match bev ρ x with
    | .ifc u d => Nat.beq u t && Bool.rec (K d st) (fTup [d, .p (.v (.bool true))] fun d => K d st) ok
    | _ => false
  | .invk tbl x args => match bev ρ x with
    | .ifc t d => (match lookT tbl t with
      | some (f, false) => fList (d :: args.map (bev ρ)) fun ds => C f ds st K
      | some (f, true) => (match d with
        | .ptr b off => (match bnth st.box b with
          | some B => !B.fz && (match bnth B.cells off with | some d' => fD d' fun d' => fList (d' :: args.map (bev ρ)) fun ds => C f ds st K | none => false)
          | none => false)
        | _ => false)
      | none => false)
    | _ => false

/-- What is computed of calls is so. -/
noncomputable def CSound (CB : CallB) (C : CallW) : Prop := ∀ f ds st (K : D → St → Bool), CB f ds st K = true → C f ds st fun d st => K d st = true

theorem bOp_sound {CB : CallB} {C : CallW} (hC : CSound CB C) {ρ : Env} {st : St} {K : D → St → Bool} {op : AOp} (h : bOp CB ρ st K op = true) : wpOp C ρ st (fun d st => K d st = true) op := by
  cases op <;> simp only [bOp, bev_eq, bevf_eq, fD_eq, fInt_eq, fBool_eq, fNat_eq, fList_eq, fTail_eq, fApp_eq, fAgg_eq, fTup_eq, bset_eq, bnth_eq, bfits_eq, bdrop_eq, btake_eq] at h <;> simp only [wpOp]
  case mv => exact h
  case pick =>
    split at h
    · rename_i t ht
      simp only [ht]
      cases t
      · exact ⟨fun h => (Bool.false_ne_true h).elim, fun _ => h⟩
      · exact ⟨fun _ => h, fun h => (Bool.false_ne_true h.symm).elim⟩
    · exact (Bool.false_ne_true h).elim
  case bin =>
    split at h
    · rename_i h1 h2; simp only [h1, h2]; exact bBin_sound h
    · exact (Bool.false_ne_true h).elim
  case eqA =>
    split at h
    · rename_i h1 h2
      simp only [h1, h2]
      split at h
      · rename_i h3; exact ⟨_, h3, h⟩
      · exact (Bool.false_ne_true h).elim
    · exact (Bool.false_ne_true h).elim
  case idx => split at h <;> simp only [Bool.and_eq_true, decide_eq_true_eq, and_assoc, reduceCtorEq] at h <;> simp_all only [and_true]
  case store =>
    split at h
    · rename_i b off h1
      simp only [h1]
      split at h
      · rename_i B hB
        simp only [hB]
        simp only [Bool.and_eq_true, Nat.beq_eq, Nat.ble_eq, Bool.not_eq_true'] at h
        obtain ⟨⟨⟨⟨q1, q2⟩, q3⟩, q4⟩, q5⟩ := h
        rw [bput_eq _ _ _ _ (by omega)] at q5
        exact ⟨q1, q2, q3, q4, q5⟩
      · exact (Bool.false_ne_true h).elim
    · exact (Bool.false_ne_true h).elim
  case build =>
    obtain ⟨cs, h1, h2⟩ := bfill_sound _ _ _ h
    simp only [h1]; exact h2
  case bslice own e n size zero parts =>
    obtain ⟨cs, h1, h2⟩ := bfill_sound _ _ _ h
    simp only [h1, Option.bind_some]
    split at h2
    · rename_i ps hp
      simp only [hp]
      split at h2 <;> simp_all only [if_true, if_false, Bool.false_eq_true]
    · exact (Bool.false_ne_true h2).elim
  case append e size bytes s x =>
    split at h
    · rename_i nl m new h1
      simp only [h1]
      simp only [Bool.and_eq_true, Nat.beq_eq] at h
      refine ⟨h.1, ?_⟩
      replace h := h.2
      split at h
      · rename_i h2
        simp only [h2]
        simp only [Bool.and_eq_true, Nat.ble_eq] at h
        refine ⟨h.1.1, h.1.2, ?_⟩
        replace h := h.2
        split at h
        · rw [if_pos rfl]; exact h
        · rw [if_neg (Nat.succ_ne_zero _)]; exact h
      · rename_i g n cells h2
        simp only [h2]
        simp only [Bool.and_eq_true, Nat.beq_eq, Nat.ble_eq] at h
        obtain ⟨⟨⟨⟨q1, q2⟩, q3⟩, q4⟩, q5⟩ := h
        refine ⟨?_, q2, q3, q4, q5⟩
        split at q1
        · rename_i l e' h3
          simp only [Bool.and_eq_true, Nat.beq_eq, decide_eq_true_eq] at q1
          rw [h3, q1.1, q1.2]
        · exact (Bool.false_ne_true q1).elim
      · rename_i b off n h2
        simp only [h2]
        split at h
        · rename_i B hB
          simp only [hB]
          simp only [Bool.and_eq_true, Nat.beq_eq, Nat.ble_eq, Bool.not_eq_true', decide_eq_true_eq] at h
          obtain ⟨⟨⟨⟨⟨⟨⟨q1, q2⟩, q3⟩, q4⟩, q5⟩, q6⟩, q7⟩, q8⟩ := h
          refine ⟨q1, q2, q3, q4, q5, q6, q7, ?_⟩
          split at q8
          · rw [if_pos rfl]; exact q8
          · rw [if_neg (Nat.succ_ne_zero _)]; exact q8
        · exact (Bool.false_ne_true h).elim
      · exact (Bool.false_ne_true h).elim
    · exact (Bool.false_ne_true h).elim
  case minmax mx args =>
    split at h
    · rename_i h1
      simp only [h1]
      simp only [Bool.and_eq_true, decide_eq_true_eq] at h
      exact h
    · exact (Bool.false_ne_true h).elim
  case call => exact hC _ _ _ _ h
  case bsliceM =>
    obtain ⟨cs, h1, h2⟩ := bfill_sound _ _ _ h
    simp only [h1]; exact h2
  case copy =>
    split at h
    · rename_i nl m cells b off n h1 h2
      simp only [h1, h2]
      split at h
      · rename_i B hB
        simp only [hB]
        simp only [Bool.and_eq_true, Nat.beq_eq, Nat.ble_eq, Bool.not_eq_true'] at h
        obtain ⟨⟨⟨q1, q2⟩, q3⟩, q4⟩ := h
        rw [bput_eq _ _ _ _ (by omega)] at q4
        exact ⟨q1, q2, q3, q4⟩
      · exact (Bool.false_ne_true h).elim
    · exact (Bool.false_ne_true h).elim
  case tassert t ok x =>
    split at h
    · rename_i u d h1
      simp only [h1]
      simp only [Bool.and_eq_true, Nat.beq_eq] at h
      refine ⟨h.1, ?_⟩
      replace h := h.2
      cases ok
      · exact h
      · exact h
    · exact (Bool.false_ne_true h).elim
  case invk tbl x args =>
    split at h
    · rename_i t d h1
      simp only [h1]
      split at h
      · rename_i f h2
        simp only [h2]; exact hC _ _ _ _ h
      · rename_i f h2
        simp only [h2]
        split at h
        · split at h
          · rename_i B hB
            simp only [hB]
            simp only [Bool.and_eq_true, Bool.not_eq_true'] at h
            refine ⟨h.1, ?_⟩
            replace h := h.2
            split at h
            · rename_i d' hd
              exact ⟨d', hd, hC _ _ _ _ h⟩
            · exact (Bool.false_ne_true h).elim
          · exact (Bool.false_ne_true h).elim
        · exact (Bool.false_ne_true h).elim
      · exact (Bool.false_ne_true h).elim
    · exact (Bool.false_ne_true h).elim
  case callv =>
    split at h
    · rename_i h1; simp only [h1]; exact hC _ _ _ _ h
    · exact (Bool.false_ne_true h).elim
  all_goals (repeat' split at h) <;> (try simp only [Bool.and_eq_true, decide_eq_true_eq, Nat.beq_eq, Nat.ble_eq, Nat.blt_eq, Bool.not_eq_true', and_assoc, reduceCtorEq] at h) <;> first | exact h | (simp_all only [true_and, and_true]; done) | (simp_all; done) | skip
end Go.Ab
/- The abstract layer, part 20: annotated code that computes; calls of closed code. -/
namespace Go.Ab
open Go.RowKit

noncomputable def bSet (dst : Option Nat) (d : D) (ρ : Env) (f : Env → Bool) : Bool := match dst with | some t => f ((t, d) :: ρ) | none => f ρ
theorem bSet_eq (dst : Option Nat) (d : D) (ρ : Env) (f : Env → Bool) : bSet dst d ρ f = f (setD dst d ρ) := by cases dst <;> rfl

noncomputable def bR (C : CallB) (K : Env → St → Bool) (l : List AO) : Env → St → Bool :=
  List.rec (motive := fun _ => Env → St → Bool) K (fun a _ ih ρ st => match a.gd with
    | none => bOp C ρ st (fun d st' => bSet a.dst d ρ fun ρ => ih ρ st') a.op
    | some (t, want) => match bget ρ t with
      | .p (.v (.bool b)) => bif b == want then bOp C ((t, boolD want) :: ρ) st (fun d st' => bSet a.dst d ((t, boolD want) :: ρ) fun ρ => ih ρ st') a.op
          else fBool (!want) fun nw => bSet a.dst undefD ((t, boolD nw) :: ρ) fun ρ => ih ρ st
      | .p (.v (.tuple _)) => bSet a.dst undefD ρ fun ρ => ih ρ st
      | _ => false) l

noncomputable def bTouch (pl : List Nat) (ρ : Env) (op : AOp) : Bool := match touchB ρ op with | some i => !(pl.any fun j => Nat.beq i j) | none => true

noncomputable def bPlF (is : List (Nat × Nat)) (pl : List Nat) (f : List Nat → Bool) : Bool := match is with | (_, 1) :: _ => f [] | _ => f pl
theorem bPlF_eq (is : List (Nat × Nat)) (pl : List Nat) (f : List Nat → Bool) : bPlF is pl f = f (plF is pl) := by
  unfold bPlF
  split
  · rfl
  · rename_i h
    unfold plF
    split
    · exact absurd rfl (h _ _)
    · rfl

noncomputable def bDr (C : CallB) (K : Env → St → Bool) (l : List AO) : List Nat → List (Nat × Nat) → Env → St → Bool :=
  List.rec (motive := fun _ => List Nat → List (Nat × Nat) → Env → St → Bool) (fun _ _ => K) (fun a _ ih pl is ρ st => bPlF is pl fun pl => match a.gd with
    | none => bTouch pl ρ a.op && bOp C ρ st (fun d st' => fApp (readsB ρ a.op).toList pl fun pl => bSet a.dst d ρ fun ρ => ih pl is.tail ρ st') a.op
    | some (t, want) => match bget ρ t with
      | .p (.v (.bool b)) => bif b == want then bTouch pl ((t, boolD want) :: ρ) a.op && bOp C ((t, boolD want) :: ρ) st (fun d st' => fApp (readsB ((t, boolD want) :: ρ) a.op).toList pl fun pl => bSet a.dst d ((t, boolD want) :: ρ) fun ρ => ih pl is.tail ρ st') a.op
          else fBool (!want) fun nw => bSet a.dst undefD ((t, boolD nw) :: ρ) fun ρ => ih pl is.tail ρ st
      | .p (.v (.tuple _)) => bSet a.dst undefD ρ fun ρ => ih pl is.tail ρ st
      | _ => false) l

noncomputable def bDrs (C C' : CallB) (K : Env → St → Bool) (l : List Seg) : Env → St → Bool :=
  List.rec (motive := fun _ => Env → St → Bool) K (fun s _ ih => Bool.rec (bDr C' ih s.2.2 [] s.2.1) (bR C ih s.2.2) s.1) l

noncomputable def bThn (K : Env → St → Bool) (Q : Ax → Env → St → Bool) (x : Ax) : Env → St → Bool := match x with | .n => K | .x i => Q (.x i) | .r => Q .r
noncomputable def bBlk (id : Nat) (Q : Ax → Env → St → Bool) (x : Ax) : Env → St → Bool := match x with | .n => Q .n | .x i => bif Nat.beq i id then Q .n else Q (.x i) | .r => Q .r

noncomputable def bLoop (body : (Ax → Env → St → Bool) → Env → St → Bool) (keep : List Nat) (Q : Ax → Env → St → Bool) (k : Nat) : Env → St → Bool :=
  Nat.rec (motive := fun _ => Env → St → Bool) (fun _ _ => false) (fun _ ih ρ st => body (bThn (fun ρ' st' => bkeep ρ' keep fun ρ' => ih ρ' st') Q) ρ st) k

noncomputable def bA (C C' : CallB) (fuel : Nat) (ac : AC) : (Ax → Env → St → Bool) → Env → St → Bool :=
  AC.rec (motive := fun _ => (Ax → Env → St → Bool) → Env → St → Bool)
    (fun l Q ρ st => bR C (Q .n) l ρ st)
    (fun l Q ρ st => bDrs C C' (Q .n) l ρ st)
    (fun _ _ iha ihb Q ρ st => iha (bThn (ihb Q) Q) ρ st)
    (fun c _ _ iha ihb Q ρ st => match bev ρ c with | .p (.v (.bool t)) => Bool.rec (ihb Q ρ st) (iha Q ρ st) t | _ => false)
    (fun id _ ih Q ρ st => ih (bBlk id Q) ρ st)
    (fun keep _ ih Q ρ st => bkeep ρ keep fun ρ => bLoop ih keep Q fuel ρ st)
    (fun id Q ρ st => Q (.x id) ρ st)
    (fun Q ρ st => Q .r ρ st)
    (fun Q ρ st => Q .n ρ st) ac

section
variable {CB CB' : CallB} {C C' : CallW}

theorem bR_sound (hC : CSound CB C) (hm : CMono C) {K : Env → St → Bool} : ∀ (l : List AO) (ρ : Env) (st : St), bR CB K l ρ st = true → wpR C (fun ρ st => K ρ st = true) l ρ st
  | [], _, _, h => h
  | ⟨none, dst, op⟩ :: r, ρ, st, h => by
    have h : bOp CB ρ st (fun d st' => bSet dst d ρ fun ρ => bR CB K r ρ st') op = true := h
    simp only [bSet_eq] at h
    exact wpOp_mono hm (fun d st' h => bR_sound hC hm r _ _ h) (bOp_sound hC h)
  | ⟨some (t, want), dst, op⟩ :: r, ρ, st, h => by
    have h : (match bget ρ t with
      | .p (.v (.bool b)) => bif b == want then bOp CB ((t, boolD want) :: ρ) st (fun d st' => bSet dst d ((t, boolD want) :: ρ) fun ρ => bR CB K r ρ st') op
          else fBool (!want) fun nw => bSet dst undefD ((t, boolD nw) :: ρ) fun ρ => bR CB K r ρ st
      | .p (.v (.tuple _)) => bSet dst undefD ρ fun ρ => bR CB K r ρ st
      | _ => false) = true := h
    simp only [bSet_eq, fBool_eq, bget_eq] at h
    simp only [wpR]
    split at h
    · rename_i b hb
      simp only [hb]
      cases hw : b == want
      · rw [hw] at h
        have e : b = !want := by cases b <;> cases want <;> simp_all
        exact ⟨fun h' => by rw [h'] at hw; simp at hw, fun _ => bR_sound hC hm r _ _ h⟩
      · rw [hw] at h
        have e : b = want := by simpa using hw
        exact ⟨fun _ => wpOp_mono hm (fun d st' h => bR_sound hC hm r _ _ h) (bOp_sound hC h), fun h' => by rw [e] at h'; cases want <;> simp at h'⟩
    · rename_i x hb; simp only [hb]; exact bR_sound hC hm r _ _ h
    · exact (Bool.false_ne_true h).elim

theorem bTouch_sound {pl : List Nat} {ρ : Env} {op : AOp} (h : bTouch pl ρ op = true) : ∀ i, touchB ρ op = some i → i ∉ pl := by
  intro i hi hm
  unfold bTouch at h
  rw [hi] at h
  simp only [Bool.not_eq_true', List.any_eq_false, Nat.beq_eq] at h
  exact h i hm rfl

theorem bDr_sound (hC : CSound CB C) (hm : CMono C) {K : Env → St → Bool} : ∀ (l : List AO) (pl : List Nat) (is : List (Nat × Nat)) (ρ : Env) (st : St), bDr CB K l pl is ρ st = true → wpD C (fun ρ st => K ρ st = true) pl is l ρ st
  | [], _, _, _, _, h => h
  | ⟨none, dst, op⟩ :: r, pl, is, ρ, st, h => by
    have h : (bPlF is pl fun pl => (bTouch pl ρ op && bOp CB ρ st (fun d st' => fApp (readsB ρ op).toList pl fun pl => bSet dst d ρ fun ρ => bDr CB K r pl is.tail ρ st') op)) = true := h
    simp only [bPlF_eq, bSet_eq, fApp_eq, Bool.and_eq_true] at h
    exact ⟨bTouch_sound h.1, wpOp_mono hm (fun d st' h => bDr_sound hC hm r _ _ _ _ h) (bOp_sound hC h.2)⟩
  | ⟨some (t, want), dst, op⟩ :: r, pl, is, ρ, st, h => by
    have h : (bPlF is pl fun pl => (match bget ρ t with
      | .p (.v (.bool b)) => bif b == want then bTouch pl ((t, boolD want) :: ρ) op && bOp CB ((t, boolD want) :: ρ) st (fun d st' => fApp (readsB ((t, boolD want) :: ρ) op).toList pl fun pl => bSet dst d ((t, boolD want) :: ρ) fun ρ => bDr CB K r pl is.tail ρ st') op
          else fBool (!want) fun nw => bSet dst undefD ((t, boolD nw) :: ρ) fun ρ => bDr CB K r pl is.tail ρ st
      | .p (.v (.tuple _)) => bSet dst undefD ρ fun ρ => bDr CB K r pl is.tail ρ st
      | _ => false)) = true := h
    simp only [bPlF_eq, bSet_eq, fBool_eq, bget_eq, fApp_eq] at h
    simp only [wpD]
    split at h
    · rename_i b hb
      simp only [hb]
      cases hw : b == want
      · rw [hw] at h
        have e : b = !want := by cases b <;> cases want <;> simp_all
        exact ⟨fun h' => by rw [h'] at hw; simp at hw, fun _ => bDr_sound hC hm r _ _ _ _ h⟩
      · rw [hw] at h
        have e : b = want := by simpa using hw
        simp only [cond_true, Bool.and_eq_true] at h
        exact ⟨fun _ => ⟨bTouch_sound h.1, wpOp_mono hm (fun d st' h => bDr_sound hC hm r _ _ _ _ h) (bOp_sound hC h.2)⟩, fun h' => by rw [e] at h'; cases want <;> simp at h'⟩
    · rename_i x hb; simp only [hb]; exact bDr_sound hC hm r _ _ _ _ h
    · exact (Bool.false_ne_true h).elim

theorem bDrs_sound (hC : CSound CB C) (hm : CMono C) (hC' : CSound CB' C') (hm' : CMono C') {K : Env → St → Bool} : ∀ (l : List Seg) (ρ : Env) (st : St), bDrs CB CB' K l ρ st = true → wpDs C C' (fun ρ st => K ρ st = true) l ρ st
  | [], _, _, h => h
  | (true, is, l) :: r, ρ, st, h => wpR_mono hm (fun ρ st h => bDrs_sound hC hm hC' hm' r ρ st h) _ _ _ (bR_sound hC hm (K := bDrs CB CB' K r) l ρ st h)
  | (false, is, l) :: r, ρ, st, h => wpD_mono hm' (fun ρ st h => bDrs_sound hC hm hC' hm' r ρ st h) _ _ _ _ _ (bDr_sound hC' hm' (K := bDrs CB CB' K r) l [] is ρ st h)

theorem bThn_sound {K : Env → St → Bool} {Q : Ax → Env → St → Bool} {W : Env → St → Prop} {V : Ax → Env → St → Prop} (hK : ∀ ρ st, K ρ st = true → W ρ st) (hQ : ∀ x ρ st, Q x ρ st = true → V x ρ st) :
    ∀ x ρ st, bThn K Q x ρ st = true → Ax.thn W V x ρ st := by
  intro x ρ st h
  cases x <;> simp only [bThn, Ax.thn] at h ⊢
  · exact hK _ _ h
  · exact hQ _ _ _ h
  · exact hQ _ _ _ h

theorem bA_sound (hC : CSound CB C) (hm : CMono C) (hC' : CSound CB' C') (hm' : CMono C') (fuel : Nat) : ∀ (ac : AC) (Q : Ax → Env → St → Bool) (V : Ax → Env → St → Prop) (ρ : Env) (st : St), (∀ x ρ st, Q x ρ st = true → V x ρ st) →
    bA CB CB' fuel ac Q ρ st = true → wpA C C' ac V ρ st := by
  intro ac
  induction ac with
  | rg l => exact fun Q V ρ st hQ h => wpR_mono hm (fun ρ st h => hQ _ _ _ h) _ _ _ (bR_sound hC hm l ρ st h)
  | dr l => exact fun Q V ρ st hQ h => wpDs_mono hm hm' (fun ρ st h => hQ _ _ _ h) _ _ _ (bDrs_sound hC hm hC' hm' l ρ st h)
  | seq a b iha ihb => exact fun Q V ρ st hQ h => iha _ _ ρ st (bThn_sound (fun ρ st h => ihb _ _ ρ st hQ h) hQ) h
  | cond c a b iha ihb =>
    intro Q V ρ st hQ h
    have h : (match bev ρ c with | .p (.v (.bool t)) => Bool.rec (motive := fun _ => Bool) (bA CB CB' fuel b Q ρ st) (bA CB CB' fuel a Q ρ st) t | _ => false) = true := h
    simp only [bev_eq] at h
    simp only [wpA]
    split at h
    · rename_i t ht
      simp only [ht]
      cases t
      · exact ⟨fun h => (Bool.false_ne_true h).elim, fun _ => ihb _ _ ρ st hQ h⟩
      · exact ⟨fun _ => iha _ _ ρ st hQ h, fun h => (Bool.false_ne_true h.symm).elim⟩
    · exact (Bool.false_ne_true h).elim
  | blk id a ih =>
    refine fun Q V ρ st hQ h => ih _ _ ρ st (fun x ρ st h => ?_) h
    cases x <;> simp only [bBlk, Ax.blk] at h ⊢
    · exact hQ _ _ _ h
    · rename_i i
      by_cases hi : i = id
      · subst hi; simp only [Nat.beq_refl, cond_true] at h; simp only [if_true]; exact hQ _ _ _ h
      · rw [nbeq_false hi] at h; simp only [if_neg hi]; exact hQ _ _ _ h
    · exact hQ _ _ _ h
  | loop keep a ih =>
    intro Q V ρ st hQ h
    have h : (bkeep ρ keep fun ρ => bLoop (bA CB CB' fuel a) keep Q fuel ρ st) = true := h
    rw [bkeep_eq] at h
    refine ⟨fuel, ?_⟩
    have key : ∀ k ρ st, bLoop (bA CB CB' fuel a) keep Q k ρ st = true → LoopN (wpA C C' a) keep V k ρ st := by
      intro k
      induction k with
      | zero => intro ρ st h; exact (Bool.false_ne_true h).elim
      | succ k ihk =>
        intro ρ st h
        have h : bA CB CB' fuel a (bThn (fun ρ' st' => bkeep ρ' keep fun ρ' => bLoop (bA CB CB' fuel a) keep Q k ρ' st') Q) ρ st = true := h
        exact ih _ _ ρ st (bThn_sound (fun ρ st h => by rw [bkeep_eq] at h; exact ihk _ _ h) hQ) h
    exact key _ _ _ h
  | exit id => exact fun Q V ρ st hQ h => hQ _ _ _ h
  | ret => exact fun Q V ρ st hQ h => hQ _ _ _ h
  | skip => exact fun Q V ρ st hQ h => hQ _ _ _ h
end
end Go.Ab
/- The abstract layer: what computes goes on in one way only. -/
namespace Go.Ab
open Go.RowKit

def CLin (CB : CallB) : Prop := ∀ f ds st (K : D → St → Bool), CB f ds st K = true → ∃ d st', K d st' = true ∧ ∀ K' : D → St → Bool, K' d st' = true → CB f ds st K' = true

theorem bBin_lin {op : BinOp} {x y : Value} {K : Value → Bool} (h : bBin op x y K = true) : ∃ v, K v = true ∧ ∀ K' : Value → Bool, K' v = true → bBin op x y K' = true := by
  unfold bBin at h ⊢
  split at h
  · split at h <;> simp only [Bool.and_eq_true, fInt_eq, fBool_eq] at h ⊢ <;> exact ⟨_, h.2, fun K' hk => ⟨h.1, hk⟩⟩
  · cases h

theorem bfill_lin : ∀ (l : List (Nat × Nat × D)) (cells : List D) (f : List D → Bool), bfill cells l f = true → ∃ cs, f cs = true ∧ ∀ f' : List D → Bool, f' cs = true → bfill cells l f' = true
  | [], cells, f, h => ⟨cells, h, fun f' h => h⟩
  | (o, s, d) :: l, cells, f, h => by
    have h : (Nat.beq (cellsD d).length s && bfits (o + s) cells && (cellsD d).all oneD && bput cells o (cellsD d) fun cells => bfill cells l f) = true := h
    simp only [bfits_eq, Bool.and_eq_true, Nat.beq_eq, Nat.ble_eq] at h
    obtain ⟨⟨⟨h1, h2⟩, h3⟩, h4⟩ := h
    rw [bput_eq _ _ _ _ (by omega)] at h4
    obtain ⟨cs, q1, q2⟩ := bfill_lin l _ f h4
    refine ⟨cs, q1, fun f' hf => ?_⟩
    show (Nat.beq (cellsD d).length s && bfits (o + s) cells && (cellsD d).all oneD && bput cells o (cellsD d) fun cells => bfill cells l f') = true
    simp only [bfits_eq, Bool.and_eq_true, Nat.beq_eq, Nat.ble_eq]
    refine ⟨⟨⟨h1, h2⟩, h3⟩, ?_⟩
    rw [bput_eq _ _ _ _ (by omega)]
    exact q2 f' hf

theorem bOp_lin {CB : CallB} (hC : CLin CB) {ρ : Env} {st : St} {K : D → St → Bool} {op : AOp} (h : bOp CB ρ st K op = true) :
    ∃ d st', K d st' = true ∧ ∀ K' : D → St → Bool, K' d st' = true → bOp CB ρ st K' op = true := by
  cases op <;> simp only [bOp, bev_eq, bevf_eq, fD_eq, fInt_eq, fBool_eq, fNat_eq, fList_eq, fTail_eq, fApp_eq, fAgg_eq, fTup_eq, bset_eq, bnth_eq, bfits_eq, bdrop_eq, btake_eq] at h ⊢
  case call => exact hC _ _ _ _ h
  case callv =>
    split at h
    · exact hC _ _ _ _ h
    · cases h
  case bin =>
    split at h
    · obtain ⟨v, h1, h2⟩ := bBin_lin h; exact ⟨_, _, h1, fun K' hk => h2 _ hk⟩
    · cases h
  case build => obtain ⟨cs, h1, h2⟩ := bfill_lin _ _ _ h; exact ⟨_, _, h1, fun K' hk => h2 _ hk⟩
  case store =>
    split at h
    · split at h
      · simp only [Bool.and_eq_true, Nat.beq_eq, Nat.ble_eq, Bool.not_eq_true'] at h ⊢
        obtain ⟨⟨⟨⟨q1, q2⟩, q3⟩, q4⟩, q5⟩ := h
        rw [bput_eq _ _ _ _ (by omega)] at q5
        refine ⟨_, _, q5, fun K' hk => ⟨⟨⟨⟨q1, q2⟩, q3⟩, q4⟩, ?_⟩⟩
        rw [bput_eq _ _ _ _ (by omega)]; exact hk
      · cases h
    · cases h
  case bslice =>
    obtain ⟨cs, h1, h2⟩ := bfill_lin _ _ _ h
    split at h1
    · rename_i ps hp
      split at h1
      · rename_i ho; exact ⟨_, _, h1, fun K' hk => h2 _ (by simp only [hp]; rw [if_pos ho]; exact hk)⟩
      · rename_i ho; exact ⟨_, _, h1, fun K' hk => h2 _ (by simp only [hp]; rw [if_neg ho]; exact hk)⟩
    · cases h1
  case pick =>
    split at h
    · rename_i t ht
      cases t
      · exact ⟨_, _, h, fun K' hk => hk⟩
      · exact ⟨_, _, h, fun K' hk => hk⟩
    · cases h
  case append =>
    split at h
    · simp only [Bool.and_eq_true] at h ⊢
      obtain ⟨h0, h⟩ := h
      split at h
      · simp only [Bool.and_eq_true] at h ⊢
        obtain ⟨h1, h⟩ := h
        split at h <;> exact ⟨_, _, h, fun K' hk => ⟨h0, h1, hk⟩⟩
      · simp only [Bool.and_eq_true] at h ⊢
        exact ⟨_, _, h.2, fun K' hk => ⟨h0, h.1, hk⟩⟩
      · split at h
        · simp only [Bool.and_eq_true] at h ⊢
          obtain ⟨h1, h⟩ := h
          split at h <;> exact ⟨_, _, h, fun K' hk => ⟨h0, h1, hk⟩⟩
        · cases h
      · cases h
    · cases h
  case bsliceM => obtain ⟨cs, h1, h2⟩ := bfill_lin _ _ _ h; exact ⟨_, _, h1, fun K' hk => h2 _ hk⟩
  case copy =>
    split at h
    · split at h
      · simp only [Bool.and_eq_true, Nat.beq_eq, Nat.ble_eq, Bool.not_eq_true'] at h ⊢
        obtain ⟨⟨⟨q1, q2⟩, q3⟩, q4⟩ := h
        rw [bput_eq _ _ _ _ (by omega)] at q4
        refine ⟨_, _, q4, fun K' hk => ⟨⟨⟨q1, q2⟩, q3⟩, ?_⟩⟩
        rw [bput_eq _ _ _ _ (by omega)]; exact hk
      · cases h
    · cases h
  case tassert t ok x =>
    split at h
    · simp only [Bool.and_eq_true] at h ⊢
      obtain ⟨h0, h⟩ := h
      cases ok
      · exact ⟨_, _, h, fun K' hk => ⟨h0, hk⟩⟩
      · exact ⟨_, _, h, fun K' hk => ⟨h0, hk⟩⟩
    · cases h
  case invk tbl x args =>
    split at h
    · split at h
      · exact hC _ _ _ _ h
      · split at h
        · split at h
          · simp only [Bool.and_eq_true] at h ⊢
            obtain ⟨h0, h⟩ := h
            split at h
            · obtain ⟨d, st', h1, h2⟩ := hC _ _ _ _ h
              exact ⟨d, st', h1, fun K' hk => ⟨h0, h2 K' hk⟩⟩
            · cases h
          · cases h
        · cases h
      · cases h
    · cases h
  case index len size agg x i =>
    split at h
    · cases agg
      · simp only [Bool.and_eq_true, cond_false] at h ⊢
        obtain ⟨h1, h⟩ := h
        split at h
        · exact ⟨_, _, h, fun K' hk => ⟨h1, hk⟩⟩
        · cases h
      · simp only [Bool.and_eq_true, cond_true] at h ⊢
        exact ⟨_, _, h.2.2, fun K' hk => ⟨h.1, h.2.1, hk⟩⟩
    · simp only [Bool.and_eq_true] at h ⊢
      obtain ⟨h1, h⟩ := h
      split at h
      · exact ⟨_, _, h, fun K' hk => ⟨h1, hk⟩⟩
      · cases h
    · cases h
  case minmax =>
    split at h
    · simp only [Bool.and_eq_true] at h ⊢
      exact ⟨_, _, h.2, fun K' hk => ⟨h.1, hk⟩⟩
    · cases h
  all_goals (repeat' split at h) <;> (try simp only [Bool.and_eq_true] at h ⊢) <;> first
    | exact ⟨_, _, h, fun K' hk => hk⟩
    | exact ⟨_, _, h.2, fun K' hk => ⟨h.1, hk⟩⟩
    | (cases h; done)
    | (cases h.2; done)

theorem bR_lin {CB : CallB} (hC : CLin CB) : ∀ (l : List AO) (ρ : Env) (st : St) (K : Env → St → Bool), bR CB K l ρ st = true → ∃ ρ' st', K ρ' st' = true ∧ ∀ K' : Env → St → Bool, K' ρ' st' = true → bR CB K' l ρ st = true
  | [], ρ, st, K, h => ⟨ρ, st, h, fun K' h => h⟩
  | ⟨none, dst, op⟩ :: r, ρ, st, K, h => by
    have e : ∀ K : Env → St → Bool, bR CB K (⟨none, dst, op⟩ :: r) ρ st = bOp CB ρ st (fun d st' => bR CB K r (setD dst d ρ) st') op := fun K => by
      show bOp CB ρ st (fun d st' => bSet dst d ρ fun ρ => bR CB K r ρ st') op = _
      simp only [bSet_eq]
    rw [e] at h
    obtain ⟨d, st1, h1, h2⟩ := bOp_lin hC h
    obtain ⟨ρ', st', h3, h4⟩ := bR_lin hC r _ _ K h1
    exact ⟨ρ', st', h3, fun K' hk => by rw [e]; exact h2 _ (h4 K' hk)⟩
  | ⟨some (t, want), dst, op⟩ :: r, ρ, st, K, h => by
    have e : ∀ K : Env → St → Bool, bR CB K (⟨some (t, want), dst, op⟩ :: r) ρ st = (match ρ.get t with
      | .p (.v (.bool b)) => bif b == want then bOp CB ((t, boolD want) :: ρ) st (fun d st' => bR CB K r (setD dst d ((t, boolD want) :: ρ)) st') op
          else bR CB K r (setD dst undefD ((t, boolD (!want)) :: ρ)) st
      | .p (.v (.tuple _)) => bR CB K r (setD dst undefD ρ) st
      | _ => false) := fun K => by
      show (match bget ρ t with
      | .p (.v (.bool b)) => bif b == want then bOp CB ((t, boolD want) :: ρ) st (fun d st' => bSet dst d ((t, boolD want) :: ρ) fun ρ => bR CB K r ρ st') op
          else fBool (!want) fun nw => bSet dst undefD ((t, boolD nw) :: ρ) fun ρ => bR CB K r ρ st
      | .p (.v (.tuple _)) => bSet dst undefD ρ fun ρ => bR CB K r ρ st
      | _ => false) = _
      simp only [bSet_eq, fBool_eq, bget_eq]
    rw [e] at h
    split at h
    · rename_i b hb
      cases hw : b == want
      · rw [hw] at h
        obtain ⟨ρ', st', h3, h4⟩ := bR_lin hC r _ _ K h
        exact ⟨ρ', st', h3, fun K' hk => by rw [e]; simp only [hb, hw]; exact h4 K' hk⟩
      · rw [hw] at h
        obtain ⟨d, st1, h1, h2⟩ := bOp_lin hC h
        obtain ⟨ρ', st', h3, h4⟩ := bR_lin hC r _ _ K h1
        exact ⟨ρ', st', h3, fun K' hk => by rw [e]; simp only [hb, hw]; exact h2 _ (h4 K' hk)⟩
    · rename_i x hb
      obtain ⟨ρ', st', h3, h4⟩ := bR_lin hC r _ _ K h
      exact ⟨ρ', st', h3, fun K' hk => by rw [e]; simp only [hb]; exact h4 K' hk⟩
    · cases h

theorem bDr_lin {CB : CallB} (hC : CLin CB) : ∀ (l : List AO) (pl : List Nat) (is : List (Nat × Nat)) (ρ : Env) (st : St) (K : Env → St → Bool), bDr CB K l pl is ρ st = true → ∃ ρ' st', K ρ' st' = true ∧ ∀ K' : Env → St → Bool, K' ρ' st' = true → bDr CB K' l pl is ρ st = true
  | [], pl, is, ρ, st, K, h => ⟨ρ, st, h, fun K' h => h⟩
  | ⟨none, dst, op⟩ :: r, pl, is, ρ, st, K, h => by
    have e : ∀ K : Env → St → Bool, bDr CB K (⟨none, dst, op⟩ :: r) pl is ρ st = (bTouch (plF is pl) ρ op && bOp CB ρ st (fun d st' => bDr CB K r ((readsB ρ op).toList ++ plF is pl) is.tail (setD dst d ρ) st') op) := fun K => by
      show (bPlF is pl fun pl => (bTouch pl ρ op && bOp CB ρ st (fun d st' => fApp (readsB ρ op).toList pl fun pl => bSet dst d ρ fun ρ => bDr CB K r pl is.tail ρ st') op)) = _
      simp only [bPlF_eq, bSet_eq, fApp_eq]
    rw [e] at h
    simp only [Bool.and_eq_true] at h
    obtain ⟨d, st1, h1, h2⟩ := bOp_lin hC h.2
    obtain ⟨ρ', st', h3, h4⟩ := bDr_lin hC r _ _ _ _ K h1
    exact ⟨ρ', st', h3, fun K' hk => by rw [e]; simp only [Bool.and_eq_true]; exact ⟨h.1, h2 _ (h4 K' hk)⟩⟩
  | ⟨some (t, want), dst, op⟩ :: r, pl, is, ρ, st, K, h => by
    have e : ∀ K : Env → St → Bool, bDr CB K (⟨some (t, want), dst, op⟩ :: r) pl is ρ st = (match ρ.get t with
      | .p (.v (.bool b)) => bif b == want then bTouch (plF is pl) ((t, boolD want) :: ρ) op && bOp CB ((t, boolD want) :: ρ) st (fun d st' => bDr CB K r ((readsB ((t, boolD want) :: ρ) op).toList ++ plF is pl) is.tail (setD dst d ((t, boolD want) :: ρ)) st') op
          else bDr CB K r (plF is pl) is.tail (setD dst undefD ((t, boolD (!want)) :: ρ)) st
      | .p (.v (.tuple _)) => bDr CB K r (plF is pl) is.tail (setD dst undefD ρ) st
      | _ => false) := fun K => by
      show (bPlF is pl fun pl => (match bget ρ t with
      | .p (.v (.bool b)) => bif b == want then bTouch pl ((t, boolD want) :: ρ) op && bOp CB ((t, boolD want) :: ρ) st (fun d st' => fApp (readsB ((t, boolD want) :: ρ) op).toList pl fun pl => bSet dst d ((t, boolD want) :: ρ) fun ρ => bDr CB K r pl is.tail ρ st') op
          else fBool (!want) fun nw => bSet dst undefD ((t, boolD nw) :: ρ) fun ρ => bDr CB K r pl is.tail ρ st
      | .p (.v (.tuple _)) => bSet dst undefD ρ fun ρ => bDr CB K r pl is.tail ρ st
      | _ => false)) = _
      simp only [bPlF_eq, bSet_eq, fBool_eq, bget_eq, fApp_eq]
    rw [e] at h
    split at h
    · rename_i b hb
      cases hw : b == want
      · rw [hw] at h
        obtain ⟨ρ', st', h3, h4⟩ := bDr_lin hC r _ _ _ _ K h
        exact ⟨ρ', st', h3, fun K' hk => by rw [e]; simp only [hb, hw]; exact h4 K' hk⟩
      · rw [hw] at h
        simp only [cond_true, Bool.and_eq_true] at h
        obtain ⟨d, st1, h1, h2⟩ := bOp_lin hC h.2
        obtain ⟨ρ', st', h3, h4⟩ := bDr_lin hC r _ _ _ _ K h1
        exact ⟨ρ', st', h3, fun K' hk => by rw [e]; simp only [hb, hw, cond_true, Bool.and_eq_true]; exact ⟨h.1, h2 _ (h4 K' hk)⟩⟩
    · rename_i x hb
      obtain ⟨ρ', st', h3, h4⟩ := bDr_lin hC r _ _ _ _ K h
      exact ⟨ρ', st', h3, fun K' hk => by rw [e]; simp only [hb]; exact h4 K' hk⟩
    · cases h

theorem bDrs_lin {CB CB' : CallB} (hC : CLin CB) (hC' : CLin CB') : ∀ (l : List Seg) (ρ : Env) (st : St) (K : Env → St → Bool), bDrs CB CB' K l ρ st = true → ∃ ρ' st', K ρ' st' = true ∧ ∀ K' : Env → St → Bool, K' ρ' st' = true → bDrs CB CB' K' l ρ st = true
  | [], ρ, st, K, h => ⟨ρ, st, h, fun K' h => h⟩
  | (true, is, l) :: r, ρ, st, K, h => by
    obtain ⟨ρ1, st1, h1, h2⟩ := bR_lin hC l ρ st (bDrs CB CB' K r) h
    obtain ⟨ρ2, st2, h3, h4⟩ := bDrs_lin hC hC' r ρ1 st1 K h1
    exact ⟨ρ2, st2, h3, fun K' hk => h2 (bDrs CB CB' K' r) (h4 K' hk)⟩
  | (false, is, l) :: r, ρ, st, K, h => by
    obtain ⟨ρ1, st1, h1, h2⟩ := bDr_lin hC' l [] is ρ st (bDrs CB CB' K r) h
    obtain ⟨ρ2, st2, h3, h4⟩ := bDrs_lin hC hC' r ρ1 st1 K h1
    exact ⟨ρ2, st2, h3, fun K' hk => h2 (bDrs CB CB' K' r) (h4 K' hk)⟩

theorem bA_lin {CB CB' : CallB} (hC : CLin CB) (hC' : CLin CB') (fuel : Nat) : ∀ (ac : AC) (Q : Ax → Env → St → Bool) (ρ : Env) (st : St), bA CB CB' fuel ac Q ρ st = true →
    ∃ x ρ' st', Q x ρ' st' = true ∧ ∀ Q' : Ax → Env → St → Bool, Q' x ρ' st' = true → bA CB CB' fuel ac Q' ρ st = true := by
  intro ac
  induction ac with
  | rg l => intro Q ρ st h; obtain ⟨ρ', st', h1, h2⟩ := bR_lin hC l ρ st (Q .n) h; exact ⟨.n, ρ', st', h1, fun Q' hq => h2 (Q' .n) hq⟩
  | dr l => intro Q ρ st h; obtain ⟨ρ', st', h1, h2⟩ := bDrs_lin hC hC' l ρ st (Q .n) h; exact ⟨.n, ρ', st', h1, fun Q' hq => h2 (Q' .n) hq⟩
  | seq a b iha ihb =>
    intro Q ρ st h
    obtain ⟨x, ρ1, st1, h1, h2⟩ := iha (bThn (bA CB CB' fuel b Q) Q) ρ st h
    cases x with
    | n =>
      obtain ⟨y, ρ', st', h3, h4⟩ := ihb Q ρ1 st1 h1
      exact ⟨y, ρ', st', h3, fun Q' hq => h2 (bThn (bA CB CB' fuel b Q') Q') (h4 Q' hq)⟩
    | x i => exact ⟨.x i, ρ1, st1, h1, fun Q' hq => h2 (bThn (bA CB CB' fuel b Q') Q') hq⟩
    | r => exact ⟨.r, ρ1, st1, h1, fun Q' hq => h2 (bThn (bA CB CB' fuel b Q') Q') hq⟩
  | cond c a b iha ihb =>
    intro Q ρ st h
    have e : ∀ Q : Ax → Env → St → Bool, bA CB CB' fuel (.cond c a b) Q ρ st = (match ev ρ c with | .p (.v (.bool t)) => Bool.rec (motive := fun _ => Bool) (bA CB CB' fuel b Q ρ st) (bA CB CB' fuel a Q ρ st) t | _ => false) := fun Q => by
      show (match bev ρ c with | .p (.v (.bool t)) => Bool.rec (motive := fun _ => Bool) (bA CB CB' fuel b Q ρ st) (bA CB CB' fuel a Q ρ st) t | _ => false) = _
      simp only [bev_eq]
    rw [e] at h
    split at h
    · rename_i t ht
      cases t
      · obtain ⟨x, ρ', st', h1, h2⟩ := ihb Q ρ st h; exact ⟨x, ρ', st', h1, fun Q' hq => by rw [e]; simp only [ht]; exact h2 Q' hq⟩
      · obtain ⟨x, ρ', st', h1, h2⟩ := iha Q ρ st h; exact ⟨x, ρ', st', h1, fun Q' hq => by rw [e]; simp only [ht]; exact h2 Q' hq⟩
    · cases h
  | blk id a ih =>
    intro Q ρ st h
    obtain ⟨x, ρ1, st1, h1, h2⟩ := ih (bBlk id Q) ρ st h
    cases x with
    | n => exact ⟨.n, ρ1, st1, h1, fun Q' hq => h2 (bBlk id Q') hq⟩
    | x i =>
      simp only [bBlk] at h1
      cases hi : Nat.beq i id
      · rw [hi] at h1; exact ⟨.x i, ρ1, st1, h1, fun Q' hq => h2 (bBlk id Q') (by simp only [bBlk, hi]; exact hq)⟩
      · rw [hi] at h1; exact ⟨.n, ρ1, st1, h1, fun Q' hq => h2 (bBlk id Q') (by simp only [bBlk, hi]; exact hq)⟩
    | r => exact ⟨.r, ρ1, st1, h1, fun Q' hq => h2 (bBlk id Q') hq⟩
  | loop keep a ih =>
    intro Q ρ st h
    have e : ∀ Q : Ax → Env → St → Bool, bA CB CB' fuel (.loop keep a) Q ρ st = bLoop (bA CB CB' fuel a) keep Q fuel (ρ.keep keep) st := fun Q => by
      show (bkeep ρ keep fun ρ => bLoop (bA CB CB' fuel a) keep Q fuel ρ st) = _
      rw [bkeep_eq]
    have key : ∀ k ρ st, bLoop (bA CB CB' fuel a) keep Q k ρ st = true → ∃ x ρ' st', Q x ρ' st' = true ∧ ∀ Q' : Ax → Env → St → Bool, Q' x ρ' st' = true → bLoop (bA CB CB' fuel a) keep Q' k ρ st = true := by
      intro k
      induction k with
      | zero => intro ρ st h; cases h
      | succ k ihk =>
        intro ρ st h
        have e : ∀ Q : Ax → Env → St → Bool, bLoop (bA CB CB' fuel a) keep Q (k + 1) ρ st = bA CB CB' fuel a (bThn (fun ρ' st' => bLoop (bA CB CB' fuel a) keep Q k (ρ'.keep keep) st') Q) ρ st := fun Q => by
          show bA CB CB' fuel a (bThn (fun ρ' st' => bkeep ρ' keep fun ρ' => bLoop (bA CB CB' fuel a) keep Q k ρ' st') Q) ρ st = _
          simp only [bkeep_eq]
        rw [e] at h
        obtain ⟨x, ρ1, st1, h1, h2⟩ := ih _ ρ st h
        cases x with
        | n =>
          obtain ⟨y, ρ', st', h3, h4⟩ := ihk _ _ h1
          exact ⟨y, ρ', st', h3, fun Q' hq => by rw [e]; exact h2 _ (h4 Q' hq)⟩
        | x i => exact ⟨.x i, ρ1, st1, h1, fun Q' hq => by rw [e]; exact h2 _ hq⟩
        | r => exact ⟨.r, ρ1, st1, h1, fun Q' hq => by rw [e]; exact h2 _ hq⟩
    rw [e] at h
    obtain ⟨x, ρ', st', h1, h2⟩ := key _ _ _ h
    exact ⟨x, ρ', st', h1, fun Q' hq => by rw [e]; exact h2 Q' hq⟩
  | exit id => exact fun Q ρ st h => ⟨.x id, ρ, st, h, fun Q' hq => hq⟩
  | ret => exact fun Q ρ st h => ⟨.r, ρ, st, h, fun Q' hq => hq⟩
  | skip => exact fun Q ρ st h => ⟨.n, ρ, st, h, fun Q' hq => hq⟩
end Go.Ab
/- The abstract layer, part 21: closed calls that compute. -/
namespace Go.Ab
open Go.RowKit

noncomputable def bRes1 (ρ : Env) (st : St) (K : D → Bool) : ARes → Bool
  | .tmp t => fD (bget ρ t) K
  | .cell t none => match bget ρ t with
    | .ptr b off => match bnth st.box b with | some B => !B.fz && (match bnth B.cells off with | some d => fD d K | none => false) | none => false
    | _ => false
  | .cell t (some size) => match bget ρ t with
    | .ptr b off => match bnth st.box b with | some B => !B.fz && bfits (off + size) B.cells && fAgg (btake (bdrop B.cells off) size) K | none => false
    | _ => false
noncomputable def bRes (ρ : Env) (st : St) (l : List ARes) : (List D → Bool) → Bool :=
  List.rec (motive := fun _ => (List D → Bool) → Bool) (fun K => K []) (fun r _ ih K => bRes1 ρ st (fun d => ih fun ds => K (d :: ds)) r) l

theorem bRes1_sound {ρ : Env} {st : St} {K : D → Bool} {V : D → Prop} (hK : ∀ d, K d = true → V d) {r : ARes} (h : bRes1 ρ st K r = true) : wpRes1 ρ st V r := by
  unfold bRes1 at h
  simp only [bget_eq, fD_eq, fAgg_eq, bnth_eq, bfits_eq, bdrop_eq, btake_eq] at h
  unfold wpRes1
  split at h
  · exact hK _ h
  · split at h
    · rename_i h1; simp only [h1]
      split at h
      · rename_i h2; simp only [h2]
        simp only [Bool.and_eq_true, Bool.not_eq_true'] at h
        obtain ⟨h0, h⟩ := h
        split at h
        · rename_i d h3; exact ⟨h0, d, h3, hK _ h⟩
        · exact (Bool.false_ne_true h).elim
      · exact (Bool.false_ne_true h).elim
    · exact (Bool.false_ne_true h).elim
  · split at h
    · rename_i h1; simp only [h1]
      split at h
      · rename_i h2; simp only [h2]
        simp only [Bool.and_eq_true, Nat.ble_eq, Bool.not_eq_true'] at h
        exact ⟨h.1.1, h.1.2, hK _ h.2⟩
      · exact (Bool.false_ne_true h).elim
    · exact (Bool.false_ne_true h).elim

theorem bRes_sound {ρ : Env} {st : St} : ∀ {l : List ARes} {K : List D → Bool} {V : List D → Prop}, (∀ d, K d = true → V d) → bRes ρ st l K = true → wpRes ρ st V l
  | [], _, _, hK, h => hK _ h
  | r :: l, K, V, hK, h => by
    have h : bRes1 ρ st (fun d => bRes ρ st l fun ds => K (d :: ds)) r = true := h
    exact bRes1_sound (fun d h => bRes_sound (fun ds h => hK _ h) h) h

noncomputable def fRes (ds : List D) (f : D → Bool) : Bool := match ds with | [d] => f d | ds => fTup ds f
theorem fRes_eq (ds : List D) (f : D → Bool) : fRes ds f = f (resOf ds) := by
  unfold fRes resOf; split <;> simp only [fTup_eq]

noncomputable def bRet (ars : List ARes) (K : D → St → Bool) : Ax → Env → St → Bool
  | .x _, _, _ => false
  | .n, ρ, st => bRes ρ st ars fun ds => fRes ds fun d => K d st
  | .r, ρ, st => bRes ρ st ars fun ds => fRes ds fun d => K d st

theorem bRet_sound {ars : List ARes} {K : D → St → Bool} {V : D → St → Prop} (hK : ∀ d st, K d st = true → V d st) : ∀ x ρ st, bRet ars K x ρ st = true → retQ ars V x ρ st := by
  intro x ρ st h
  cases x <;> simp only [bRet, fRes_eq] at h <;> simp only [retQ]
  · exact bRes_sound (fun ds h => hK _ _ h) h
  · exact (Bool.false_ne_true h).elim
  · exact bRes_sound (fun ds h => hK _ _ h) h

/-! ### Equality of pure data, worked out -/
noncomputable def eqL (e : PD → PD → Bool) (l : List PD) : List PD → Bool :=
  List.rec (motive := fun _ => List PD → Bool) (fun l' => List.rec (motive := fun _ => Bool) true (fun _ _ _ => false) l') (fun x _ ih l' => List.rec (motive := fun _ => Bool) false (fun y r _ => e x y && ih r) l') l
theorem eqL_spec {e : PD → PD → Bool} (he : ∀ x y, e x y = true → x = y) : ∀ (l l' : List PD), eqL e l l' = true → l = l'
  | [], [], _ => rfl
  | [], _ :: _, h => by cases h
  | _ :: _, [], h => by cases h
  | x :: l, y :: l', h => by
    have h : (e x y && eqL e l l') = true := h
    simp only [Bool.and_eq_true] at h
    rw [he x y h.1, eqL_spec he l l' h.2]
noncomputable def eqP : Nat → PD → PD → Bool
  | 0, _, _ => false
  | d + 1, x, y => match x, y with
    | .v (.int k a), .v (.int k' b) => decide (k = k') && decide (a = b)
    | .v (.bool a), .v (.bool b) => a == b
    | .sl nl n l, .sl nl' n' l' => decide (nl = nl') && Nat.beq n n' && eqL (eqP d) l l'
    | .agg l, .agg l' => eqL (eqP d) l l'
    | .tup l, .tup l' => eqL (eqP d) l l'
    | _, _ => false
theorem eqP_spec : ∀ (d : Nat) (x y : PD), eqP d x y = true → x = y
  | 0, _, _, h => by simp [eqP] at h
  | d + 1, x, y, h => by
    have ih := eqL_spec (eqP_spec d)
    simp only [eqP] at h
    split at h
    · simp only [Bool.and_eq_true, decide_eq_true_eq] at h; rw [h.1, h.2]
    · simp only [beq_iff_eq] at h; rw [h]
    · simp only [Bool.and_eq_true, decide_eq_true_eq, Nat.beq_eq] at h; rw [h.1.1, h.1.2, ih _ _ h.2]
    · rw [ih _ _ h]
    · rw [ih _ _ h]
    · cases h
noncomputable def eqPD (x y : PD) : Bool := eqP 5 x y
theorem eqPD_spec (x y : PD) (h : eqPD x y = true) : x = y := eqP_spec 5 x y h
noncomputable def eqDp : List D → List PD → Bool
  | [], [] => true
  | .p x :: l, y :: l' => eqPD x y && eqDp l l'
  | _, _ => false
theorem eqDp_spec : ∀ {l : List D} {l' : List PD}, eqDp l l' = true → l = l'.map .p
  | [], [], _ => rfl
  | d :: l, y :: l', h => by
    cases d <;> simp only [eqDp, Bool.and_eq_true, Bool.false_eq_true] at h
    rw [eqPD_spec _ _ h.1, eqDp_spec h.2]; rfl
  | [], _ :: _, h => by simp [eqDp] at h
  | d :: _, [], h => by cases d <;> simp [eqDp] at h

/-- Calls whose results are known. -/
abbrev Kn := List (FuncId × List PD × PD)
def KnOK (P : Program) (kn : Kn) : Prop := ∀ r ∈ kn, PurFn P r.1 (r.2.1.map .p) r.2.2
theorem KnOK.nil {P : Program} : KnOK P [] := fun _ h => by cases h
theorem KnOK.cons {P : Program} {f : FuncId} {args : List PD} {x : PD} {kn : Kn} (h : PurFn P f (args.map .p) x) (hk : KnOK P kn) : KnOK P ((f, args, x) :: kn) := fun r hr => by
  rcases List.mem_cons.1 hr with rfl | hr
  · exact h
  · exact hk r hr

/-- What is known of a call. -/
noncomputable def bKn (kn : Kn) (f : FuncId) (ds : List D) : Option PD := List.rec (motive := fun _ => Option PD) none (fun r _ ih => Bool.rec ih (Bool.rec ih (some r.2.2) (eqDp ds r.2.1)) (Nat.beq f r.1)) kn
theorem bKn_spec {P : Program} : ∀ {kn : Kn}, KnOK P kn → ∀ {f : FuncId} {ds : List D} {x : PD}, bKn kn f ds = some x → ∃ args, toAs ds = some args ∧ PurFn P f args x
  | [], _, f, ds, x, h => by cases h
  | r :: kn, hk, f, ds, x, h => by
    have h : Bool.rec (motive := fun _ => Option PD) (bKn kn f ds) (Bool.rec (motive := fun _ => Option PD) (bKn kn f ds) (some r.2.2) (eqDp ds r.2.1)) (Nat.beq f r.1) = some x := h
    have ih := bKn_spec (kn := kn) (fun r hr => hk r (List.mem_cons_of_mem _ hr)) (f := f) (ds := ds) (x := x)
    cases h1 : Nat.beq f r.1 with
    | false => rw [h1] at h; exact ih h
    | true =>
      rw [h1] at h
      cases h2 : eqDp ds r.2.1 with
      | false => rw [h2] at h; exact ih h
      | true =>
        rw [h2] at h
        have h : some r.2.2 = some x := h
        simp only [Option.some.injEq] at h
        subst h
        have he := eqDp_spec h2
        rw [Nat.beq_eq] at h1
        subst h1
        refine ⟨ds, ?_, by rw [he]; exact hk r (by simp)⟩
        rw [he]
        generalize r.2.1 = l
        induction l with
        | nil => rfl
        | cons y l ih => simp only [List.map_cons, toAs, toA, toP, Option.map_some, ih]

noncomputable def bShare (tbl : Tbl) (kn : Kn) (fuel : Nat) (c c' : CallB) : CallB := fun f ds st K => match bKn kn f ds with
  | some x => K (.p x) st
  | none => match tbl f with
    | some (ac, ars, n) => Nat.ble ds.length n && bA c c' fuel ac (bRet ars K) (argsEnv 0 ds) st
    | none => false
noncomputable def fP (x : PD) (f : PD → Bool) : Bool := match x with
  | .v v => fVal v fun v => f (.v v)
  | .sl nl n cells => fNat n fun n => fList cells fun cells => f (.sl nl n cells)
  | .agg cells => fList cells fun cells => f (.agg cells)
  | .tup cells => fList cells fun cells => f (.tup cells)
theorem fP_eq (x : PD) (f : PD → Bool) : fP x f = f x := by cases x <;> simp only [fP, fVal_eq, fNat_eq, fList_eq]

noncomputable def bPure (tbl : Tbl) (kn : Kn) (fuel : Nat) (c c' : CallB) : CallB := fun f ds st K => match bKn kn f ds with
  | some x => K (.p x) st
  | none => match tbl f with
  | some (ac, ars, n) => Nat.ble ds.length n && (match toAs ds with
    | some args => fList args fun args => bA c c' fuel ac (bRet ars fun x st' => match viewD st'.box 3 x with | some d => fP d fun d => K (.p d) st | none => false) (argsEnv 0 args) ⟨[], []⟩
    | none => match viewAs st.box ds with
      | some args => fList args fun args => bA c c' fuel ac (bRet ars fun x st' => match viewD st'.box 3 x with | some d => flatP d && fP d fun d => K (.p d) st | none => false) (argsEnv 0 args) ⟨[], []⟩
      | none => false)
  | none => false
noncomputable def bCalls (tbl : Tbl) (kn : Kn) (fuel k : Nat) : CallB × CallB :=
  Nat.rec (fun _ _ _ _ => false, fun _ _ _ _ => false) (fun _ ih => (bShare tbl kn fuel ih.1 ih.2, bPure tbl kn fuel ih.1 ih.2)) k

theorem argsEnv_fList (l : List D) (f : List D → Bool) : fList l f = f l := fList_eq l f

section
variable {P : Program} {c : Ctx}

theorem toAs_len : ∀ {ds xs : List D}, toAs ds = some xs → xs.length = ds.length
  | [], xs, h => by simp only [toAs, Option.some.injEq] at h; subst h; rfl
  | d :: r, xs, h => by
    simp only [toAs] at h
    split at h
    · rename_i h1 h2; simp only [Option.some.injEq] at h; subst h; simp [toAs_len h2]
    · cases h
theorem viewAs_len {bs : List Box} : ∀ {ds xs : List D}, viewAs bs ds = some xs → xs.length = ds.length
  | [], xs, h => by simp only [viewAs, Option.some.injEq] at h; subst h; rfl
  | d :: r, xs, h => by
    simp only [viewAs] at h
    split at h
    · rename_i h1 h2; simp only [Option.some.injEq] at h; subst h; simp [viewAs_len h2]
    · cases h

theorem bRes1_lin {ρ : Env} {st : St} {K : D → Bool} {r : ARes} (h : bRes1 ρ st K r = true) : ∃ d, K d = true ∧ ∀ K' : D → Bool, K' d = true → bRes1 ρ st K' r = true := by
  unfold bRes1 at h ⊢
  simp only [bget_eq, fD_eq, fAgg_eq, bnth_eq, bfits_eq, bdrop_eq, btake_eq] at h ⊢
  split at h
  · exact ⟨_, h, fun K' hk => hk⟩
  · split at h
    · split at h
      · simp only [Bool.and_eq_true] at h ⊢
        obtain ⟨h0, h⟩ := h
        split at h
        · exact ⟨_, h, fun K' hk => ⟨h0, hk⟩⟩
        · cases h
      · cases h
    · cases h
  · split at h
    · split at h
      · simp only [Bool.and_eq_true] at h ⊢
        exact ⟨_, h.2, fun K' hk => ⟨h.1, hk⟩⟩
      · cases h
    · cases h

theorem bRes_lin {ρ : Env} {st : St} : ∀ {l : List ARes} {K : List D → Bool}, bRes ρ st l K = true → ∃ ds, K ds = true ∧ ∀ K' : List D → Bool, K' ds = true → bRes ρ st l K' = true
  | [], K, h => ⟨[], h, fun K' hk => hk⟩
  | r :: l, K, h => by
    have h : bRes1 ρ st (fun d => bRes ρ st l fun ds => K (d :: ds)) r = true := h
    obtain ⟨d, h1, h2⟩ := bRes1_lin h
    obtain ⟨ds, h3, h4⟩ := bRes_lin h1
    exact ⟨d :: ds, h3, fun K' hk => h2 (fun d => bRes ρ st l fun ds => K' (d :: ds)) (h4 (fun ds => K' (d :: ds)) hk)⟩

theorem bRet_lin {ars : List ARes} {K : D → St → Bool} {x : Ax} {ρ : Env} {st : St} (h : bRet ars K x ρ st = true) : ∃ d, K d st = true ∧ ∀ K' : D → St → Bool, K' d st = true → bRet ars K' x ρ st = true := by
  cases x <;> simp only [bRet, fRes_eq] at h ⊢
  · obtain ⟨ds, h1, h2⟩ := bRes_lin h; exact ⟨_, h1, fun K' hk => h2 (fun ds => K' (resOf ds) st) hk⟩
  · cases h
  · obtain ⟨ds, h1, h2⟩ := bRes_lin h; exact ⟨_, h1, fun K' hk => h2 (fun ds => K' (resOf ds) st) hk⟩

/-- A run yields one result. -/
theorem bRun_lin {CB CB' : CallB} (hC : CLin CB) (hC' : CLin CB') {fuel : Nat} {ac : AC} {ars : List ARes} {K : D → St → Bool} {ρ : Env} {st : St} (h : bA CB CB' fuel ac (bRet ars K) ρ st = true) :
    ∃ d st', K d st' = true ∧ ∀ K' : D → St → Bool, K' d st' = true → bA CB CB' fuel ac (bRet ars K') ρ st = true := by
  obtain ⟨x, ρ', st', h1, h2⟩ := bA_lin hC hC' fuel ac _ ρ st h
  obtain ⟨d, h3, h4⟩ := bRet_lin h1
  exact ⟨d, st', h3, fun K' hk => h2 _ (h4 K' hk)⟩

theorem bCalls_lin (tbl : Tbl) (kn : Kn) (fuel : Nat) : ∀ k, CLin (bCalls tbl kn fuel k).1 ∧ CLin (bCalls tbl kn fuel k).2 := by
  intro k
  induction k with
  | zero => exact ⟨fun f ds st K h => (Bool.false_ne_true h).elim, fun f ds st K h => (Bool.false_ne_true h).elim⟩
  | succ k ih =>
    obtain ⟨ih1, ih2⟩ := ih
    refine ⟨fun f ds st K h => ?_, fun f ds st K h => ?_⟩
    · have h : bShare tbl kn fuel (bCalls tbl kn fuel k).1 (bCalls tbl kn fuel k).2 f ds st K = true := h
      show ∃ d st', K d st' = true ∧ ∀ K' : D → St → Bool, K' d st' = true → bShare tbl kn fuel (bCalls tbl kn fuel k).1 (bCalls tbl kn fuel k).2 f ds st K' = true
      unfold bShare at h ⊢
      split at h
      · exact ⟨_, _, h, fun K' hk => hk⟩
      · split at h
        · simp only [Bool.and_eq_true] at h ⊢
          obtain ⟨d, st', h1, h2⟩ := bRun_lin ih1 ih2 h.2
          exact ⟨d, st', h1, fun K' hk => ⟨h.1, h2 K' hk⟩⟩
        · cases h
    · have h : bPure tbl kn fuel (bCalls tbl kn fuel k).1 (bCalls tbl kn fuel k).2 f ds st K = true := h
      show ∃ d st', K d st' = true ∧ ∀ K' : D → St → Bool, K' d st' = true → bPure tbl kn fuel (bCalls tbl kn fuel k).1 (bCalls tbl kn fuel k).2 f ds st K' = true
      unfold bPure at h ⊢
      split at h
      · exact ⟨_, _, h, fun K' hk => hk⟩
      split at h
      · simp only [Bool.and_eq_true, fList_eq, fP_eq] at h ⊢
        obtain ⟨h0, h⟩ := h
        split at h
        · obtain ⟨d, st', h1, h2⟩ := bRun_lin ih1 ih2 h
          split at h1
          · rename_i x hx
            exact ⟨_, _, h1, fun K' hk => ⟨h0, h2 (fun x st' => match viewD st'.box 3 x with | some d => K' (.p d) st | none => false) (by simp only [hx]; exact hk)⟩⟩
          · cases h1
        · split at h
          · obtain ⟨d, st', h1, h2⟩ := bRun_lin ih1 ih2 h
            split at h1
            · rename_i x hx
              simp only [Bool.and_eq_true] at h1
              exact ⟨_, _, h1.2, fun K' hk => ⟨h0, h2 (fun x st' => match viewD st'.box 3 x with | some d => flatP d && K' (.p d) st | none => false) (by simp only [hx, Bool.and_eq_true]; exact ⟨h1.1, hk⟩)⟩⟩
            · cases h1
          · cases h
      · cases h

theorem bCalls_sound (hm : P.follows .mixedOrders = true) {tbl : Tbl} (ht : TblOK P tbl) {kn : Kn} (hkn : KnOK P kn) (fuel : Nat) : ∀ k, (∀ c, CSound (bCalls tbl kn fuel k).1 (CW P c fun _ => True)) ∧ CSound (bCalls tbl kn fuel k).2 (CP P) := by
  classical
  intro k
  induction k with
  | zero => exact ⟨fun c f ds st K h => (Bool.false_ne_true h).elim, fun f ds st K h => (Bool.false_ne_true h).elim⟩
  | succ k ih =>
    obtain ⟨ih1, ih2⟩ := ih
    refine ⟨fun c f ds st K h => ?_, fun f ds st K h => ?_⟩
    · have h : bShare tbl kn fuel (bCalls tbl kn fuel k).1 (bCalls tbl kn fuel k).2 f ds st K = true := h
      unfold bShare at h
      split at h
      · rename_i x hx
        obtain ⟨args, ha, hp⟩ := bKn_spec hkn hx
        exact hp.cw ha h
      split at h
      · rename_i ac ars n hf
        obtain ⟨hcall, fn, g, hfn, hc, hle⟩ := ht f ac ars n hf
        simp only [Bool.and_eq_true, Nat.ble_eq] at h
        exact CW.of_wpA hm hcall hfn hc (by omega) (fun c' => bA_sound (ih1 c') .cmono ih2 .cmono fuel ac _ _ _ _ (bRet_sound fun d st h => h) h.2)
      · exact (Bool.false_ne_true h).elim
    · have h : bPure tbl kn fuel (bCalls tbl kn fuel k).1 (bCalls tbl kn fuel k).2 f ds st K = true := h
      unfold bPure at h
      split at h
      · rename_i x hx
        obtain ⟨args, ha, hp⟩ := bKn_spec hkn hx
        exact ⟨x, ⟨args, .inl ha, hp⟩, h⟩
      split at h
      · rename_i ac ars n hf
        obtain ⟨hcall, fn, g, hfn, hc, hle⟩ := ht f ac ars n hf
        simp only [Bool.and_eq_true, Nat.ble_eq, fList_eq, fP_eq] at h
        obtain ⟨hlen, h⟩ := h
        have pur : ∀ {args : List D} {x : D} {st' : St} {p : PD}, args.length = ds.length → viewD st'.box 3 x = some p →
            (∀ K' : D → St → Bool, K' x st' = true → bA (bCalls tbl kn fuel k).1 (bCalls tbl kn fuel k).2 fuel ac (bRet ars K') (argsEnv 0 args) ⟨[], []⟩ = true) → PurFn P f args p := fun {args x st' p} hl hp h => by
          have h := h (fun y st2 => decide (viewD st2.box 3 y = some p)) (by simpa using hp)
          exact PurFn.ofV hm hcall hfn hc (by omega) (fun c => bA_sound (ih1 c) .cmono ih2 .cmono fuel ac _ _ _ _ (bRet_sound fun d st h => by simpa using h) h)
        obtain ⟨lin1, lin2⟩ := bCalls_lin tbl kn fuel k
        split at h
        · rename_i args ha
          obtain ⟨x, st', h1, h2⟩ := bRun_lin lin1 lin2 h
          split at h1
          · rename_i p hp
            exact ⟨p, ⟨args, .inl ha, pur (toAs_len ha) hp h2⟩, h1⟩
          · exact (Bool.false_ne_true h1).elim
        · split at h
          · rename_i args ha
            obtain ⟨x, st', h1, h2⟩ := bRun_lin lin1 lin2 h
            split at h1
            · rename_i p hp
              simp only [Bool.and_eq_true] at h1
              exact ⟨p, ⟨args, .inr ⟨ha, h1.1⟩, pur (viewAs_len ha) hp h2⟩, h1.2⟩
            · exact (Bool.false_ne_true h1).elim
          · exact (Bool.false_ne_true h).elim
      · exact (Bool.false_ne_true h).elim

/-- A closed call that is worked out. -/
theorem PurFn.of_run (hm : P.follows .mixedOrders = true) {tbl : Tbl} (ht : TblOK P tbl) {kn : Kn} (hkn : KnOK P kn) {fuel k : Nat} {f : FuncId} {ac : AC} {ars : List ARes} {n : Nat} (hf : tbl f = some (ac, ars, n)) {args : List D} (hn : Nat.ble args.length n = true)
    (h : bA (bCalls tbl kn fuel k).1 (bCalls tbl kn fuel k).2 fuel ac (bRet ars fun d _ => match d with | .p (.v (.bool b)) => b | _ => false) (argsEnv 0 args) ⟨[], []⟩ = true) : PurFn P f args (.v (.bool true)) := by
  obtain ⟨hcall, fn, g, hfn, hc, hle⟩ := ht f ac ars n hf
  refine PurFn.of hm hcall hfn hc (by rw [Nat.ble_eq] at hn; omega) (fun c => bA_sound ((bCalls_sound hm ht hkn fuel k).1 c) .cmono (bCalls_sound hm ht hkn fuel k).2 .cmono fuel ac _ _ _ _ (bRet_sound fun d st h => ?_) h)
  split at h
  · subst h; exact .p _
  · exact (Bool.false_ne_true h).elim

/-- A closed call, and what it returns. -/
theorem PurFn.of_run2 (hm : P.follows .mixedOrders = true) {tbl : Tbl} (ht : TblOK P tbl) {kn : Kn} (hkn : KnOK P kn) {fuel k : Nat} {f : FuncId} {ac : AC} {ars : List ARes} {n : Nat} (hf : tbl f = some (ac, ars, n)) {args : List PD} {d : PD} (hn : Nat.ble args.length n = true)
    (h : bA (bCalls tbl kn fuel k).1 (bCalls tbl kn fuel k).2 fuel ac (bRet ars fun x st => match viewD st.box 3 x with | some y => fP y fun y => eqPD y d | none => false) (argsEnv 0 (args.map .p)) ⟨[], []⟩ = true) : PurFn P f (args.map .p) d := by
  obtain ⟨hcall, fn, g, hfn, hc, hle⟩ := ht f ac ars n hf
  refine PurFn.ofV hm hcall hfn hc (by rw [Nat.ble_eq] at hn; simp; omega) (fun c => bA_sound ((bCalls_sound hm ht hkn fuel k).1 c) .cmono (bCalls_sound hm ht hkn fuel k).2 .cmono fuel ac _ _ _ _ (bRet_sound fun x st h => ?_) h)
  split at h
  · rename_i y hy
    rw [fP_eq] at h
    rw [hy, eqPD_spec _ _ h]
  · exact (Bool.false_ne_true h).elim

end
end Go.Ab
