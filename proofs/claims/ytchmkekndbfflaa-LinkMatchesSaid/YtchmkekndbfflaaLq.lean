/- The channel's functions as relations; small functions of the laws. -/
import Derived.Test.YtchmkekndbfflaaLm
import Derived.Test.YtchmkekndbfflaaLp
set_option linter.unusedSimpArgs false
set_option linter.unusedVariables false
set_option maxRecDepth 20000
set_option maxHeartbeats 2000000
namespace Go.Ab
open Go.Proofs
def boolM (b : Bool) : Int := if b then 1 else 0
def wantE (k : Nat) : tChoice.den := (3, (4, (0, (k : Int) + 1)))
def wantL (n : Nat) : List tChoice.den := (List.range n).map wantE
def sL (u : Int) (n : Nat) : List PT := (List.range n).map fun k : Nat => (u, ((k : Int), wantE k))
theorem sL_mem {u : Int} {n : Nat} {y : PT} (h : y ∈ sL u n) : y.1 = u ∧ y.2.1 < n := by
  simp only [sL, List.mem_map, List.mem_range] at h
  obtain ⟨k, hk, rfl⟩ := h
  exact ⟨rfl, by simp; omega⟩
theorem sL_succ (u : Int) (n : Nat) : sL u (n + 1) = insP (u, ((n : Int), wantE n)) (sL u n) := by
  rw [insP_last fun y hy => ?_]
  · simp [sL, List.range_succ]
  · have := sL_mem hy
    unfold ltP; simp only; omega
theorem sL_takeWhile {u t : Int} {n : Nat} : (sL u n).takeWhile (dueT t) = if u ≤ t then sL u n else [] := by
  split
  · have key : ∀ l : List PT, (∀ y ∈ l, y.1 = u) → l.takeWhile (dueT t) = l := by
      intro l
      induction l with
      | nil => intro _; rfl
      | cons y l ih =>
        intro hl
        have := hl y List.mem_cons_self
        rw [List.takeWhile, show dueT t y = true by simp [dueT]; omega]
        simp [ih fun z hz => hl z (List.mem_cons_of_mem _ hz)]
    exact key _ fun y hy => (sL_mem hy).1
  · cases h : sL u n with
    | nil => rfl
    | cons y l =>
      have := (sL_mem (h ▸ List.mem_cons_self : y ∈ sL u n)).1
      simp [List.takeWhile, dueT, show ¬ y.1 ≤ t by omega]
theorem sL_dropWhile {u t : Int} {n : Nat} : (sL u n).dropWhile (dueT t) = if u ≤ t then [] else sL u n := by
  have h := List.takeWhile_append_dropWhile (p := dueT t) (l := sL u n)
  rw [sL_takeWhile] at h
  split <;> simp_all
theorem sL_map (u : Int) (n : Nat) : (sL u n).map (fun x => x.2.2) = wantL n := by simp [sL, wantL]
theorem lq_want (k : Nat) (h : k < 1000) : lcheckM (wantE k) = 0 := by unfold lcheckM wantE; simp only []; grind
theorem SQ.hears {q s : List PT} {n : Nat} {t : Int} (h : SQ q n s) : hearO t n q = (s.takeWhile (dueT t)).map (fun x => x.2.2) ∧ hearN t n q = (s.dropWhile (dueT t)).length ∧ SQ (hearQ t n q) (hearN t n q) (s.dropWhile (dueT t)) ∧ (hearQ t n q).length = q.length := by
  obtain ⟨q', h1, h2, h3⟩ := h.hear (t := t) (out := [])
  unfold hearO hearN hearQ
  rw [h1]
  exact ⟨by simp, rfl, h2, h3⟩
theorem fates_nil : ∀ i, gtR tI (fatesM []) i = 0 := by
  intro i
  simp only [fatesM, gtR, List.nil_append, List.getD_eq_getElem?_getD, List.getElem?_replicate]
  split <;> rfl
theorem fates_rep {n : Nat} {d : Int} : ∀ i : Int, gtR tI (fatesM (List.replicate n d)) i = if i.toNat < n then d else 0 := by
  intro i
  simp only [fatesM, gtR, List.getD_eq_getElem?_getD, List.length_replicate, List.getElem?_append, List.getElem?_replicate]
  by_cases h : i.toNat < n
  · simp [h]
  · simp only [h, if_false]; split <;> rfl
theorem fates_wrong {l : List Int} (h : ∀ x ∈ l, -1 ≤ x ∧ x ≤ 8) (k : l.length ≤ 256) : wrongM l = 0 := by
  unfold wrongM
  rw [if_neg (by omega), if_neg]
  simp only [Bool.not_eq_true, List.any_eq_false, badM, decide_eq_true_eq]
  intro x hx; have := h x hx; omega
theorem wrong_rep {n : Nat} {d : Int} (h : -1 ≤ d) (h' : d ≤ 8) (k : n ≤ 256) : wrongM (List.replicate n d) = 0 :=
  fates_wrong (fun x hx => by have := List.eq_of_mem_replicate hx; omega) (by rw [List.length_replicate]; exact k)
/-- Two channels and lists. -/
def stLL (Fa : List Int) (ta sa : Int) (Na na : Nat) (qa : List PT) (Fb : List Int) (tb sb : Int) (Nb nb : Nat) (qb : List PT) (g : List (Nat × Nat)) : StS :=
  ⟨[{ cells := [.arr 256 tI Fa, .p (iv ta), .p (iv sa), .ptr 1 0], e := 73, fz := false }, { cells := [.ms 2 0 6 none na], e := 70, fz := false }, { cells := [.arr Na tPar qa], e := 49, fz := false, ap := true },
    { cells := [.arr 256 tI Fb, .p (iv tb), .p (iv sb), .ptr 4 0], e := 73, fz := false }, { cells := [.ms 5 0 6 none nb], e := 70, fz := false }, { cells := [.arr Nb tPar qb], e := 49, fz := false, ap := true }], g⟩
theorem tI_rem {x : Int} {m : Int} (h : 0 ≤ x ∧ x < 256) (hm : 0 < m) : arR .rem .i64 (IntKind.i64.wrap x) m = x % m := by
  rw [wrap64 (by omega) (by omega)]
  exact Int.tmod_eq_emod_of_nonneg h.1
def eqCh (a b : List tChoice.den) : Bool := decide (a = b)
theorem cChoices' (na : Option Bool) (a : List tChoice.den) (nb : Option Bool) (b : List tChoice.den) (h : Short 900 a) : PurS Try.prog 17 [injT (.sl tChoice) (na, a), injT (.sl tChoice) (nb, b)] (.sb (eqCh a b)) :=
  cChoices na a nb b _ rfl (by have := Short_iff.1 h; omega)

/-- Send: what it returns and leaves, told by new names. -/
structure SENTR (F : List Int) (now sent : Int) (N n : Nat) (q : List tPar.den) (t : Int) (x : tChoice.den) (e now' sent' : Int) (N' n' : Nat) (q' : List tPar.den) : Prop where
  he : e = sendE F now sent n t x
  hnow : now' = sendNow F now sent n t x
  hsent : sent' = sendSent F now sent n t x
  hN : N' = sendCap F now sent N n t x
  hn : n' = sendN F now sent n t x
  hq : q' = sendQ F now sent n q t x
structure SENT (F : List Int) (now sent : Int) (N n : Nat) (q : List tPar.den) (t : Int) (x : tChoice.den) (K : Int → Int → Int → Nat → Nat → List tPar.den → Prop) : Prop where
  pre : SENDK F sent N n q
  h : ∀ e now' sent' N' n' q', SENTR F now sent N n q t x e now' sent' N' n' q' → K e now' sent' N' n' q'
def spSendR : OpsS → CallS := fun _ _ ds st K => match ds with
  | [.ptr a 0, .p (.v (.int .i64 t)), x] => (match getT tChoice x with
    | some x => linkAt a st fun b c F now sent N n q => SENT F now sent N n q t x fun e now' sent' N' n' q' => frS [a, b, c] [] [.ptr 0 0, .p (iv t), injT tChoice x] (linkS F now sent N n q) (.p (iv e))
        (linkE F now' sent' N' n' q') ds st K
    | none => False)
  | _ => False
theorem cSendR : ∀ ds st K, spSendR OpsS.real 13 ds st K → FnS Try.prog 13 ds st K := fun ds st K h => by
  unfold spSendR at h
  split at h
  · split at h
    · obtain ⟨b, c, F, now, sent, N, n, q, hu⟩ := linkAt_some h
      obtain ⟨h1, h2, h3, h4, h5, h6⟩ := hu.pre.h
      exact frS_ok (cSend F now sent N n q _ _ h1 h2 h3 h4 h5 h6) (hu.h _ _ _ _ _ _ ⟨rfl, rfl, rfl, rfl, rfl, rfl⟩)
    · exact h.elim
  · exact h.elim
structure HEAR (now t : Int) (N n : Nat) (q : List tPar.den) (K : Nat → List tPar.den → List tChoice.den → Prop) : Prop where
  pre : HEARK now t N n q
  h : ∀ n' q' o, n' = hearN t n q → q' = hearQ t n q → o = hearO t n q → K n' q' o
def spHearR : OpsS → CallS := fun o _ ds st K => match ds with
  | [.ptr a 0, .p (.v (.int .i64 t))] => linkAt a st fun b c F now sent N n q => HEAR now t N n q fun n' q' out => frS [a, b, c] [] [.ptr 0 0, .p (iv t)] (linkS F now sent N n q) (.tup [.og 0 tChoice out, .p (iv 0)])
      (linkG F t sent N n' q' [(o.ml (o.ln tChoice out) 4, 33)]) ds st K
  | _ => False
theorem cHearR : ∀ ds st K, spHearR OpsS.real 15 ds st K → FnS Try.prog 15 ds st K := fun ds st K h => by
  unfold spHearR at h
  split at h
  · obtain ⟨b, c, F, now, sent, N, n, q, hu⟩ := linkAt_some h
    obtain ⟨h1, h2, h3, h4⟩ := hu.pre.h
    exact frS_ok (cHear F now sent N n _ q _ _ _ _ rfl rfl h1 h2 h3 h4) (hu.h _ _ _ rfl rfl rfl)
  · exact h.elim
theorem SENTR.good {F : List Int} {now sent t : Int} {N n : Nat} {q s : List PT} {x : tChoice.den} {e now' sent' : Int} {N' n' : Nat} {q' : List tPar.den} (r : SENTR F now sent N n q t x e now' sent' N' n' q')
    (h : SQ q n s) (hq : q.length = N) (hs : ∀ y ∈ s, y.2.1 < sent) (ht : atM now t = 0) (hc : lcheckM x = 0) (hn : n < 64) :
    e = 0 ∧ now' = t ∧ sent' = sent + 1 ∧ SQ q' n' (sIns F sent t x s) ∧ q'.length = N' ∧ n' ≤ n + 1 := by
  obtain ⟨rfl, rfl, rfl, rfl, rfl, rfl⟩ := r
  exact h.send hq hs ht hc hn
theorem BR.lss {cmp : BinOp → Int → Int → Bool} (h : cmp = cmpR) {x y : Int} {A B : Prop} (t : x < y → A) (f : ¬ x < y → B) : BR (cmp .lss x y) A B := by
  subst h; refine ⟨fun h => t (by simpa [cmpR] using h), fun h => f (by simpa [cmpR] using h)⟩
theorem BR.leq {cmp : BinOp → Int → Int → Bool} (h : cmp = cmpR) {x y : Int} {A B : Prop} (t : x ≤ y → A) (f : ¬ x ≤ y → B) : BR (cmp .leq x y) A B := by
  subst h; refine ⟨fun h => t (by simpa [cmpR] using h), fun h => f (by simpa [cmpR] using h)⟩
theorem BR.eql {cmp : BinOp → Int → Int → Bool} (h : cmp = cmpR) {x y : Int} {A B : Prop} (t : x = y → A) (f : ¬ x = y → B) : BR (cmp .eql x y) A B := by
  subst h; refine ⟨fun h => t (by simpa [cmpR] using h), fun h => f (by simpa [cmpR] using h)⟩
theorem BR.neq {cmp : BinOp → Int → Int → Bool} (h : cmp = cmpR) {x y : Int} {A B : Prop} (t : x ≠ y → A) (f : ¬ x ≠ y → B) : BR (cmp .neq x y) A B := by
  subst h; refine ⟨fun h => t (by simpa [cmpR] using h), fun h => f (by simpa [cmpR] using h)⟩
theorem BR.gtr {cmp : BinOp → Int → Int → Bool} (h : cmp = cmpR) {x y : Int} {A B : Prop} (t : x > y → A) (f : ¬ x > y → B) : BR (cmp .gtr x y) A B := by
  subst h; refine ⟨fun h => t (by simpa [cmpR] using h), fun h => f (by simpa [cmpR] using h)⟩
theorem BR.geq {cmp : BinOp → Int → Int → Bool} (h : cmp = cmpR) {x y : Int} {A B : Prop} (t : x ≥ y → A) (f : ¬ x ≥ y → B) : BR (cmp .geq x y) A B := by
  subst h; refine ⟨fun h => t (by simpa [cmpR] using h), fun h => f (by simpa [cmpR] using h)⟩
theorem BR.nn {cmp : BinOp → Int → Int → Bool} (h : cmp = cmpR) {x : Int} {A B : Prop} (f : B) : BR (cmp .neq x x) A B := BR.neq h (fun h => absurd rfl h) fun _ => f
theorem fates_nil_b : ∀ i, -1 ≤ gtR tI (fatesM []) i ∧ gtR tI (fatesM []) i ≤ 8 := fun i => by rw [fates_nil]; exact ⟨by decide, by decide⟩
theorem fates_rep_b {n : Nat} {d : Int} (h : 0 ≤ d ∧ d ≤ 8) : ∀ i, -1 ≤ gtR tI (fatesM (List.replicate n d)) i ∧ gtR tI (fatesM (List.replicate n d)) i ≤ 8 := fun i => by
  rw [fates_rep]
  split
  · exact ⟨by show (-1 : Int) ≤ d; omega, h.2⟩
  · exact ⟨by decide, by decide⟩
theorem INB.of {k n : Int} (h : 0 ≤ k ∧ k < n) : INB k n := ⟨h.1, h.2⟩
theorem sL_len (u : Int) (n : Nat) : (sL u n).length = n := by simp [sL]
theorem sL_send {q1 : List PT} {n1 k : Nat} {F : List Int} {j u : Int} (h : SQ q1 n1 (sIns F j 10 (wantE k) (sL u k))) (hf : fateM F j = u - 10) (hu : 10 ≤ u) (hj : j = k) : n1 = k + 1 ∧ SQ q1 (k + 1) (sL u (k + 1)) := by
  have e : sIns F j 10 (wantE k) (sL u k) = sL u (k + 1) := by
    unfold sIns
    rw [if_neg (by omega), hf, show 10 + (u - 10) = u by omega, hj, sL_succ]
  rw [e] at h
  have := h.len
  rw [sL_len] at this
  subst this
  exact ⟨rfl, h⟩
end Go.Ab

