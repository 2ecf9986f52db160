/- The closure of Plan that looks for a cycle with room. -/
import Derived.Test.YtgcfdghbnpjpbaaLd
set_option linter.unusedSimpArgs false
set_option linter.unusedVariables false
set_option maxRecDepth 20000
set_option maxHeartbeats 4000000
namespace Go.Ab
open Go.Proofs
abbrev tME : Ty := tEnt .i64 tI
abbrev ME := List (Int × Int × Int)
def stopP (rows : List ROW) (per c : Int) : Prop := c < 0 ∨ (per > 0 ∧ ((gtR tRow rows c).2.length : Int) < per)
inductive FREER (rows : List ROW) (per : Int) : Nat → Int → ME → Int → Int → ME → Int → Prop where
 | stop (c : Int) (m : ME) (k : Int) (h : stopP rows per c) : FREER rows per 0 c m k c m k
 | step (d : Nat) (c b : Int) (m m1 m2 : ME) (k k1 k2 r : Int) (h : ¬ stopP rows per c) (hbc : b < c) (hb : (∃ q,MHas m c b q) ∨ (MNot m c ∧ b = c - 1))
     (h1 : FREER rows per d b m k r m1 k1) (h2 : MPut m1 c r k1 m2 k2) : FREER rows per (d + 1) c m k r m2 k2
def mapI (c : Int) (n : Nat) (m : ME) : StS := ⟨[{ cells := [.p (iv c),.arr n tME m],e := 1,fz := true,m := true }],[]⟩
def freeD (rows : List ROW) (per : Int) : Nat → DC
 | 0 => .bad
 | d + 1 => .rel (.fn (.func 31) [] [.rel (.p (iv per)),.rel (.tl none tRow rows),.rel (.mref 0),freeD rows per d])
theorem MHas.findE {α : Type} {l : List (Int × α × Int)} {k : Int} {v : α} {b : Int} (h : MHas l k v b) : l.find? (fun e => decide (e.1 = k)) = some (k,v,b) := by
 obtain ⟨l1,l2,rfl,h⟩ := h
 rw [List.find?_append]
 have : l1.find? (fun e => decide (e.1 = k)) = none := List.find?_eq_none.2 fun e he => by simpa using h e he
 rw [this]; simp
theorem MHas.uniq {α : Type} {l : List (Int × α × Int)} {k : Int} {v v' : α} {b b' : Int} (h : MHas l k v b) (h' : MHas l k v' b') : v = v' ∧ b = b' := by
 have := h.findE.symm.trans h'.findE
 simp only [Option.some.injEq,Prod.mk.injEq,true_and] at this
 exact this
theorem MHas.nope {α : Type} {l : List (Int × α × Int)} {k : Int} {v : α} {b : Int} (h : MHas l k v b) : ¬ MNot l k := fun hn => by
 obtain ⟨l1,l2,rfl,_⟩ := h
 exact hn (k,v,b) (by simp) rfl
theorem MPut.has {α : Type} {l l' : List (Int × α × Int)} {k : Int} {v : α} {c c' : Int} (h : MPut l k v c l' c') : ∃ q,MHas l' k v q := by
 rcases h with ⟨l1,v0,b,l2,rfl,h1,rfl,rfl⟩ | ⟨h1,rfl,rfl⟩
 · exact ⟨b,l1,l2,rfl,h1⟩
 · exact ⟨c,l,[],rfl,h1⟩
theorem MPut.fn {α : Type} {l l' l'' : List (Int × α × Int)} {k : Int} {v : α} {c c' c'' : Int} (h : MPut l k v c l' c') (h' : MPut l k v c l'' c'') : l' = l'' ∧ c' = c'' := by
 rcases h with ⟨l1,v0,b,l2,rfl,h1,rfl,rfl⟩ | ⟨h1,rfl,rfl⟩
 · rcases h' with ⟨l3,v3,b3,l4,e,h3,rfl,rfl⟩ | ⟨h3,rfl,rfl⟩
   · have q1 : MHas (l1 ++ (k,v0,b) :: l2) k v0 b := ⟨l1,l2,rfl,h1⟩
     have q2 : MHas (l1 ++ (k,v0,b) :: l2) k v3 b3 := ⟨l3,l4,e,h3⟩
     have hl : l1 = l3 := by
       have a1 : (l1 ++ (k,v0,b) :: l2).takeWhile (fun e => decide (e.1 ≠ k)) = l1 := by
         rw [List.takeWhile_append_of_pos (by simpa using h1)]; simp
       have a2 : (l3 ++ (k,v3,b3) :: l4).takeWhile (fun e => decide (e.1 ≠ k)) = l3 := by
         rw [List.takeWhile_append_of_pos (by simpa using h3)]; simp
       rw [← a1,e,a2]
     subst hl
     have := List.append_cancel_left e
     simp only [List.cons.injEq,Prod.mk.injEq,true_and] at this
     obtain ⟨⟨_,rfl⟩,rfl⟩ := this
     exact ⟨rfl,rfl⟩
   · exact absurd (h3 (k,v0,b) (by simp)) (by simp)
 · rcases h' with ⟨l3,v3,b3,l4,rfl,h3,rfl,rfl⟩ | ⟨h3,rfl,rfl⟩
   · exact absurd (h1 (k,v3,b3) (by simp)) (by simp)
   · exact ⟨rfl,rfl⟩
def spFree (rows : List ROW) (per : Int) (Z : DC) (b : Int) (n : Nat) (m : ME) (k r : Int) (n1 : Nat) (m1 : ME) (k1 : Int) : OpsS → List Nat → CallS := fun _ pl _ ds st K =>
 pl = [] ∧ ds = [.p (iv b),.rel (.p (iv per)),.rel (.tl none tRow rows),.rel (.mref 0),Z] ∧ st = mapI k n m ∧ K (.p (iv r)) (mapI k1 n1 m1)
theorem stop_iff {rows : List ROW} {per c : Int} {x : ROW} (hx : gtR tRow rows c = x) : stopP rows per c ↔ (c < 0 ∨ (per > 0 ∧ (x.2.length : Int) < per)) := by unfold stopP; rw [hx]
theorem cFreeStop (rows : List ROW) (per c k : Int) (n : Nat) (m : ME) (Z : DC) (hr : rows.length ≤ 64) (hc : c < rows.length) (hc6 : c < 64) (h : stopP rows per c) : FnS Try.prog 31 ([.p (iv c),.rel (.p (iv per)),.rel (.tl none tRow rows),.rel (.mref 0),Z]) (mapI k n m ) fun x_ s_ => x_ = (.p (iv c)) ∧ s_ = (mapI k n m) := by
 refine FnS.of (S := []) (T := []) (U := []) (tbl := []) (n := 43) hm15 cfg .nil .nil .nil .nil 0 Try.call31 Try.func31 (ac31_ok (some (1,0))) (by rw [Try.ntmps31]; exact Nat.le_refl _) rfl _ _ _ (by rfl) ?_
 intro cmp ar cv tn ic ai mx an ad ml sb mn ln em gt up ap sc vw cp rp p1 p2 s1 s2 X Y hX hY r0 r1 r2 r3 r4 r5 r6 r7 r8 r9 r10 r11 r12 r13 r14 r15 r16 r17 r18 r19 r20 r21 r22 r23 r24
 cbv
 obtain ⟨⟨xn,x⟩,hx⟩ : ∃ x : ROW,x = gt tRow rows c := ⟨_,rfl⟩
 have hs := (stop_iff (per := per) (show gtR tRow rows c = (xn,x) by rw [hx,r14])).1 h
 dsimp only at hs
 have e2 : s2 tI (xn,x) = x := by rw [r24]
 have hlx : ic (ln tI x) = x.length := by rw [r4,r12]
 have hlr : ic (ln tRow rows) = rows.length := by rw [r4,r12]
 rw [← hx,e2,hlx,hlr]
 have fin : RET 1 0 (.p (iv c)) (mapI k n m) (.p (iv c)) (mapI k n m) := by
   refine RET.mk ⟨[some 0],[],?_⟩
   rw [SIM_iff]; cbv
   try simp [lstEq]
 refine BR.lss r0 (fun _ => fin) fun h1 => BR.gtr r0 (fun h2 => ?_) fun h2 => absurd hs (by omega)
 have h3 : INB c rows.length := ⟨by omega,hc⟩
 exact ⟨h3,h3,BR.lss r0 (fun _ => fin) fun h4 => absurd hs (by omega)⟩
theorem cFreeStep (rows : List ROW) (per c b k k1 k2 r : Int) (n n1 n2 : Nat) (m m1 m2 : ME) (Z : DC) (hr : rows.length ≤ 64) (hc : c < rows.length) (hc6 : c < 64) (h : ¬ stopP rows per c) (hb : (∃ q,MHas m c b q) ∨ (MNot m c ∧ b = c - 1)) (h2 : MPut m1 c r k1 m2 k2) (hn : m.length = n) (hn1 : m1.length = n1) (hn2 : m2.length = n2) (hk1 : 0 ≤ k1) (hT : ∀ pl ds st K,spFree rows per Z b n m k r n1 m1 k1 OpsS.real pl 31 ds st K → CT Try.prog pl 31 (concL ds) st.conc (KP K)) : FnS Try.prog 31 ([.p (iv c),.rel (.p (iv per)),.rel (.tl none tRow rows),.rel (.mref 0),.rel (.fn (.func 31) [] [.rel (.p (iv per)),.rel (.tl none tRow rows),.rel (.mref 0),Z])]) (mapI k n m ) fun x_ s_ => x_ = (.p (iv r)) ∧ s_ = (mapI k2 n2 m2) := by
 refine FnS.of (S := []) (T := []) (U := [(31,_)]) (tbl := []) (n := 43) hm15 cfg .nil .nil (.cons hT .nil) .nil 0 Try.call31 Try.func31 (ac31_ok (some (1,0))) (by rw [Try.ntmps31]; exact Nat.le_refl _) rfl _ _ _ (by rfl) ?_
 intro cmp ar cv tn ic ai mx an ad ml sb mn ln em gt up ap sc vw cp rp p1 p2 s1 s2 X Y hX hY r0 r1 r2 r3 r4 r5 r6 r7 r8 r9 r10 r11 r12 r13 r14 r15 r16 r17 r18 r19 r20 r21 r22 r23 r24
 cbv
 obtain ⟨⟨xn,x⟩,hx⟩ : ∃ x : ROW,x = gt tRow rows c := ⟨_,rfl⟩
 have hs := mt (stop_iff (per := per) (show gtR tRow rows c = (xn,x) by rw [hx,r14])).2 h
 dsimp only at hs
 have e2 : s2 tI (xn,x) = x := by rw [r24]
 have hlx : ic (ln tI x) = x.length := by rw [r4,r12]
 have hlr : ic (ln tRow rows) = rows.length := by rw [r4,r12]
 rw [← hx,e2,hlx,hlr]
 have h3 : INB c rows.length := ⟨by omega,hc⟩
 have hbv : ∀ v q,MHas m c v q → v = b := fun v q hh => by
   rcases hb with ⟨q',h⟩ | ⟨h,_⟩
   · exact (hh.uniq h).1
   · exact absurd h hh.nope
 have hbn : MNot m c → ar .sub .i64 c 1 = b := fun hn => by
   rcases hb with ⟨q',h⟩ | ⟨_,h⟩
   · exact absurd hn h.nope
   · rw [r1,h]; have hc0 : 0 ≤ c := Int.not_lt.1 fun h => hs (.inl h)
     exact wrap64 (n := c - 1) (by omega) (by omega)
 have hput : ∀ n' m' k',MPut m1 c r k1 m' k' → m'.length = n' → m' = m2 ∧ k' = k2 ∧ n' = n2 := fun n' m' k' hp hl => by
   obtain ⟨e1,e2⟩ := hp.fn h2
   exact ⟨e1,e2,by rw [← hl,e1]; exact hn2⟩
 have hlk : ∀ v q,MHas m2 c v q → v = r := fun v q hh => by
   obtain ⟨q',h⟩ := h2.has
   exact (hh.uniq h).1
 have hln : ¬ MNot m2 c := by
   obtain ⟨q',h⟩ := h2.has
   exact h.nope
 have fin : RET 1 0 (.p (iv r)) (mapI k2 n2 m2) (.p (iv r)) (mapI k2 n2 m2) := by
   refine RET.mk ⟨[some 0],[],?_⟩
   rw [SIM_iff]; cbv
   try simp [lstEq]
 clear hT h hb h2
 refine BR.lss r0 (fun h1 => absurd (.inl h1) hs) fun h1 => BR.gtr r0 (fun h2' => ⟨h3,h3,BR.lss r0 (fun h4 => absurd (.inr ⟨h2',h4⟩) hs) fun h4 => ?_⟩) fun h2' => ?_
 all_goals
   refine MLK.mk hn (fun v q hh => ?_) (fun hn0 => ?_)
   · obtain rfl := hbv v q hh
     cbv
     refine MUP.mk hn1 hk1 fun n' m' k' hp hl' => ?_
     obtain ⟨e1,e2,e3⟩ := hput n' m' k' hp hl'
     subst e1 e2 e3
     cbv
     refine MLK.mk hn2 (fun w p hh2 => ?_) (fun hn9 => absurd hn9 hln)
     obtain rfl := hlk w p hh2
     cbv
     exact fin
   · have hbn := hbn hn0
     refine ⟨by rw [hbn],?_⟩
     refine MUP.mk hn1 hk1 fun n' m' k' hp hl' => ?_
     obtain ⟨e1,e2,e3⟩ := hput n' m' k' hp hl'
     subst e1 e2 e3
     cbv
     refine MLK.mk hn2 (fun w p hh2 => ?_) (fun hn9 => absurd hn9 hln)
     obtain rfl := hlk w p hh2
     cbv
     exact fin
theorem MPut.le {α : Type} {l l' : List (Int × α × Int)} {k : Int} {v : α} {c c' : Int} (h : MPut l k v c l' c') : c ≤ c' := by
 rcases h with ⟨_,_,_,_,_,_,_,rfl⟩ | ⟨_,_,rfl⟩ <;> omega
theorem MPut.ex {α : Type} (l : List (Int × α × Int)) (k : Int) (v : α) (c : Int) : ∃ l' c',MPut l k v c l' c' := by
 rcases MHas_or l k with h | ⟨v0,b,l1,l2,e,h⟩
 · exact ⟨_,_,.inr ⟨h,rfl,rfl⟩⟩
 · exact ⟨_,_,.inl ⟨l1,v0,b,l2,e,h,rfl,rfl⟩⟩
theorem MPut.mem {α : Type} {l l' : List (Int × α × Int)} {k : Int} {v : α} {c c' : Int} (h : MPut l k v c l' c') : ∀ e ∈ l',e ∈ l ∨ (e.1 = k ∧ e.2.1 = v) := by
 rcases h with ⟨l1,v0,b,l2,rfl,h1,rfl,rfl⟩ | ⟨h1,rfl,rfl⟩
 · intro e he
   rcases List.mem_append.1 he with he | he
   · exact .inl (by simp [he])
   · rcases List.mem_cons.1 he with rfl | he
     · exact .inr ⟨rfl,rfl⟩
     · exact .inl (by simp [he])
 · intro e he
   rcases List.mem_append.1 he with he | he
   · exact .inl he
   · rw [List.mem_singleton] at he; subst he; exact .inr ⟨rfl,rfl⟩
theorem FREER.k0 {rows : List ROW} {per : Int} {d : Nat} {c : Int} {m : ME} {k r : Int} {m' : ME} {k' : Int} (h : FREER rows per d c m k r m' k') : k ≤ k' := by
 induction h with
 | stop => omega
 | step d c b m m1 m2 k k1 k2 r h hbc hb h1 h2 ih => have := h2.le; omega
theorem cFree {rows : List ROW} {per : Int} {d : Nat} {c : Int} {m : ME} {k r : Int} {m' : ME} {k' : Int} (h : FREER rows per d c m k r m' k') (hr : rows.length ≤ 64) : c < rows.length → 0 ≤ k → ∀ D,d ≤ D →
   FnS Try.prog 31 [.p (iv c),.rel (.p (iv per)),.rel (.tl none tRow rows),.rel (.mref 0),freeD rows per D] (mapI k m.length m) fun x s => x = .p (iv r) ∧ s = mapI k' m'.length m' := by
 induction h with
 | stop c m k h => exact fun hc _ D _ => cFreeStop rows per c k m.length m _ hr hc (by omega) h
 | step d c b m m1 m2 k k1 k2 r h hbc hb h1 h2 ih =>
   intro hc hk D hD
   obtain ⟨D,rfl⟩ : ∃ D',D = D' + 1 := ⟨D - 1,by omega⟩
   have ih := ih (by omega) hk D (by omega)
   refine cFreeStep rows per c b k k1 k2 r m.length m1.length m2.length m m1 m2 (freeD rows per D) hr hc (by omega) h hb h2 rfl rfl rfl (by have := h1.k0; omega) fun pl ds st K hs => ?_
   obtain ⟨rfl,rfl,rfl,hK⟩ := hs
   refine .inr ⟨fun _ => True,fun j hj => absurd hj List.not_mem_nil,fun cx => ?_⟩
   refine CW.cmono _ _ _ _ _ (fun d st h => ?_) (ih cx)
   obtain ⟨x,s,e1,e2,e3,e4⟩ := h
   subst e3 e4
   exact ⟨_,_,e1,e2,hK⟩
structure ISF (rows : List ROW) (per c r : Int) : Prop where
 le : r ≤ c
 lo : -1 ≤ r
 st : stopP rows per r
 no : ∀ j,r < j → j ≤ c → ¬ stopP rows per j
def INVM (rows : List ROW) (per : Int) (m : ME) : Prop := ∀ e ∈ m,e.1 < rows.length ∧ -1 ≤ e.2.1 ∧ e.2.1 < e.1 ∧ ∀ j,e.2.1 < j → j ≤ e.1 → ¬ stopP rows per j
theorem ISF.uniq {rows : List ROW} {per c r r' : Int} (h : ISF rows per c r) (h' : ISF rows per c r') : r = r' := by
 apply Classical.byContradiction
 intro hn
 rcases Int.lt_or_gt_of_ne hn with h1 | h1
 · exact h.no r' h1 h'.le h'.st
 · exact h'.no r h1 h.le h.st
theorem FREER.ex {rows : List ROW} {per : Int} : ∀ (N : Nat) (c : Int) (m : ME) (k : Int),(c + 1).toNat ≤ N → -1 ≤ c → c < rows.length → INVM rows per m →
   ∃ d r m' k',d ≤ N ∧ FREER rows per d c m k r m' k' ∧ INVM rows per m' ∧ ISF rows per c r := by
 intro N
 induction N with
 | zero =>
   intro c m k hN h0 h1 hm
   have hs : stopP rows per c := .inl (by omega)
   exact ⟨0,c,m,k,Nat.le_refl _,.stop c m k hs,hm,⟨by omega,h0,hs,fun j h1 h2 => absurd h1 (by omega)⟩⟩
 | succ N ih =>
   intro c m k hN h0 h1 hm
   by_cases hs : stopP rows per c
   · exact ⟨0,c,m,k,by omega,.stop c m k hs,hm,⟨by omega,h0,hs,fun j h1 h2 => absurd h1 (by omega)⟩⟩
   · have hc0 : 0 ≤ c := Int.not_lt.1 fun h => hs (.inl h)
     obtain ⟨b,hb,hbc,hb0,hbs⟩ : ∃ b,((∃ q,MHas m c b q) ∨ (MNot m c ∧ b = c - 1)) ∧ b < c ∧ -1 ≤ b ∧ ∀ j,b < j → j ≤ c → ¬ stopP rows per j := by
       rcases MHas_or m c with h | ⟨v,q,h⟩
       · refine ⟨c - 1,.inr ⟨h,rfl⟩,by omega,by omega,fun j h1 h2 => ?_⟩
         obtain rfl : j = c := by omega
         exact hs
       · have hmem : (c,v,q) ∈ m := by obtain ⟨l1,l2,rfl,_⟩ := h; simp
         obtain ⟨_,q2,q3,q4⟩ := hm _ hmem
         exact ⟨v,.inl ⟨q,h⟩,q3,q2,q4⟩
     obtain ⟨d,r,m1,k1,hd,hF,hm1,hI⟩ := ih b m k (by omega) hb0 (by omega) hm
     obtain ⟨m2,k2,hp⟩ := MPut.ex m1 c r k1
     have hno : ∀ j,r < j → j ≤ c → ¬ stopP rows per j := fun j h1 h2 => by
       by_cases hj : j ≤ b
       · exact hI.no j h1 hj
       · exact hbs j (by omega) h2
     refine ⟨d + 1,r,m2,k2,by omega,.step d c b m m1 m2 k k1 k2 r hs hbc hb hF hp,fun e he => ?_,⟨by have := hI.le; omega,hI.lo,hI.st,hno⟩⟩
     rcases hp.mem e he with he | ⟨e1,e2⟩
     · exact hm1 e he
     · rw [e1,e2]
       exact ⟨h1,hI.lo,by have := hI.le; omega,hno⟩
end Go.Ab
