/- Comparisons and copies of this seat. -/
import Derived.Test.YtgcfdghbnpjpbaaCod3
set_option linter.unusedSimpArgs false
set_option linter.unusedVariables false
set_option maxRecDepth 20000
set_option maxHeartbeats 2000000
namespace Go.Ab
open Go.Proofs
theorem hm15 : Try.prog.follows .mixedOrders = true := by kernel_rfl
abbrev tDue : Ty := .pair tI (.pair tI tI)
abbrev DUE := Int × Int × Int
abbrev ROW := Option Bool × List Int
theorem drop_eq {t : Ty} {a b : List t.den} {i : Int} (h : 0 ≤ i) (h1 : i < a.length) (h2 : a.length = b.length) : (a.drop i.toNat = b.drop i.toNat ↔ gtR t a i = gtR t b i ∧ a.drop (i + 1).toNat = b.drop (i + 1).toNat) := by
 rw [gtR_drop h h1,gtR_drop h (by omega)]; simp
theorem gtR_mem {t : Ty} {l : List t.den} {i : Int} (h0 : 0 ≤ i) (h1 : i < l.length) : gtR t l i ∈ l := by
 have h : i.toNat < l.length := by omega
 simp [gtR,h]
theorem vw_all {t : Ty} {n : Nat} {l : List t.den} (h : l.length = n) : vwR t n l 0 n = l := by unfold vwR; rw [Ty.norm_eq t h,List.drop_zero,← h,List.take_length]
theorem BR.lss {cmp : BinOp → Int → Int → Bool} (h : cmp = cmpR) {x y : Int} {A B : Prop} (t : x < y → A) (f : ¬ x < y → B) : BR (cmp .lss x y) A B := by
 subst h; refine ⟨fun h => t (by simpa [cmpR] using h),fun h => f (by simpa [cmpR] using h)⟩
theorem BR.leq {cmp : BinOp → Int → Int → Bool} (h : cmp = cmpR) {x y : Int} {A B : Prop} (t : x ≤ y → A) (f : ¬ x ≤ y → B) : BR (cmp .leq x y) A B := by
 subst h; refine ⟨fun h => t (by simpa [cmpR] using h),fun h => f (by simpa [cmpR] using h)⟩
theorem BR.eql {cmp : BinOp → Int → Int → Bool} (h : cmp = cmpR) {x y : Int} {A B : Prop} (t : x = y → A) (f : ¬ x = y → B) : BR (cmp .eql x y) A B := by
 subst h; refine ⟨fun h => t (by simpa [cmpR] using h),fun h => f (by simpa [cmpR] using h)⟩
theorem BR.neq {cmp : BinOp → Int → Int → Bool} (h : cmp = cmpR) {x y : Int} {A B : Prop} (t : x ≠ y → A) (f : ¬ x ≠ y → B) : BR (cmp .neq x y) A B := by
 subst h; refine ⟨fun h => t (by simpa [cmpR] using h),fun h => f (by simpa [cmpR] using h)⟩
theorem BR.gtr {cmp : BinOp → Int → Int → Bool} (h : cmp = cmpR) {x y : Int} {A B : Prop} (t : x > y → A) (f : ¬ x > y → B) : BR (cmp .gtr x y) A B := by
 subst h; refine ⟨fun h => t (by simpa [cmpR] using h),fun h => f (by simpa [cmpR] using h)⟩
theorem BR.geq {cmp : BinOp → Int → Int → Bool} (h : cmp = cmpR) {x y : Int} {A B : Prop} (t : x ≥ y → A) (f : ¬ x ≥ y → B) : BR (cmp .geq x y) A B := by
 subst h; refine ⟨fun h => t (by simpa [cmpR] using h),fun h => f (by simpa [cmpR] using h)⟩
theorem BR.nn {cmp : BinOp → Int → Int → Bool} (h : cmp = cmpR) {x : Int} {A B : Prop} (f : B) : BR (cmp .neq x x) A B := BR.neq h (fun h => absurd rfl h) fun _ => f
def frS (fl hl : List Nat) (dsL : List DC) (stL : StS) (d : DC) (st' : StS) (ds : List DC) (st : StS) (K : DC → StS → Prop) : Prop :=
 leSs (fl.map some) (hl.map some) ds dsL ∧ ((Nat.ble 0 stL.box.length && Nat.ble 0 stL.grp.length && dupFree (fl.map some) && dupFree (hl.map some) && lowB true 0 (fl.map some) 0 && lowB false 0 (hl.map some) 0) = true ∧
   leBoxes (fl.map some) (hl.map some) st.box 0 0 (fl.map some) stL.box ∧ leGrps st.grp (hl.map some) stL.grp ∧ leEnv (fl.map some) (hl.map some) [] []) ∧
 (Nat.ble stL.box.length st'.box.length && Nat.ble stL.grp.length st'.grp.length) = true ∧
 K (renS (rnOf fl st'.box st.box.length) (rnOf hl st'.grp st.grp.length) d) ⟨mergeL fl (st'.box.map (renB (rnOf fl st'.box st.box.length) (rnOf hl st'.grp st.grp.length))) st.box,mergeL hl st'.grp st.grp⟩
theorem frS_ok {P : Program} {f : FuncId} {fl hl : List Nat} {dsL : List DC} {stL : StS} {d : DC} {st' : StS} {ds : List DC} {st : StS} {K : DC → StS → Prop} (h : FnS P f dsL stL fun x s => x = d ∧ s = st') (hk : frS fl hl dsL stL d st' ds st K) : FnS P f ds st K :=
 FnS.frame fl hl hk.1 (SIM_iff.2 hk.2.1) hk.2.2.1 h hk.2.2.2
def eqI (a b : List Int) : Bool := decide (a = b)
theorem cEqI (na : Option Bool) (a : List Int) (nb : Option Bool) (b : List Int) (h : Short 2000 a) : PurS Try.prog 26 [injT (.sl tI) (na,a),injT (.sl tI) (nb,b)] (.sb (eqI a b)) := by
 refine PurS.of (S := []) (T := []) (U := []) (tbl := []) (n := 26) hm15 cfg .nil .nil .nil .nil 0 Try.call26 Try.func26 (ac26_ok (some (0,0))) (by rw [Try.ntmps26]; exact Nat.le_refl _) rfl ⟨_,rfl⟩ ?_
 intro cmp ar cv tn ic ai mx an ad ml sb mn ln em gt up ap sc vw cp rp p1 p2 s1 s2 X Y hX hY r0 r1 r2 r3 r4 r5 r6 r7 r8 r9 r10 r11 r12 r13 r14 r15 r16 r17 r18 r19 r20 r21 r22 r23 r24
 generalize hg0 : eqI = g0
 cbv
 refine BR.mk ?_ ?_ <;> intro hc
 · subst_vars
   simp only [Short_iff,cmpR,arR,mxR,INB_iff,SLB_iff,SLM_iff,NZ_iff,NN_iff,EQN_iff,LEN_iff,LIM_iff,MK_iff,decide_eq_true_eq,decide_eq_false_iff_not,ne_eq,Bool.and_eq_true,nc_eq] at *
   grind [eqI]
 · refine LOOP.ind (σ := Int) (fun i => [(0,.tl na tI a),(1,.tl nb tI b),(5,.p (iv i))]) (fun _ => ⟨[],[]⟩) (fun i => (a.length - i).toNat) (fun i => 0 ≤ i ∧ i ≤ a.length ∧ (a.drop i.toNat = b.drop i.toNat ↔ a = b)) 0 (by simp) (.inl ⟨rfl,rfl⟩) ?_
   intro i hI X' hX
   have hd := drop_eq (t := tI) (a := a) (b := b) (i := i)
   have he := gtR_end (l := a) (i := i)
   have he' := gtR_end (l := b) (i := i)
   have h := h.h
   cbv
   repeat' (first | exact True.intro | refine And.intro ?_ ?_ | (refine BR.mk ?_ ?_ <;> intro _) | (refine CASE.mk ?_; intro _) | refine NEXT.mk (hX _ _ _ ?_ ?_ (.inl ⟨rfl,rfl⟩)))
   all_goals clear hX
   all_goals subst_vars
   all_goals try simp only [Short_iff,cmpR,arR,mxR,INB_iff,SLB_iff,SLM_iff,NZ_iff,NN_iff,EQN_iff,LEN_iff,LIM_iff,MK_iff,decide_eq_true_eq,decide_eq_false_iff_not,ne_eq,Bool.and_eq_true] at *
   all_goals try dsimp only [Ty.den] at *
   all_goals try simp only [nc_eq] at *
   all_goals try (simp (disch := omega) only [wrap64] at *)
   all_goals grind [eqI]
theorem cCopyD (nl : Option Bool) (l : List DUE) (hl : Short 2000 l) : PurS Try.prog 10 [injT (.sl tDue) (nl,l)] (.tl none tDue l) := by
 refine PurS.of (S := []) (T := []) (U := []) (tbl := []) (n := 5) hm15 cfg .nil .nil .nil .nil 0 Try.call10 Try.func10 (ac10_ok (some (0,0))) (by rw [Try.ntmps10]; exact Nat.le_refl _) rfl ⟨_,rfl⟩ ?_
 intro cmp ar cv tn ic ai mx an ad ml sb mn ln em gt up ap sc vw cp rp p1 p2 s1 s2 X Y hX hY r0 r1 r2 r3 r4 r5 r6 r7 r8 r9 r10 r11 r12 r13 r14 r15 r16 r17 r18 r19 r20 r21 r22 r23 r24
 cbv
 have hl := hl.h
 refine ⟨?_,nlLe_none.2 trivial,trivial⟩
 rw [LIM_iff,r12]; show (l.length : Nat) * 24 ≤ _ ∧ l.length ≤ _; omega
theorem cEqD (na : Option Bool) (a : List DUE) (nb : Option Bool) (b : List DUE) (h : Short 2000 a) : PurS Try.prog 19 [injT (.sl tDue) (na,a),injT (.sl tDue) (nb,b)] (.sb (decide (a = b))) := by
 refine PurS.of (S := []) (T := []) (U := []) (tbl := []) (n := 26) hm15 cfg .nil .nil .nil .nil 0 Try.call19 Try.func19 (ac19_ok (some (0,0))) (by rw [Try.ntmps19]; exact Nat.le_refl _) rfl ⟨_,rfl⟩ ?_
 intro cmp ar cv tn ic ai mx an ad ml sb mn ln em gt up ap sc vw cp rp p1 p2 s1 s2 X Y hX hY r0 r1 r2 r3 r4 r5 r6 r7 r8 r9 r10 r11 r12 r13 r14 r15 r16 r17 r18 r19 r20 r21 r22 r23 r24
 cbv
 have h := h.h
 have hla : ic (ln tDue a) = a.length := by rw [r4,r12]
 have hlb : ic (ln tDue b) = b.length := by rw [r4,r12]
 rw [hla,hlb]
 refine BR.neq r0 (fun hc => (decide_eq_false fun e => hc (by rw [e])).symm) (fun hc => ?_)
 have hab : a.length = b.length := by omega
 refine LOOP.ind (σ := Int) (fun i => [(0,.tl na tDue a),(1,.tl nb tDue b),(5,.p (iv i))]) (fun _ => ⟨[],[]⟩) (fun i => (a.length - i).toNat) (fun i => 0 ≤ i ∧ i ≤ a.length ∧ (a.drop i.toNat = b.drop i.toNat ↔ a = b)) 0 ⟨by omega,by omega,by simp⟩ (.inl ⟨rfl,rfl⟩) ?_
 intro i hI X' hX
 obtain ⟨hI1,hI2,hI3⟩ := hI
 have hd := fun h => drop_eq (t := tDue) (a := a) (b := b) (i := i) hI1 h hab
 cbv
 try simp only [nc_eq] at *
 obtain ⟨⟨x1,x2,x3⟩,hx⟩ : ∃ x : DUE,x = gt tDue a i := ⟨_,rfl⟩
 obtain ⟨⟨y1,y2,y3⟩,hy⟩ : ∃ x : DUE,x = gt tDue b i := ⟨_,rfl⟩
 have hx' : i < a.length → gtR tDue a i = (x1,x2,x3) := fun _ => by rw [hx,r14]
 have hy' : i < a.length → gtR tDue b i = (y1,y2,y3) := fun _ => by rw [hy,r14]
 have hadd : i < a.length → ar .add .i64 i 1 = i + 1 := fun h => by rw [r1]; exact wrap64 (n := i + 1) (by omega) (by omega)
 have hend : ¬ i < a.length → a = b := fun h => hI3.1 (by rw [gtR_end h,gtR_end (by omega)])
 have heq : i < a.length → (x1,x2,x3) = (y1,y2,y3) → 0 ≤ i + 1 ∧ i + 1 ≤ a.length ∧ (a.drop (i + 1).toNat = b.drop (i + 1).toNat ↔ a = b) := fun h h' => ⟨by omega,by omega,by
   rw [← hI3,hd h,hx' h,hy' h]
   exact (and_iff_right h').symm⟩
 have hne : i < a.length → (x1,x2,x3) ≠ (y1,y2,y3) → false = decide (a = b) := fun h h' => (decide_eq_false fun e => h' (by
   have := (hd h).1 (hI3.2 e)
   rw [hx' h,hy' h] at this
   exact this.1)).symm
 have q1 : p1 tI (.pair tI tI) (x1,x2,x3) = x1 := by rw [r21]
 have q2 : p1 tI tI (p2 tI (.pair tI tI) (x1,x2,x3)) = x2 := by rw [r21,r22]
 have q3 : p2 tI tI (p2 tI (.pair tI tI) (x1,x2,x3)) = x3 := by rw [r22]
 have s1 : p1 tI (.pair tI tI) (y1,y2,y3) = y1 := by rw [r21]
 have s2 : p1 tI tI (p2 tI (.pair tI tI) (y1,y2,y3)) = y2 := by rw [r21,r22]
 have s3 : p2 tI tI (p2 tI (.pair tI tI) (y1,y2,y3)) = y3 := by rw [r22]
 have hq : an (cmp .eql x1 y1) (an (cmp .eql x2 y2) (an (cmp .eql x3 y3) true)) = decide ((x1,x2,x3) = (y1,y2,y3)) := by
   rw [r0,r7]
   simp [cmpR]
 rw [hla,hlb,← hx,← hy,q1,q2,q3,s1,s2,s3,hq]
 have hmu : i < a.length → ((a.length : Int) - (i + 1)).toNat < ((a.length : Int) - i).toNat := fun h => by omega
 refine BR.lss r0 (fun hc => ?_) (fun hc => (decide_eq_true (hend hc)).symm)
 have h1 : INB i (a.length : Int) := ⟨hI1,hc⟩
 have h2 : INB i (b.length : Int) := ⟨hI1,by omega⟩
 rw [hadd hc]
 refine ⟨h1,h1,h2,h2,BR.mk (fun h => ?_) (fun h => hne hc (of_decide_eq_false h))⟩
 exact NEXT.mk (hX (i + 1) _ _ (heq hc (of_decide_eq_true h)) (hmu hc) (.inl ⟨rfl,rfl⟩))
abbrev tRow : Ty := .sl tI
def eqR (a b : List ROW) : Bool := decide (a.map (·.2) = b.map (·.2))
theorem gtR_mem' {t : Ty} {l : List t.den} {i : Int} {x : t.den} (h0 : 0 ≤ i) (h1 : i < l.length) (hx : gtR t l i = x) : x ∈ l := hx ▸ gtR_mem h0 h1
structure SHR (l : List ROW) : Prop where
 a : l.length ≤ 2000
 b : ∀ r ∈ l,r.2.length ≤ 2000
theorem cEqR (na : Option Bool) (a : List ROW) (nb : Option Bool) (b : List ROW) (h : SHR a) : PurS Try.prog 17 [injT (.sl tRow) (na,a),injT (.sl tRow) (nb,b)] (.sb (eqR a b)) := by
 refine PurS.of (S := [(26,_)]) (T := []) (U := []) (tbl := []) (n := 27) hm15 cfg (.cons (spT2.ok (a := (.sl (.int .i64))) (b := (.sl (.int .i64))) fun x0 x1 h => cEqI x0.1 x0.2 x1.1 x1.2 h) .nil) .nil .nil .nil 0 Try.call17 Try.func17 (ac17_ok (some (0,0))) (by rw [Try.ntmps17]; exact Nat.le_refl _) rfl ⟨_,rfl⟩ ?_
 intro cmp ar cv tn ic ai mx an ad ml sb mn ln em gt up ap sc vw cp rp p1 p2 s1 s2 X Y hX hY r0 r1 r2 r3 r4 r5 r6 r7 r8 r9 r10 r11 r12 r13 r14 r15 r16 r17 r18 r19 r20 r21 r22 r23 r24
 generalize hg0 : eqI = g0
 generalize hg1 : eqR = g1
 cbv
 obtain ⟨h,hr⟩ := h
 have hla : ic (ln tRow a) = a.length := by rw [r4,r12]
 have hlb : ic (ln tRow b) = b.length := by rw [r4,r12]
 rw [hla,hlb]
 obtain ⟨z,hz0⟩ : ∃ z,z = g1 a b := ⟨_,rfl⟩
 have hz : z = eqR a b := by rw [hz0,hg1]
 rw [← hz0]
 refine BR.neq r0 (fun hc => ?_) (fun hc => ?_)
 · rw [hz]
   exact (decide_eq_false fun e => hc (by have := congrArg List.length e; simp only [List.length_map] at this; omega)).symm
 have hab : a.length = b.length := by omega
 refine LOOP.ind (σ := Int) (fun i => [(0,.tl na tRow a),(1,.tl nb tRow b),(5,.p (iv i))]) (fun _ => ⟨[],[]⟩) (fun i => (a.length - i).toNat) (fun i => 0 ≤ i ∧ i ≤ a.length ∧ g1 (a.drop i.toNat) (b.drop i.toNat) = z) 0 ⟨by omega,by omega,by simp [hz0]⟩ (.inl ⟨rfl,rfl⟩) ?_
 intro i hI X' hX
 obtain ⟨hI1,hI2,hI3⟩ := hI
 obtain ⟨⟨xn,x⟩,hx⟩ : ∃ x : ROW,x = gt tRow a i := ⟨_,rfl⟩
 obtain ⟨⟨yn,y⟩,hy⟩ : ∃ x : ROW,x = gt tRow b i := ⟨_,rfl⟩
 have hx' : gtR tRow a i = (xn,x) := by rw [hx,r14]
 have hy' : gtR tRow b i = (yn,y) := by rw [hy,r14]
 have hsh : i < a.length → Short 2000 x := fun h => ⟨hr _ (gtR_mem' (t := tRow) hI1 h hx')⟩
 have hst : i < a.length → z = (eqI x y && g1 (a.drop (i + 1).toNat) (b.drop (i + 1).toNat)) := fun h => by
   rw [← hI3,← hg1,gtR_drop (t := tRow) hI1 h,gtR_drop (t := tRow) (l := b) hI1 (by omega),hx',hy']
   simp [eqR,eqI]
 rw [hg0] at hst
 have hend : ¬ i < a.length → true = z := fun h => by rw [← hI3,gtR_end h,gtR_end (by omega),← hg1]; rfl
 have e1 : s1 tI (xn,x) = xn := by rw [r23]
 have e2 : s2 tI (xn,x) = x := by rw [r24]
 have e3 : s1 tI (yn,y) = yn := by rw [r23]
 have e4 : s2 tI (yn,y) = y := by rw [r24]
 have hadd : i < a.length → ar .add .i64 i 1 = i + 1 := fun h => by rw [r1]; exact wrap64 (n := i + 1) (by omega) (by omega)
 cbv
 try simp only [nc_eq] at *
 rw [hla,hlb,← hx,← hy,e2,e4]
 refine BR.lss r0 (fun hc => ?_) hend
 have h1 : INB i (a.length : Int) := ⟨hI1,hc⟩
 have h2 : INB i (b.length : Int) := ⟨hI1,by omega⟩
 rw [hadd hc]
 have hst := hst hc
 refine ⟨h1,h1,h2,h2,hsh hc,BR.mk (fun h => ?_) (fun h => ?_)⟩
 · rw [h,Bool.true_and] at hst
   exact NEXT.mk (hX (i + 1) _ _ ⟨by omega,by omega,hst.symm⟩ (by show (a.length - (i + 1)).toNat < (a.length - i).toNat; omega) (.inl ⟨rfl,rfl⟩))
 · rw [h,Bool.false_and] at hst
   exact hst.symm
def lonB (l : List DUE) (s : List ROW) : Bool := decide (l.length > 80) || decide (s.length > 80) || s.any fun r => decide (r.2.length > 80)
theorem cLong (nl : Option Bool) (l : List DUE) (ns : Option Bool) (s : List ROW) : PurS Try.prog 8 [injT (.sl tDue) (nl,l),injT (.sl tRow) (ns,s)] (.sb (lonB l s)) := by
 refine PurS.of (S := []) (T := []) (U := []) (tbl := []) (n := 26) hm15 cfg .nil .nil .nil .nil 0 Try.call8 Try.func8 (ac8_ok (some (0,0))) (by rw [Try.ntmps8]; exact Nat.le_refl _) rfl ⟨_,rfl⟩ ?_
 intro cmp ar cv tn ic ai mx an ad ml sb mn ln em gt up ap sc vw cp rp p1 p2 s1 s2 X Y hX hY r0 r1 r2 r3 r4 r5 r6 r7 r8 r9 r10 r11 r12 r13 r14 r15 r16 r17 r18 r19 r20 r21 r22 r23 r24
 generalize hg0 : lonB = g0
 cbv
 have hla : ic (ln tDue l) = l.length := by rw [r4,r12]
 have hls : ic (ln tRow s) = s.length := by rw [r4,r12]
 rw [hla,hls]
 have e1 : l.length > 80 → true = g0 l s := fun h => by rw [← hg0]; simp [lonB,h]
 have e2 : s.length > 80 → true = g0 l s := fun h => by rw [← hg0]; simp [lonB,h]
 have e3 : ¬ l.length > 80 → ¬ s.length > 80 → (s.any fun r => decide (r.2.length > 80)) = g0 l s := fun h h' => by rw [← hg0]; simp [lonB,h,h']
 refine BR.gtr r0 (fun h => e1 (by omega)) fun h1 => BR.gtr r0 (fun h => e2 (by omega)) fun h2 => ?_
 have e3 := e3 (by omega) (by omega)
 obtain ⟨z,hz⟩ : ∃ z,z = g0 l s := ⟨_,rfl⟩
 rw [← hz] at e3 ⊢
 clear e1 e2 hz hla
 have h2 : s.length ≤ 80 := by omega
 refine LOOP.ind (σ := Int) (fun i => [(1,.tl ns tRow s),(5,.p (iv i))]) (fun _ => ⟨[],[]⟩) (fun i => (s.length - i).toNat) (fun i => 0 ≤ i ∧ i ≤ s.length ∧ ((s.drop i.toNat).any fun r => decide (r.2.length > 80)) = z) 0 ⟨by omega,by omega,e3⟩ (.inl ⟨rfl,rfl⟩) ?_
 intro i hI X' hX
 obtain ⟨hI1,hI2,hI3⟩ := hI
 obtain ⟨⟨xn,x⟩,hx⟩ : ∃ x : ROW,x = gt tRow s i := ⟨_,rfl⟩
 have hst : i < s.length → z = (decide (x.length > 80) || (s.drop (i + 1).toNat).any fun r => decide (r.2.length > 80)) := fun h => by
   rw [← hI3,gtR_drop (t := tRow) hI1 h,show gtR tRow s i = (xn,x) by rw [hx,r14]]; rfl
 have hend : ¬ i < s.length → false = z := fun h => by rw [← hI3,gtR_end h]; rfl
 have e2 : s2 tI (xn,x) = x := by rw [r24]
 have hlx : ic (ln tI x) = x.length := by rw [r4,r12]
 have hadd : i < s.length → ar .add .i64 i 1 = i + 1 := fun h => by rw [r1]; exact wrap64 (n := i + 1) (by omega) (by omega)
 obtain ⟨y,hy⟩ : ∃ y,y = (s.drop (i + 1).toNat).any fun r => decide (r.2.length > 80) := ⟨_,rfl⟩
 rw [← hy] at hst
 have hX : NEXT X' [(1,.tl ns tRow s),(5,.p (iv (i + 1)))] ⟨[],[]⟩ ∨ ¬ (i < s.length ∧ y = z) := by
   by_cases h : i < s.length ∧ y = z
   · exact .inl (NEXT.mk (hX (i + 1) _ _ ⟨by omega,by omega,by rw [← hy]; exact h.2⟩ (by show (s.length - (i + 1)).toNat < (s.length - i).toNat; omega) (.inl ⟨rfl,rfl⟩)))
   · exact .inr h
 clear hI3 hy e3
 cbv
 try simp only [nc_eq] at *
 rw [hls,← hx,e2,hlx]
 refine BR.lss r0 (fun hc => ?_) hend
 have h1 : INB i (s.length : Int) := ⟨hI1,hc⟩
 rw [hadd hc]
 have hst := hst hc
 refine ⟨h1,h1,BR.gtr r0 (fun h => ?_) (fun h => ?_)⟩
 · rw [hst,decide_eq_true (by omega)]; rfl
 · rw [decide_eq_false (by omega),Bool.false_or] at hst
   exact hX.resolve_right fun h => h ⟨hc,hst.symm⟩
def fndM (a : Int) : List DUE → Int → Int
 | [],_ => -1
 | x :: l,i => if x.1 = a then i else fndM a l (i + 1)
end Go.Ab
