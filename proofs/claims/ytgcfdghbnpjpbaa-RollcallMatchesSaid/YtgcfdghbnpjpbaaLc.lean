/- Worth. -/
import Derived.Test.YtgcfdghbnpjpbaaLb
set_option linter.unusedSimpArgs false
set_option linter.unusedVariables false
set_option maxRecDepth 20000
set_option maxHeartbeats 4000000
namespace Go.Ab
open Go.Proofs
def hasA (l : List DUE) (a : Int) : Bool := l.any fun x => decide (x.1 = a)
def aBox (a : Int) : StS := ⟨[{ cells := [.p (iv a)],e := 3,fz := false }],[]⟩
def lBox (nl : Option Bool) (l : List DUE) : StS := ⟨[{ cells := [.tl nl tDue l],e := 22,fz := false }],[]⟩
theorem cIdx (nl : Option Bool) (l : List DUE) (a : Int) (h : Short 2000 l) : FnS Try.prog 47 ([injT (.sl tDue) (nl,l),.fn (.func 40) [] [.ptr 0 0]]) (aBox a ) fun x_ s_ => x_ = (.p (iv (fndM a l 0))) ∧ s_ = (aBox a) := by
 refine FnS.of (S := []) (T := []) (U := []) (tbl := [(40,ac40 none,[.tmp 3],8)]) (n := 19) hm15 cfg .nil .nil .nil (.cons Try.call40 Try.func40 (ac40_ok none) (by rw [Try.ntmps40]; exact Nat.le_refl _) .nil) 6 Try.call47 Try.func47 (ac47_ok (some (1,0))) (by rw [Try.ntmps47]; exact Nat.le_refl _) rfl _ _ _ (by rfl) ?_
 intro cmp ar cv tn ic ai mx an ad ml sb mn ln em gt up ap sc vw cp rp p1 p2 s1 s2 X Y hX hY r0 r1 r2 r3 r4 r5 r6 r7 r8 r9 r10 r11 r12 r13 r14 r15 r16 r17 r18 r19 r20 r21 r22 r23 r24
 generalize hg0 : fndM = g0
 cbv
 have h := h.h
 have hla : ic (ln tDue l) = l.length := by rw [r4,r12]
 obtain ⟨z,hz⟩ : ∃ z,z = g0 a l 0 := ⟨_,rfl⟩
 rw [← hz,hla]
 obtain ⟨N,hN⟩ : ∃ N : Int,N = l.length := ⟨_,rfl⟩
 rw [← hN]
 refine LOOP.ind (σ := Int) (fun i => [(0,.tl nl tDue l),(1,.fn (.func 40) [] [.ptr 0 0]),(7,.p (iv N)),(8,.p (iv i))]) (fun _ => aBox a) (fun i => (N - i).toNat) (fun i => 0 ≤ i ∧ i ≤ N ∧ fndM a (l.drop i.toNat) i = z) 0 ⟨by omega,by omega,by rw [hz,← hg0]; rfl⟩ (.inl ⟨rfl,rfl⟩) ?_
 intro i hI X' hX
 obtain ⟨hI1,hI2,hI3⟩ := hI
 obtain ⟨⟨x1,x2,x3⟩,hx⟩ : ∃ x : DUE,x = gt tDue l i := ⟨_,rfl⟩
 have hst : i < N → z = if x1 = a then i else fndM a (l.drop (i + 1).toNat) (i + 1) := fun h => by
   rw [← hI3,gtR_drop (t := tDue) hI1 (by omega),show gtR tDue l i = (x1,x2,x3) by rw [hx,r14]]; rfl
 have hend : ¬ i < N → -1 = z := fun h => by rw [← hI3,gtR_end (by omega)]; rfl
 have q1 : p1 tI (.pair tI tI) (x1,x2,x3) = x1 := by rw [r21]
 have hadd : i < N → ar .add .i64 i 1 = i + 1 := fun h => by rw [r1]; exact wrap64 (n := i + 1) (by omega) (by omega)
 obtain ⟨y,hy⟩ : ∃ y,y = fndM a (l.drop (i + 1).toNat) (i + 1) := ⟨_,rfl⟩
 rw [← hy] at hst
 clear hI3
 cbv
 try simp only [nc_eq] at *
 rw [hla,← hN,← hx,q1]
 refine BR.lss r0 (fun hc => ?_) (fun hc => ?_)
 · have h1 : INB i N := ⟨hI1,hc⟩
   have hst := hst hc
   rw [hadd hc]
   refine ⟨h1,h1,BR.eql r0 (fun he => ?_) (fun he => ?_)⟩
   · rw [if_pos he] at hst
     subst hst
     refine RET.mk ⟨[some 0],[],?_⟩
     rw [SIM_iff]; cbv
     try simp [lstEq]
   · rw [if_neg he] at hst
     refine NEXT.mk (hX (i + 1) _ _ ⟨by omega,by omega,by rw [hst,hy]⟩ (by show (N - (i + 1)).toNat < (N - i).toNat; omega) (.inr ⟨[some 0],[],?_⟩))
     rw [SIM_iff]; cbv
     simp [lstEq,nlLe_self]
 · have hend := hend hc
   subst hend
   refine RET.mk ⟨[some 0],[],?_⟩
   rw [SIM_iff]; cbv
   try simp [lstEq]
structure IDXK (l : List DUE) (a : Int) (A : Int → Prop) : Prop where
 p : Short 2000 l
 h : ∀ r,r = fndM a l 0 → A r
def spIdx : OpsS → CallS := fun _ _ ds st K => match ds with
 | [x,.fn (.func 40) [] [.ptr b 0]] => (match getT (.sl tDue) x with
   | some L => (match nthD st.box b with
     | some B => (match B.cells with
       | [.p (.v (.int .i64 a))] => IDXK L.2 a fun r => frS [b] [] [injT (.sl tDue) (L.1,L.2),.fn (.func 40) [] [.ptr 0 0]] (aBox a) (.p (iv r)) (aBox a) ds st K
       | _ => False)
     | none => False)
   | none => False)
 | _ => False
theorem tIdx : ∀ ds st K,spIdx OpsS.real 47 ds st K → FnS Try.prog 47 ds st K := fun ds st K h => by
 unfold spIdx at h
 split at h
 · split at h
   · split at h
     · split at h
       · rename_i L _ _ _ _ _ a _
         obtain ⟨nl,l⟩ := L
         exact frS_ok (cIdx nl l _ h.p) (h.h _ rfl)
       · exact h.elim
     · exact h.elim
   · exact h.elim
 · exact h.elim
theorem hasA_fnd (a : Int) : ∀ (l : List DUE) (i : Int),0 ≤ i → hasA l a = decide (fndM a l i ≥ 0)
 | [],i,h => by simp [hasA,fndM]
 | x :: l,i,h => by
   simp only [hasA,List.any_cons,fndM]
   split
   · rename_i e; simp [e,h]
   · rename_i e
     have := hasA_fnd a l (i + 1) (by omega)
     simp only [hasA] at this
     rw [decide_eq_false e,Bool.false_or,this]
theorem cKnown (nl : Option Bool) (l : List DUE) (a : Int) (h : Short 2000 l) : FnS Try.prog 38 ([.p (iv a),.ptr 0 0]) (lBox nl l ) fun x_ s_ => x_ = (.sb (hasA l a)) ∧ s_ = (lBox nl l) := by
 refine FnS.of (S := []) (T := [(47,_)]) (U := []) (tbl := [(39,ac39 none,[.tmp 4],9)]) (n := 7) hm15 cfg .nil (.cons tIdx .nil) .nil (.cons Try.call39 Try.func39 (ac39_ok none) (by rw [Try.ntmps39]; exact Nat.le_refl _) .nil) 6 Try.call38 Try.func38 (ac38_ok (some (1,0))) (by rw [Try.ntmps38]; exact Nat.le_refl _) rfl _ _ _ (by rfl) ?_
 intro cmp ar cv tn ic ai mx an ad ml sb mn ln em gt up ap sc vw cp rp p1 p2 s1 s2 X Y hX hY r0 r1 r2 r3 r4 r5 r6 r7 r8 r9 r10 r11 r12 r13 r14 r15 r16 r17 r18 r19 r20 r21 r22 r23 r24
 generalize hg0 : hasA = g0
 cbv
 refine IDXK.mk h fun r hr => ?_
 obtain ⟨z,hz⟩ : ∃ z,z = g0 l a := ⟨_,rfl⟩
 have hrz : z = decide (r ≥ 0) := by rw [hz,← hg0,hr]; exact hasA_fnd a l 0 (by omega)
 rw [← hz]
 clear hr hz
 cbv
 refine ⟨⟨⟨nlLe_self.2 trivial,trivial⟩,trivial⟩,BR.geq r0 (fun h => ?_) (fun h => ?_)⟩
 all_goals
   first | rw [decide_eq_true h] at hrz | rw [decide_eq_false h] at hrz
   subst hrz
   refine RET.mk ⟨[some 0],[],?_⟩
   rw [SIM_iff]; cbv
   try simp [lstEq,nlLe_self]
structure KNOK (l : List DUE) (a : Int) (A : Bool → Prop) : Prop where
 p : Short 2000 l
 h : ∀ r,r = hasA l a → A r
def spKnown : OpsS → CallS := fun _ _ ds st K => match ds with
 | [.p (.v (.int .i64 a)),.ptr b 0] => (match nthD st.box b with
   | some B => (match B.cells with
     | [x] => (match getT (.sl tDue) x with
       | some L => KNOK L.2 a fun r => frS [b] [] [.p (iv a),.ptr 0 0] (lBox L.1 L.2) (.sb r) (lBox L.1 L.2) ds st K
       | none => False)
     | _ => False)
   | none => False)
 | _ => False
theorem tKnown : ∀ ds st K,spKnown OpsS.real 38 ds st K → FnS Try.prog 38 ds st K := fun ds st K h => by
 unfold spKnown at h
 split at h
 · split at h
   · split at h
     · split at h
       · rename_i L _
         obtain ⟨nl,l⟩ := L
         exact frS_ok (cKnown nl l _ h.p) (h.h _ rfl)
       · exact h.elim
     · exact h.elim
   · exact h.elim
 · exact h.elim
def worA (l : List DUE) (c : Int) : List Int → List Int → Int → Int × List Int × Int
 | [],dn,s => (0,dn,s)
 | a :: r,dn,s => match l.find? (fun x => decide (x.1 = a)) with
   | none => (8,dn,s)
   | some x => if a ∈ dn then (16,dn,s) else if c > x.2.1 then (12,dn,s) else worA l c r (a :: dn) (s + x.2.2)
def worR (l : List DUE) (per : Int) : List ROW → Int → List Int → Int → Int × Int
 | [],_,_,s => (s,0)
 | r :: rs,c,dn,s => if r.2.length > per then (0,17) else if (worA l c r.2 dn s).1 ≠ 0 then (0,(worA l c r.2 dn s).1) else worR l per rs (c + 1) (worA l c r.2 dn s).2.1 (worA l c r.2 dn s).2.2
def worM (l : List DUE) (s : List ROW) (per : Int) : Int × Int :=
 if chkD l ≠ 0 then (0,chkD l) else if per < 0 ∨ per > 64 then (0,1) else if s.length > 64 then (0,4) else worR l per s 0 [] 0
abbrev tLF : Ty := tEnt .i64 tDue
abbrev LF := List (Int × DUE × Int)
theorem chkT_ok : ∀ {l : List DUE} {sn : List Int},chkT sn l = 0 → (∀ x ∈ l,¬ badD x) ∧ (l.map (·.1)).Nodup ∧ ∀ x ∈ l,x.1 ∉ sn
 | [],sn,_ => ⟨by simp,by simp,by simp⟩
 | x :: r,sn,h => by
   unfold chkT at h
   split at h
   · cases h
   · rename_i h1
     split at h
     · cases h
     · rename_i h2
       obtain ⟨q1,q2,q3⟩ := chkT_ok h
       refine ⟨fun y hy => ?_,?_,fun y hy => ?_⟩
       · rcases List.mem_cons.1 hy with rfl | hy
         · exact h1
         · exact q1 y hy
       · rw [List.map_cons,List.nodup_cons]
         refine ⟨fun hm => ?_,q2⟩
         obtain ⟨y,hy,e⟩ := List.mem_map.1 hm
         exact q3 y hy (by rw [e]; simp)
       · rcases List.mem_cons.1 hy with rfl | hy
         · exact h2
         · exact fun hm => q3 y hy (by simp [hm])
structure DUES (l : List DUE) : Prop where
 n : l.length ≤ 64
 b : ∀ x ∈ l,¬ badD x
 u : (l.map (·.1)).Nodup
theorem chkD_ok {l : List DUE} (h : chkD l = 0) : DUES l := by
 unfold chkD at h
 split at h
 · cases h
 · rename_i h1
   obtain ⟨q1,q2,_⟩ := chkT_ok h
   exact ⟨by omega,q1,q2⟩
theorem uni_find : ∀ {l : List DUE},(l.map (·.1)).Nodup → ∀ x ∈ l,l.find? (fun y => decide (y.1 = x.1)) = some x
 | [],_,x,h => by cases h
 | y :: r,hu,x,h => by
   rw [List.map_cons,List.nodup_cons] at hu
   rw [List.find?_cons]
   rcases List.mem_cons.1 h with rfl | h
   · simp
   · have : y.1 ≠ x.1 := fun e => hu.1 (by rw [e]; exact List.mem_map_of_mem h)
     rw [decide_eq_false this]
     exact uni_find hu.2 x h
theorem find_has {l : List DUE} {a : Int} : hasA l a = (l.find? (fun y => decide (y.1 = a))).isSome := by
 simp only [hasA,List.find?_isSome,List.any_eq]
 rw [Bool.eq_iff_iff]; simp
structure LEFT (m : LF) (l : List DUE) (dn : List Int) : Prop where
 a : ∀ e ∈ m,e.2.1 ∈ l ∧ e.2.1.1 = e.1 ∧ e.1 ∉ dn
 b : ∀ x ∈ l,x.1 ∉ dn → ∃ e ∈ m,e.1 = x.1
 u : (m.map (·.1)).Nodup
theorem LEFT.nil : LEFT [] [] [] := ⟨by simp,by simp,by simp⟩
theorem LEFT.put {m m' : LF} {l : List DUE} {x : DUE} {c c' : Int} (h : LEFT m l []) (hu : ∀ y ∈ l,y.1 ≠ x.1) (hp : MPut m x.1 x c m' c') : LEFT m' (l ++ [x]) [] ∧ m'.length = m.length + 1 ∧ c' = c + 1 := by
 have hno : ∀ e ∈ m,e.1 ≠ x.1 := fun e he e1 => hu _ (h.a e he).1 ((h.a e he).2.1.trans e1)
 rcases hp with ⟨l1,v0,b,l2,rfl,_⟩ | ⟨_,rfl,rfl⟩
 · exact absurd rfl (hno (x.1,v0,b) (by simp))
 · refine ⟨⟨fun e he => ?_,fun y hy _ => ?_,?_⟩,by simp,rfl⟩
   · rcases List.mem_append.1 he with he | he
     · obtain ⟨q1,q2,q3⟩ := h.a e he
       exact ⟨List.mem_append_left _ q1,q2,q3⟩
     · simp only [List.mem_singleton] at he; subst he; simp
   · rcases List.mem_append.1 hy with hy | hy
     · obtain ⟨e,he,e1⟩ := h.b y hy (by simp)
       exact ⟨e,List.mem_append_left _ he,e1⟩
     · simp only [List.mem_singleton] at hy; subst hy
       exact ⟨_,List.mem_append_right _ (List.mem_singleton.2 rfl),rfl⟩
   · rw [List.map_append,List.nodup_append]
     refine ⟨h.u,by simp,fun a ha b hb => ?_⟩
     obtain ⟨e,he,rfl⟩ := List.mem_map.1 ha
     simp only [List.map_cons,List.map_nil,List.mem_singleton] at hb
     rw [hb]; exact hno e he
theorem LEFT.has {m : LF} {l : List DUE} {dn : List Int} (h : LEFT m l dn) (hl : (l.map (·.1)).Nodup) {a : Int} {v : DUE} {b : Int} (hh : MHas m a v b) :
   l.find? (fun x => decide (x.1 = a)) = some v ∧ a ∉ dn ∧ v ∈ l := by
 obtain ⟨l1,l2,rfl,_⟩ := hh
 obtain ⟨q1,q2,q3⟩ := h.a (a,v,b) (by simp)
 dsimp only at q1 q2 q3
 have := uni_find hl v q1
 rw [q2] at this
 exact ⟨this,q3,q1⟩
theorem LEFT.not {m : LF} {l : List DUE} {dn : List Int} (h : LEFT m l dn) {a : Int} (hh : MNot m a) {x : DUE} (hx : l.find? (fun x => decide (x.1 = a)) = some x) : a ∈ dn := by
 apply Classical.byContradiction
 intro hn
 have h1 := List.find?_some hx
 have h2 := List.mem_of_find?_eq_some hx
 rw [decide_eq_true_eq] at h1
 obtain ⟨e,he,e1⟩ := h.b x h2 (by rw [h1]; exact hn)
 exact hh e he (e1.trans h1)
theorem LEFT.del {m m' : LF} {l : List DUE} {dn : List Int} (h : LEFT m l dn) {a : Int} {v : DUE} {b : Int} (hh : MHas m a v b) (hd : MDel m a m') : LEFT m' l (a :: dn) := by
 rcases hd with ⟨l1,v0,b0,l2,rfl,hn,rfl⟩ | ⟨hn,_⟩
 · have hu := h.u
   rw [List.map_append,List.map_cons,List.nodup_append] at hu
   obtain ⟨u1,u2,u3⟩ := hu
   rw [List.nodup_cons] at u2
   have hmem : ∀ e ∈ l1 ++ l2,e ∈ l1 ++ (a,v0,b0) :: l2 := fun e he => by
     rcases List.mem_append.1 he with he | he <;> simp [he]
   refine ⟨fun e he => ?_,fun x hx hxn => ?_,?_⟩
   · obtain ⟨q1,q2,q3⟩ := h.a e (hmem e he)
     refine ⟨q1,q2,fun hm => ?_⟩
     rcases List.mem_cons.1 hm with e1 | hm
     · rcases List.mem_append.1 he with he | he
       · exact hn e he e1
       · exact u2.1 (List.mem_map.2 ⟨e,he,e1⟩)
     · exact q3 hm
   · obtain ⟨e,he,e1⟩ := h.b x hx fun hm => hxn (by simp [hm])
     refine ⟨e,?_,e1⟩
     rcases List.mem_append.1 he with he | he
     · exact List.mem_append_left _ he
     · rcases List.mem_cons.1 he with rfl | he
       · exact absurd (by rw [← e1]; simp) hxn
       · exact List.mem_append_right _ he
   · rw [List.map_append,List.nodup_append]
     exact ⟨u1,u2.2,fun x hx y hy => u3 x hx y (by simp [hy])⟩
 · obtain ⟨l1,l2,rfl,_⟩ := hh
   exact absurd rfl (hn (a,v,b) (by simp))
theorem nodup_idx {l : List DUE} (h : (l.map (·.1)).Nodup) {i j : Nat} (hi : i < j) (hj : j < l.length) : (l[i]'(by omega)).1 ≠ l[j].1 := by
 have := List.pairwise_iff_getElem.1 h i j (by simpa using (by omega : i < l.length)) (by simpa using hj) hi
 simpa using this
def worS (l : List DUE) (nl : Option Bool) (c : Int) (n : Nat) (m : LF) : StS := ⟨[{ cells := [.tl nl tDue l],e := 22,fz := false },{ cells := [.p (iv c),.arr n tLF m],e := 5,fz := true,m := true }],[]⟩
theorem cWorth (nl : Option Bool) (l : List DUE) (ns : Option Bool) (s : List ROW) (per sum e : Int) (hm : worM l s per = (sum,e)) (h : Short 2000 l) : PurS Try.prog 21 [injT (.sl tDue) (nl,l),injT (.sl tRow) (ns,s),injT tI per] (.tup [.p (iv sum),.p (iv e)]) := by
 refine PurS.of (S := [(15,_)]) (T := [(38,_)]) (U := []) (tbl := []) (n := 96) hm15 cfg (.cons (spT1.ok (a := (.sl (.pair (.int .i64) (.pair (.int .i64) (.int .i64))))) fun x0 h => cChk x0.1 x0.2 h) .nil) (.cons tKnown .nil) .nil .nil 0 Try.call21 Try.func21 (ac21_ok (some (0,0))) (by rw [Try.ntmps21]; exact Nat.le_refl _) rfl ⟨_,rfl⟩ ?_
 intro cmp ar cv tn ic ai mx an ad ml sb mn ln em gt up ap sc vw cp rp p1 p2 s1 s2 X Y hX hY r0 r1 r2 r3 r4 r5 r6 r7 r8 r9 r10 r11 r12 r13 r14 r15 r16 r17 r18 r19 r20 r21 r22 r23 r24
 generalize hg0 : chkD = g0
 cbv
 have h' := h.h
 have hla : ic (ln tDue l) = l.length := by rw [r4,r12]
 have hls : ic (ln tRow s) = s.length := by rw [r4,r12]
 obtain ⟨N,hN⟩ : ∃ N : Int,N = l.length := ⟨_,rfl⟩
 obtain ⟨S,hS⟩ : ∃ S : Int,S = s.length := ⟨_,rfl⟩
 rw [hla,hls,← hN,← hS]
 have hck : ∀ z,z = g0 l → worM l s per = if z ≠ 0 then (0,z) else if per < 0 ∨ per > 64 then (0,1) else if s.length > 64 then (0,4) else worR l per s 0 [] 0 := fun z hz => by rw [hz,← hg0]; rfl
 obtain ⟨ck,hck0⟩ : ∃ ck,ck = g0 l := ⟨_,rfl⟩
 have hck := hck ck hck0
 rw [hm] at hck
 show Short 2000 l ∧ BR (cmp BinOp.neq (g0 l) 0) (0 = sum ∧ g0 l = e ∧ True) _
 rw [← hck0]
 refine ⟨h,BR.neq r0 (fun h0 => ?_) fun h0 => ?_⟩
 · rw [if_pos h0] at hck
   injection hck with k1 k2
   exact ⟨k1.symm,k2.symm,trivial⟩
 rw [if_neg h0] at hck
 refine BR.lss r0 (fun h1 => ?_) fun h1 => BR.gtr r0 (fun h2 => ?_) fun h2 => BR.gtr r0 (fun h3 => ?_) fun h3 => ?_
 · rw [if_pos (by omega)] at hck
   injection hck with k1 k2
   exact ⟨k1.symm,k2.symm,trivial⟩
 · rw [if_pos (by omega)] at hck
   injection hck with k1 k2
   exact ⟨k1.symm,k2.symm,trivial⟩
 · rw [if_neg (by omega),if_pos (by omega)] at hck
   injection hck with k1 k2
   exact ⟨k1.symm,k2.symm,trivial⟩
 rw [if_neg (by omega),if_neg (by omega)] at hck
 have hD : DUES l := chkD_ok (by rw [hg0]; omega)
 clear hck0 h0 hm
 have hper : 0 ≤ per ∧ per ≤ 64 := by omega
 have hNb : 0 ≤ N ∧ N ≤ 64 := by have := hD.n; omega
 have hSb : 0 ≤ S ∧ S ≤ 64 := by omega
 refine LOOP.ind (σ := Int × Nat × Int × LF) (fun (i,n,c,m) => [(1,.tl ns tRow s),(2,.p (iv per)),(3,.ptr 0 0),(6,.p (iv 0)),(7,.p (iv 0)),(9,.mref 1),(34,.tl nl tDue l),(35,.p (iv N)),(36,.p (iv i))]) (fun (i,n,c,m) => worS l nl c n m) (fun (i,n,c,m) => (N - i).toNat)
   (fun (i,n,c,m) => (0 ≤ i ∧ i ≤ N) ∧ (m.length = n ∧ n = i ∧ c = i) ∧ LEFT m (l.take i.toNat) []) (0,0,0,[]) ⟨⟨by omega,by omega⟩,⟨rfl,rfl,rfl⟩,LEFT.nil⟩ (.inl ⟨rfl,rfl⟩) ?_
 intro ⟨i,n,c,m⟩ hI X' hX
 dsimp only at hI
 obtain ⟨⟨hI1,hI2⟩,⟨hm1,hm2,hm3⟩,hL⟩ := hI
 obtain ⟨⟨a,la,w⟩,hx⟩ : ∃ x : DUE,x = gt tDue l i := ⟨_,rfl⟩
 have hgt : gtR tDue l i = (a,la,w) := by rw [hx,r14]
 have q1 : p1 tI (.pair tI tI) (a,la,w) = a := by rw [r21]
 have q2 : p1 tI tI (p2 tI (.pair tI tI) (a,la,w)) = la := by rw [r21,r22]
 have q3 : p2 tI tI (p2 tI (.pair tI tI) (a,la,w)) = w := by rw [r22]
 have hadd : i < N → ar .add .i64 i 1 = i + 1 := fun h => by rw [r1]; exact wrap64 (n := i + 1) (by omega) (by omega)
 have hput : i < N → ∀ m' c',MPut m a (a,la,w) c m' c' → LEFT m' (l.take (i + 1).toNat) [] ∧ m'.length = m.length + 1 ∧ c' = c + 1 := fun h m' c' hp => by
   have h2 : (i + 1).toNat = i.toNat + 1 := by omega
   have h3 : i.toNat < l.length := by omega
   have h4 : l[i.toNat] = (a,la,w) := by rw [← hgt]; simp [gtR,h3]
   rw [h2,List.take_add_one,List.getElem?_eq_getElem h3,h4]
   refine hL.put (x := (a,la,w)) (fun y hy e => ?_) hp
   obtain ⟨j,hj,rfl⟩ := List.mem_take_iff_getElem.1 hy
   refine nodup_idx hD.u (i := j) (j := i.toNat) (by omega) h3 ?_
   rw [h4,e]
 have hfin : ¬ i < N → LEFT m l [] := fun h => by
   have := hL
   rw [List.take_of_length_le (by omega)] at this
   exact this
 clear hL
 cbv
 try simp only [nc_eq] at *
 rw [hla,← hN,← hx,q1,q2,q3,hls,← hS]
 refine BR.lss r0 (fun hc => ?_) fun hc => ?_
 · have h1 : INB i N := ⟨hI1,hc⟩
   have hput := hput hc
   have hadd := hadd hc
   have hc0 : 0 ≤ c := by omega
   refine ⟨h1,h1,MUP.mk hm1 hc0 fun n' m' c' hp hn' => ?_⟩
   obtain ⟨hL',hlen,rfl⟩ := hput m' c' hp
   have hn0' : n' = n + 1 := by rw [← hn',← hm1]; exact hlen
   have hm2' : ((n : Nat) : Int) = i := hm2
   have hn1' : ((n' : Nat) : Int) = i + 1 := by rw [hn0']; omega
   cbv
   rw [hadd]
   refine NEXT.mk (hX (i + 1,n',c + 1,m') _ _ ⟨⟨by show 0 ≤ i + 1; omega,by show i + 1 ≤ N; omega⟩,⟨hn',hn1',by show c + 1 = i + 1; omega⟩,hL'⟩ (by show (N - (i + 1)).toNat < (N - i).toNat; omega) (.inr ⟨[some 0,some 1],[],?_⟩))
   rw [SIM_iff]; cbv
   simp [nlLe_self,lstEq]
 have hL := hfin hc
 clear hX hput hfin hadd q1 q2 q3 hx hgt
 clear hI1 hI2 hm2 hm3 hN hNb h1 h2 h3 ck hla
 have hw : worR l per (s.drop (0 : Int).toNat) 0 [] 0 = (sum,e) := hck.symm
 clear hck
 refine LOOP.ind (σ := Int × Int × Nat × LF × List Int) (fun (j,sm,n,m,dn) => [(2,.p (iv per)),(6,.p (iv sm)),(7,.p (iv 0)),(9,.mref 1),(12,.fn (.func 38) [] [.ptr 0 0]),(46,.tl ns tRow s),(47,.p (iv S)),(48,.p (iv j))])
   (fun (j,sm,n,m,dn) => worS l nl c n m) (fun (j,sm,n,m,dn) => (S - j).toNat)
   (fun (j,sm,n,m,dn) => (0 ≤ j ∧ j ≤ S) ∧ (0 ≤ sm ∧ sm ≤ j * 67108864) ∧ m.length = n ∧ LEFT m l dn ∧ worR l per (s.drop j.toNat) j dn sm = (sum,e)) (0,0,n,m,[]) ⟨⟨by omega,by omega⟩,⟨by omega,by omega⟩,hm1,hL,hw⟩ (.inl ⟨rfl,rfl⟩) ?_
 clear hw hL hm1 m n
 intro ⟨j,sm,n,m,dn⟩ hI X' hX
 dsimp only at hI
 obtain ⟨⟨hI1,hI2⟩,⟨hI3,hI4⟩,hm1,hL,hw⟩ := hI
 obtain ⟨⟨rn,r⟩,hx⟩ : ∃ x : ROW,x = gt tRow s j := ⟨_,rfl⟩
 have hgt : gtR tRow s j = (rn,r) := by rw [hx,r14]
 have q1 : s1 tI (rn,r) = rn := by rw [r23]
 have q2 : s2 tI (rn,r) = r := by rw [r24]
 have hlr : ic (ln tI r) = r.length := by rw [r4,r12]
 obtain ⟨R,hR⟩ : ∃ R : Int,R = r.length := ⟨_,rfl⟩
 have hR0 : 0 ≤ R := by omega
 rw [← hR] at hlr
 have hadd : j < S → ar .add .i64 j 1 = j + 1 := fun h => by rw [r1]; exact wrap64 (n := j + 1) (by omega) (by omega)
 obtain ⟨⟨We,Wd,Ws⟩,hW⟩ : ∃ W,worA l j r dn sm = W := ⟨_,rfl⟩
 have f1 : j < S → R > per → 0 = sum ∧ 17 = e := fun h h' => by
   rw [gtR_drop (t := tRow) hI1 (by omega),hgt,worR,if_pos (by show (r.length : Int) > per; omega)] at hw
   injection hw with k1 k2
   exact ⟨k1,k2⟩
 have f2 : j < S → ¬ R > per → We ≠ 0 → 0 = sum ∧ We = e := fun h h' h3 => by
   rw [gtR_drop (t := tRow) hI1 (by omega),hgt,worR,if_neg (by show ¬ (r.length : Int) > per; omega)] at hw
   dsimp only at hw
   rw [hW,if_pos h3] at hw
   injection hw with k1 k2
   exact ⟨k1,k2⟩
 have f3 : j < S → ¬ R > per → We = 0 → worR l per (s.drop (j + 1).toNat) (j + 1) Wd Ws = (sum,e) := fun h h' h3 => by
   rw [gtR_drop (t := tRow) hI1 (by omega),hgt,worR,if_neg (by show ¬ (r.length : Int) > per; omega)] at hw
   dsimp only at hw
   rw [hW,if_neg (by rw [h3]; exact fun h => h rfl)] at hw
   exact hw
 have f4 : ¬ j < S → sm = sum ∧ 0 = e := fun h => by
   rw [gtR_end (by omega),worR] at hw
   injection hw with k1 k2
   exact ⟨k1,k2⟩
 clear hw
 cbv
 try simp only [nc_eq] at *
 rw [hls,← hS,← hx,q1,q2,hlr]
 refine BR.lss r0 (fun hc => ?_) fun hc => ?_
 rotate_left
 · obtain ⟨k1,k2⟩ := f4 hc
   exact BR.nn r0 ⟨k1,k2,trivial⟩
 have h1 : INB j S := ⟨hI1,hc⟩
 refine ⟨h1,h1,BR.gtr r0 (fun h => ?_) fun hper2 => ?_⟩
 · obtain ⟨k1,k2⟩ := f1 hc h
   exact BR.neq r0 (fun _ => ⟨k1,k2,trivial⟩) fun h => absurd h (by omega)
 have f2 := f2 hc hper2
 have f3 := f3 hc hper2
 clear f1 f4
 have hw : worA l j (r.drop (0 : Int).toNat) dn sm = (We,Wd,Ws) := hW
 have hX2 : ∀ n m dn sm k,0 ≤ k → k ≤ R → 0 ≤ sm → sm ≤ j * 67108864 + k * 1048576 → m.length = n → LEFT m l dn → We = 0 → Wd = dn → Ws = sm → ∀ ρ st,
     SIMX 0 0 ρ st [(2,.p (iv per)),(6,.p (iv sm)),(7,.p (iv 0)),(9,.mref 1),(12,.fn (.func 38) [] [.ptr 0 0]),(46,.tl ns tRow s),(47,.p (iv S)),(48,.p (iv (j + 1)))] (worS l nl c n m) → NEXT X' ρ st :=
   fun n m dn sm k q1 q2 q3 q4 q5 q6 q7 q8 q9 ρ st hs => by
     subst q8 q9
     exact NEXT.mk (hX (j + 1,Ws,n,m,Wd) _ _ ⟨⟨by show 0 ≤ j + 1; omega,by show j + 1 ≤ S; omega⟩,⟨q3,by show Ws ≤ (j + 1) * 67108864; omega⟩,q5,q6,f3 q7⟩ (by show (S - (j + 1)).toNat < (S - j).toNat; omega) hs)
 clear hX f3 hW
 refine LOOP.ind (σ := Int × Int × Nat × LF × List Int) (fun (k,sm,n,m,dn) => [(2,.p (iv per)),(6,.p (iv sm)),(7,.p (iv 0)),(9,.mref 1),(12,.fn (.func 38) [] [.ptr 0 0]),(13,.p (iv j)),(46,.tl ns tRow s),(47,.p (iv S)),(48,.p (iv j)),(57,.tl rn tI r),(58,.p (iv R)),(59,.p (iv k))])
   (fun (k,sm,n,m,dn) => worS l nl c n m) (fun (k,sm,n,m,dn) => (R - k).toNat)
   (fun (k,sm,n,m,dn) => (0 ≤ k ∧ k ≤ R) ∧ (0 ≤ sm ∧ sm ≤ j * 67108864 + k * 1048576) ∧ m.length = n ∧ LEFT m l dn ∧ worA l j (r.drop k.toNat) dn sm = (We,Wd,Ws)) (0,sm,n,m,dn) ⟨⟨by omega,hR0⟩,⟨hI3,by show sm ≤ j * 67108864 + 0 * 1048576; omega⟩,hm1,hL,hw⟩ (.inl ⟨rfl,rfl⟩) ?_
 clear hw hL hm1 m n hI3 hI4 sm dn
 intro ⟨k,sm,n,m,dn⟩ hI X3 hX3
 dsimp only at hI
 obtain ⟨⟨hK1,hK2⟩,⟨hI3,hI4⟩,hm1,hL,hw⟩ := hI
 obtain ⟨b,hb⟩ : ∃ x : Int,x = gt tI r k := ⟨_,rfl⟩
 have hgb : gtR tI r k = b := by rw [hb,r14]
 have haddk : k < R → ar .add .i64 k 1 = k + 1 := fun h => by rw [r1]; exact wrap64 (n := k + 1) (by omega) (by omega)
 have hadd := hadd hc
 have hrd : k < R → r.drop k.toNat = b :: r.drop (k + 1).toNat := fun h => by rw [← hgb]; exact gtR_drop (t := tI) hK1 (by omega)
 have g0' : ¬ k < R → We = 0 ∧ Wd = dn ∧ Ws = sm := fun h => by
   rw [gtR_end (by omega),worA] at hw
   injection hw with k1 k2
   injection k2 with k2 k3
   exact ⟨k1.symm,k2.symm,k3.symm⟩
 have g1 : k < R → l.find? (fun x => decide (x.1 = b)) = none → We = 8 := fun h h1 => by
   rw [hrd h,worA,h1] at hw
   injection hw with k1 k2
   exact k1.symm
 have g2 : k < R → ∀ v,l.find? (fun x => decide (x.1 = b)) = some v → b ∈ dn → We = 16 := fun h v h1 h2 => by
   rw [hrd h,worA,h1] at hw
   dsimp only at hw
   rw [if_pos h2] at hw
   injection hw with k1 k2
   exact k1.symm
 have g3 : k < R → ∀ v,l.find? (fun x => decide (x.1 = b)) = some v → b ∉ dn → j > v.2.1 → We = 12 := fun h v h1 h2 h3 => by
   rw [hrd h,worA,h1] at hw
   dsimp only at hw
   rw [if_neg h2,if_pos h3] at hw
   injection hw with k1 k2
   exact k1.symm
 have g4 : k < R → ∀ v,l.find? (fun x => decide (x.1 = b)) = some v → b ∉ dn → ¬ j > v.2.1 → worA l j (r.drop (k + 1).toNat) (b :: dn) (sm + v.2.2) = (We,Wd,Ws) := fun h v h1 h2 h3 => by
   rw [hrd h,worA,h1] at hw
   dsimp only at hw
   rw [if_neg h2,if_neg h3] at hw
   exact hw
 clear hw hrd
 have hhas : ∀ z,z = hasA l b → z = (l.find? (fun y => decide (y.1 = b))).isSome := fun z hz => by rw [hz]; exact find_has
 obtain ⟨fd,hfd⟩ : ∃ fd,fd = l.find? (fun x => decide (x.1 = b)) := ⟨_,rfl⟩
 have hL1 : ∀ v b',MHas m b v b' → fd = some v ∧ b ∉ dn ∧ v ∈ l := fun v b' h => by rw [hfd]; exact hL.has hD.u h
 have hL2 : MNot m b → ∀ v,fd = some v → b ∈ dn := fun h v hv => hL.not h (by rw [← hfd]; exact hv)
 have hL3 : ∀ v b' m',MHas m b v b' → MDel m b m' → LEFT m' l (b :: dn) := fun v b' m' h h' => hL.del h h'
 rw [← hfd] at g1 g2 g3 g4 hhas
 clear hfd hgb
 cbv
 try simp only [nc_eq] at *
 rw [hlr,← hb]
 have hmk : ∀ (ρ : EnvS) (st : StS),¬ k < R → SIMX 0 0 ρ st [(2,.p (iv per)),(6,.p (iv sm)),(7,.p (iv 0)),(9,.mref 1),(12,.fn (.func 38) [] [.ptr 0 0]),(46,.tl ns tRow s),(47,.p (iv S)),(48,.p (iv (j + 1)))] (worS l nl c n m) → NEXT X' ρ st := fun ρ st h hs => by
   obtain ⟨k1,k2,k3⟩ := g0' h
   exact hX2 n m dn sm k hK1 hK2 hI3 hI4 hm1 hL k1 k2 k3 ρ st hs
 refine BR.lss r0 (fun hc2 => ?_) fun hc2 => ?_
 rotate_left
 · rw [hadd]
   exact hmk _ _ hc2 (.inl ⟨rfl,rfl⟩)
 have h2 : INB k R := ⟨hK1,hc2⟩
 have g1 := g1 hc2
 have g2 := g2 hc2
 have g3 := g3 hc2
 have g4 := g4 hc2
 have haddk := haddk hc2
 clear hmk g0' hX2
 refine ⟨h2,h2,MLK.mk hm1 (fun v b' hh => ?_) fun hn0 => ?_⟩
 · obtain ⟨e1,e2,e3⟩ := hL1 v b' hh
   obtain ⟨v1,v2,v3⟩ : Int × Int × Int := v
   have hnb : ¬ badD (v1,v2,v3) := hD.b _ e3
   have hv3 : 0 ≤ v3 ∧ v3 ≤ 1048576 := by unfold badD at hnb; dsimp only at hnb; omega
   have g3 : v2 < j → We = 12 := g3 (v1,v2,v3) e1 e2
   have g4 : ¬ v2 < j → worA l j (r.drop (k + 1).toNat) (b :: dn) (sm + v3) = (We,Wd,Ws) := g4 (v1,v2,v3) e1 e2
   have hhas : ∀ z,z = hasA l b → z = true := fun z hz => by rw [hhas z hz,e1]; rfl
   have q1 : p1 tI (.pair tI tI) (v1,v2,v3) = v1 := by rw [r21]
   have q2 : p1 tI tI (p2 tI (.pair tI tI) (v1,v2,v3)) = v2 := by rw [r21,r22]
   have q3 : p2 tI tI (p2 tI (.pair tI tI) (v1,v2,v3)) = v3 := by rw [r22]
   have hadd2 : ar .add .i64 sm v3 = sm + v3 := by rw [r1]; exact wrap64 (n := sm + v3) (by omega) (by omega)
   clear g1 g2 hL2 hnb
   cbv
   refine KNOK.mk h fun z hz => ?_
   obtain rfl := hhas z hz
   cbv
   refine ⟨⟨⟨⟨⟨nlLe_self.2 trivial,trivial⟩,trivial⟩,trivial⟩,trivial⟩,BR.mk (fun _ => ?_) (fun h => Bool.noConfusion h)⟩
   rw [q2]
   refine BR.gtr r0 (fun h4 => ?_) fun h4 => BR.nn r0 ?_
   · have h5 := g3 h4
     obtain ⟨k1,k2⟩ := f2 (by omega)
     rw [h5] at k2
     exact BR.neq r0 (fun _ => BR.neq r0 (fun _ => ⟨k1,k2,trivial⟩) fun h => absurd h (by omega)) fun h => absurd h (by omega)
   · have g4 := g4 h4
     refine MDL.mk hm1 fun n' m' hd hn' => ?_
     have hL' := hL3 (v1,v2,v3) b' m' hh hd
     cbv
     rw [q3,hadd2,haddk]
     refine NEXT.mk (hX3 (k + 1,sm + v3,n',m',b :: dn) _ _ ⟨⟨by show 0 ≤ k + 1; omega,by show k + 1 ≤ R; omega⟩,⟨by show 0 ≤ sm + v3; omega,by show sm + v3 ≤ j * 67108864 + (k + 1) * 1048576; omega⟩,hn',hL',g4⟩ (by show (R - (k + 1)).toNat < (R - k).toNat; omega) (.inr ⟨[some 0,some 1],[],?_⟩))
     rw [SIM_iff]; cbv
     simp [nlLe_self,lstEq]
 · have hL2 := hL2 hn0
   clear g3 g4 hL1 hL3
   obtain ⟨z,hz0⟩ : ∃ z,z = hasA l b := ⟨_,rfl⟩
   have hz1 := hhas z hz0
   refine KNOK.mk h fun z' hz' => ?_
   obtain rfl : z' = z := by rw [hz',hz0]
   clear hhas hz' hz0
   cbv
   refine ⟨⟨⟨⟨⟨nlLe_self.2 trivial,trivial⟩,trivial⟩,trivial⟩,trivial⟩,BR.mk (fun hz => ?_) (fun hz => ?_)⟩
   · obtain ⟨v,hv⟩ := Option.isSome_iff_exists.1 (hz1.symm.trans hz)
     have h5 := g2 v hv (hL2 v hv)
     obtain ⟨k1,k2⟩ := f2 (by omega)
     rw [h5] at k2
     exact BR.neq r0 (fun _ => BR.neq r0 (fun _ => ⟨k1,k2,trivial⟩) fun h => absurd h (by omega)) fun h => absurd h (by omega)
   · have h5 := g1 (by
       cases hfe : fd with
       | none => rfl
       | some v => rw [hfe,hz] at hz1; cases hz1)
     obtain ⟨k1,k2⟩ := f2 (by omega)
     rw [h5] at k2
     exact BR.neq r0 (fun _ => BR.neq r0 (fun _ => ⟨k1,k2,trivial⟩) fun h => absurd h (by omega)) fun h => absurd h (by omega)
end Go.Ab
