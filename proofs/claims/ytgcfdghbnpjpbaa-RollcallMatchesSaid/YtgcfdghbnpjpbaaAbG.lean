/- Abstract values and states for the functions of a translated program,and preconditions over them: the library's sort on a box. What is proved holds for every program,without conditions. -/
import Derived.Test.YtgcfdghbnpjpbaaAbF
import Derived.Shelf.SlSortFuncK.SWK
set_option linter.unusedSimpArgs false
set_option linter.unusedVariables false
namespace Go.Ab
open Go.RowKit
open Classical in
noncomputable def relG (R : Nat → Prop) (E : Em) (w : World) : Mem := fun b o =>
 if ∃ j,R j ∧ E.ι j = some b then (match w.cell? ⟨b,o,none⟩ with | some u => if u.oneCell' = true then some u else none | none => none) else E.G b o
open Classical in
noncomputable def relE (R W : Nat → Prop) (E : Em) (w : World) : Em :=
 ⟨relG R E w,fun i => if W i then E.ι i else none,E.γ,fun i => if W i then E.δ i else none,fun i => if W i then E.κ i else none⟩
open Classical in
noncomputable def unrE (R W : Nat → Prop) (E E1 : Em) : Em :=
 ⟨fun b o => if ∃ j,R j ∧ E.ι j = some b then none else E1.G b o,fun i => if W i then E1.ι i else E.ι i,E1.γ,fun i => if W i then E1.δ i else E.δ i,fun i => if W i then E1.κ i else E.κ i⟩
def okW (W : Nat → Prop) : D → Prop
 | .p x => flatP x = true
 | .ptr i _ => W i
 | .ms i _ _ => W i
 | .mref i => W i
 | _ => False
def okWs (W : Nat → Prop) (st : St) : Prop := ∀ i B,st.box[i]? = some B → W i → ∀ j,j < B.cells.length → okW W (B.cells.getD j default)
def okV (R : Nat → Prop) (st : St) : Prop := ∀ j,R j → ∃ B,st.box[j]? = some B ∧ B.fz = false ∧ B.m = false
section
variable {P : Program} {c : Ctx} {R W : Nat → Prop} {E E1 : Em} {st st' : St} {w w' : World}
theorem relE_ι {i b : Nat} (h : (relE R W E w).ι i = some b) : W i ∧ E.ι i = some b := by
 simp only [relE] at h
 split at h
 · rename_i hr; exact ⟨hr,h⟩
 · cases h
theorem relE_N {i b : Nat} (hr : W i) (h : E.N i b) : (relE R W E w).N i b := by
 simp only [Em.N,relE,if_pos hr] at h ⊢; exact h
theorem relE_κ {i : Nat} (hr : W i) : (relE R W E w).κ i = E.κ i := if_pos hr
theorem unrE_N {i b : Nat} (hr : W i) (h : E1.N i b) : (unrE R W E E1).N i b := by
 simp only [Em.N,unrE,if_pos hr] at h ⊢; exact h
theorem unrE_κ {i : Nat} (hr : W i) : (unrE R W E E1).κ i = E1.κ i := if_pos hr
theorem relE_up {d : D} {u : Value} (hd : okW W d) (h : RD E d u) : RD (relE R W E w) d u := by
 cases h with
 | p x u h => exact .p _ _ (h.flat hd)
 | ptr i off b h => exact .ptr _ _ b (relE_N hd h)
 | ms i off n b cap h hc hk => exact .ms _ _ _ b cap (relE_N hd h) hc (fun c0 h0 => hk c0 (by rw [← relE_κ (E := E) (R := R) (w := w) hd]; exact h0))
 | mref i b h => exact .mref _ b (relE_N hd h)
 | _ => exact hd.elim
theorem unrE_up {d : D} {u : Value} (hd : okW W d) (h : RD E1 d u) : RD (unrE R W E E1) d u := by
 cases h with
 | p x u h => exact .p _ _ (h.flat hd)
 | ptr i off b h => exact .ptr _ _ b (unrE_N hd h)
 | ms i off n b cap h hc hk => exact .ms _ _ _ b cap (unrE_N hd h) hc (fun c0 h0 => hk c0 (by rw [← unrE_κ (E := E) (E1 := E1) (R := R) hd]; exact h0))
 | mref i b h => exact .mref _ b (unrE_N hd h)
 | _ => exact hd.elim
theorem relG_out {b o : Nat} (h : ¬ ∃ j,R j ∧ E.ι j = some b) : relG R E w b o = E.G b o := if_neg h
theorem relG_le (hw : HR P c E st w) {b o : Nat} {u : Value} (h : E.G b o = some u) : relG R E w b o = some u := by
 rw [relG_out,h]
 rintro ⟨j,_,hj⟩
 obtain ⟨B,vs,_,_,_,_,_,_,h6⟩ := hw.box j b hj
 rw [h6 o] at h; cases h
theorem relE_ptr (hw : HR P c E st w) (hV : okV R st) {j : Nat} {B : Box} {d dL : D} (hj : R j) (hB : st.box[j]? = some B) (hc : B.cells = [d]) (hd : ∀ u,RD E d u → RD (relE R W E w) dL u) {u : Value}
   (h : RD E (.ptr j 0) u) : RD (relE R W E w) (.rel dL) u := by
 obtain ⟨b,hb,rfl⟩ := h.ptr_inv
 obtain ⟨B',hB',hf,hm⟩ := hV j hj
 obtain rfl : B = B' := by rw [hB] at hB'; exact Option.some.inj hB'
 have hι := hw.live hb hB hf
 obtain ⟨B',vs,q1,q2,q3,q4,_⟩ := hw.box j b hι
 obtain rfl : B = B' := by rw [hB] at q1; exact Option.some.inj q1
 rw [objOf_cells vs hm] at q2
 rw [hc] at q3 q4
 have h0 : 0 < vs.size := by simp only [List.length_cons,List.length_nil] at q3; omega
 obtain ⟨r1,r2⟩ := q4 0 (by simp)
 have hcell : w.cell? ⟨b,0,none⟩ = some (vs.getD 0 undef) := by rw [cell_of_row w b 0 vs B.e (0,0) q2]; simp [h0]
 refine .rel dL b 0 (vs.getD 0 undef) ?_ (hd _ r1)
 show relG R E w b 0 = _
 rw [relG,if_pos ⟨j,hj,hι⟩,hcell]
 exact if_pos r2
theorem relE_ms (hw : HR P c E st w) (hV : okV R st) {j n : Nat} {B : Box} {xs : List PD} {nl : Option Bool} (hj : R j) (hB : st.box[j]? = some B) (hl : xs.length ≤ B.cells.length) (hnl : nl ≠ some true)
   (hd : ∀ i,i < xs.length → ∀ u,RD E (B.cells.getD i default) u → RP (relG R E w) (xs.getD i default) u) {u : Value} (h : RD E (.ms j 0 n) u) : RP (relG R E w) (.sl nl n xs) u := by
 obtain ⟨b,cap,hb,hc,_,rfl⟩ := h.ms_inv
 obtain ⟨B',hB',hf,hm⟩ := hV j hj
 obtain rfl : B = B' := by rw [hB] at hB'; exact Option.some.inj hB'
 have hι := hw.live hb hB hf
 obtain ⟨B',vs,q1,q2,q3,q4,_⟩ := hw.box j b hι
 obtain rfl : B = B' := by rw [hB] at q1; exact Option.some.inj q1
 rw [objOf_cells vs hm] at q2
 refine .sl nl n xs b 0 cap (fun i => vs.getD i undef) hnl hc (fun i hi => ?_) fun i hi => hd i hi _ (q4 i (by omega)).1
 have h0 : i < vs.size := by omega
 have hcell : w.cell? ⟨b,i,none⟩ = some (vs.getD i undef) := by rw [cell_of_row w b i vs B.e (0,0) q2]; simp [h0]
 rw [Nat.zero_add,relG,if_pos ⟨j,hj,hι⟩,hcell]
 exact if_pos (q4 i (by omega)).2
theorem HR.relEnter (hw : HR P c E st w) (hRW : ∀ j,R j → ¬ W j) (hst : okWs W st) : HR P (.sub w (relE R W E w)) (relE R W E w) st w where
 os := rfl
 tape := ⟨rfl,Nat.le_refl _⟩
 output := ⟨rfl,fun _ _ => rfl⟩
 size := Nat.le_refl _
 old _ _ _ := rfl
 le := .refl _
 gnew _ _ _ _ := rfl
 gok b o u h := by
   change relG R E w b o = some u at h
   unfold relG at h
   split at h
   · split at h
     · rename_i v hv
       split at h
       · rename_i h1; obtain rfl := Option.some.inj h; exact ⟨hv,h1⟩
       · cases h
     · cases h
   · exact hw.gok b o u h
 box i b h := by
   obtain ⟨hr,hι⟩ := relE_ι h
   obtain ⟨B,vs,h1,h2,h3,h4,h5,h6,h7⟩ := hw.box i b hι
   refine ⟨B,vs,h1,h2,h3,fun j hj => ⟨relE_up (hst i B h1 hr j hj) (h4 j hj).1,(h4 j hj).2⟩,.inr (.inl ⟨i,h⟩),?_,fun o => ?_⟩
   · rw [relE_κ hr]; exact h6
   · show relG R E w b o = none
     rw [relG_out,h7 o]
     rintro ⟨j,hj,hj2⟩
     exact hRW j hj (by rw [← hw.inj i j b hι hj2]; exact hr)
 inj i j b h1 h2 := hw.inj i j b (relE_ι h1).2 (relE_ι h2).2
 grp g b cap cur h := by
   obtain ⟨e,vs,inf,h1,h2,h3,h4,h5,h6,h7,h8⟩ := hw.grp g b cap cur h
   refine ⟨e,vs,inf,h1,h2,h3,h4,h5,h6,.inr (.inr ⟨g,cap,cur,h⟩),fun o ho => ?_⟩
   show relG R E w b o = none
   rw [relG_out,h8 o ho]
   rintro ⟨j,hj,hj2⟩
   exact hw.apart j g b cap cur hj2 h
 ginj := hw.ginj
 apart i g b cap cur h := hw.apart i g b cap cur (relE_ι h).2
 dead i b h := by
   simp only [relE] at h
   split at h
   · exact hw.dead i b h
   · cases h
 kap i c0 h := by
   simp only [relE] at h
   split at h
   · rename_i hr
     obtain ⟨b,hb⟩ := hw.kap i c0 h
     exact ⟨b,relE_N hr hb⟩
   · cases h
theorem rel_apart (hw : HR P c E st w) {j b : Nat} (hj : ¬ W j) (hι : E.ι j = some b) : b < w.heap.size ∧ ¬ (Ctx.sub w (relE R W E w)).X b := by
 refine ⟨hw.ι_lt hι,?_⟩
 rintro (⟨i,h⟩ | ⟨g,cap,cur,h⟩)
 · obtain ⟨h1,h2⟩ := relE_ι h
   exact hj (by rw [← hw.inj i j b h2 hι]; exact h1)
 · exact hw.apart j g b cap cur hι h
theorem rel_not (hw : HR P c E st w) {b : Nat} (hb : b < c.w0.heap.size) (hx : ¬ c.X b) : ¬ (Ctx.sub w (relE R W E w)).X b := by
 rintro (⟨i,h⟩ | h)
 · exact hw.sub_not hb hx (.inl ⟨i,(relE_ι h).2⟩)
 · exact hw.sub_not hb hx (.inr h)
theorem rel_own (hw : HR P c E st w) {b : Nat} (h : w.heap.size ≤ b ∨ (Ctx.sub w (relE R W E w)).X b) : c.w0.heap.size ≤ b ∨ c.X b := by
 rcases h with h | ⟨i,h⟩ | ⟨g,cap,cur,h⟩
 · exact .inl (Nat.le_trans hw.size h)
 · obtain ⟨_,_,_,_,_,_,q,_⟩ := hw.box i b (relE_ι h).2; exact q
 · obtain ⟨_,_,_,_,_,_,_,_,_,q,_⟩ := hw.grp g b cap cur h; exact q
theorem rel_new (hw : HR P c E st w) {j b : Nat} (h : w.heap.size ≤ b ∨ (Ctx.sub w (relE R W E w)).X b) (hj : ¬ W j) (hι : E.ι j = some b) : False := by
 obtain ⟨q1,q2⟩ := rel_apart (R := R) hw hj hι
 rcases h with h | h
 · omega
 · exact q2 h
open Classical in
theorem unr_le (hw : HR P c E st w) (hle : (relE R W E w).le E1) : E.le (unrE R W E E1) where
 G b o u h := by
   have h1 := hle.G b o u (relG_le hw h)
   show (if _ then _ else _) = _
   rw [if_neg,h1]
   rintro ⟨j,_,hj⟩
   obtain ⟨B,vs,_,_,_,_,_,_,h6⟩ := hw.box j b hj
   rw [h6 o] at h; cases h
 ι i b h := by
   by_cases hr : W i
   · exact unrE_N hr (hle.ι i b (relE_N hr h))
   · simp only [Em.N,unrE,if_neg hr]; exact h
 κ i b h := by
   by_cases hr : W i
   · rw [unrE_κ hr,hle.κ i b (relE_N hr h),relE_κ hr]
   · simp only [unrE,if_neg hr]
 γ := hle.γ
open Classical in
theorem HR.relLeave (hw : HR P c E st w) (hRW : ∀ j,R j → ¬ W j) (h : HR P (.sub w (relE R W E w)) E1 st' w') (hst : okWs W st') (hsm : ∀ j,¬ W j → ∀ B,st.box[j]? = some B → st'.box[j]? = some B) :
   HR P c (unrE R W E E1) st' w' where
 os := h.os.trans hw.os
 tape := td hw.tape h.tape
 output := ⟨h.output.1.trans hw.output.1,fun a ha => (h.output.2 a (Nat.lt_of_lt_of_le ha hw.size)).trans (hw.output.2 a ha)⟩
 size := Nat.le_trans hw.size h.size
 old k hk hx := (h.old k (Nat.lt_of_lt_of_le hk hw.size) (rel_not hw hk hx)).trans (hw.old k hk hx)
 le := hw.le.trans (unr_le hw h.le)
 gnew b o hb hx := by
   have hn : ¬ ∃ j,R j ∧ E.ι j = some b := by
     rintro ⟨j,_,hj⟩
     obtain ⟨_,_,_,_,_,_,q,_⟩ := hw.box j b hj
     rcases q with q | q
     · omega
     · exact hx q
   show (if _ then _ else _) = _
   rw [if_neg hn,h.gnew b o (Nat.lt_of_lt_of_le hb hw.size) (rel_not hw hb hx)]
   show relG R E w b o = _
   rw [relG_out hn,hw.gnew b o hb hx]
 gok b o u hu := by
   change (if _ then _ else _) = _ at hu
   split at hu
   · cases hu
   · exact h.gok b o u hu
 box i b hi := by
   change (if _ then _ else _) = _ at hi
   split at hi
   · rename_i hr
     obtain ⟨B,vs,h1,h2,h3,h4,h5,h6,h7⟩ := h.box i b hi
     refine ⟨B,vs,h1,h2,h3,fun j hj => ⟨unrE_up (hst i B h1 hr j hj) (h4 j hj).1,(h4 j hj).2⟩,rel_own hw h5,?_,fun o => ?_⟩
     · rw [unrE_κ hr]; exact h6
     · show (if _ then _ else _) = _
       rw [if_neg]
       · exact h7 o
       · rintro ⟨j,q1,q2⟩; exact rel_new hw h5 (hRW j q1) q2
   · rename_i hr
     obtain ⟨B,vs,h1,h2,h3,h4,h5,h6,h7⟩ := hw.box i b hi
     obtain ⟨q1,q2⟩ := rel_apart (R := R) hw hr hi
     refine ⟨B,vs,hsm i hr B h1,(h.old b q1 q2).trans h2,h3,fun j hj => ⟨(h4 j hj).1.mono (unr_le hw h.le),(h4 j hj).2⟩,h5,?_,fun o => ?_⟩
     · simp only [unrE,if_neg hr]; exact h6
     · show (if _ then _ else _) = _
       split
       · rfl
       · rename_i hn
         rw [h.gnew b o q1 q2]
         show relG R E w b o = _
         rw [relG_out hn]; exact h7 o
 inj i j b hi hj := by
   change (if _ then _ else _) = _ at hi hj
   split at hi <;> split at hj
   · exact h.inj i j b hi hj
   · rename_i r1 r2
     obtain ⟨_,_,_,_,_,_,h5,_⟩ := h.box i b hi
     exact (rel_new hw h5 r2 hj).elim
   · rename_i r1 r2
     obtain ⟨_,_,_,_,_,_,h5,_⟩ := h.box j b hj
     exact (rel_new hw h5 r1 hi).elim
   · exact hw.inj i j b hi hj
 grp g b cap cur hg := by
   obtain ⟨e,vs,inf,h1,h2,h3,h4,h5,h6,h7,h8⟩ := h.grp g b cap cur hg
   refine ⟨e,vs,inf,h1,h2,h3,h4,h5,h6,rel_own hw h7,fun o ho => ?_⟩
   show (if _ then _ else _) = _
   rw [if_neg]
   · exact h8 o ho
   · rintro ⟨j,q1,q2⟩; exact rel_new hw h7 (hRW j q1) q2
 ginj := h.ginj
 apart i g b cap cur hi hg := by
   change (if _ then _ else _) = _ at hi
   split at hi
   · exact h.apart i g b cap cur hi hg
   · rename_i hr
     obtain ⟨_,_,_,_,_,_,_,_,_,h7,_⟩ := h.grp g b cap cur hg
     exact rel_new hw h7 hr hi
 dead i b hi := by
   change (if _ then _ else _) = _ at hi
   split at hi
   · exact h.dead i b hi
   · rename_i hr
     obtain ⟨B,h1,h2,h3⟩ := hw.dead i b hi
     exact ⟨B,hsm i hr B h1,h2,h3⟩
 kap i c0 hi := by
   change (if _ then _ else _) = _ at hi
   split at hi
   · rename_i hr
     obtain ⟨b,hb⟩ := h.kap i c0 hi
     exact ⟨b,unrE_N hr hb⟩
   · rename_i hr
     obtain ⟨b,hb⟩ := hw.kap i c0 hi
     exact ⟨b,by simp only [Em.N,unrE,if_neg hr]; exact hb⟩
theorem FnC.rel {f : FuncId} {ds dsL : List D} {KL K : D → St → Prop} (R W : Nat → Prop) (hRW : ∀ j,R j → ¬ W j) (hst : okWs W st) (hlen : ds.length = dsL.length)
   (hA : ∀ (c : Ctx) (E : Em) (w : World),HR P c E st w → ∀ i,i < ds.length → ∀ u,RD E (ds.getD i default) u → RD (relE R W E w) (dsL.getD i default) u)
   (h : FnC P f dsL st KL) (hK : ∀ d st',KL d st' → okW W d ∧ okWs W st' ∧ (∀ j,¬ W j → ∀ B,st.box[j]? = some B → st'.box[j]? = some B) ∧ K d st') : FnC P f ds st K := by
 intro c
 refine ⟨(h c).1,fun E w vs hw hgl hs hR => ?_⟩
 refine ((h (.sub w (relE R W E w))).2 _ w vs (hw.relEnter hRW hst) (hgl.mono fun b o u hu => relG_le hw hu) (hs.trans hlen) fun i hi => hA c E w hw i (by omega) _ (hR i (by omega))).mono ?_
 rintro e w' ⟨v,E',d,st',rfl,k1,k2,k3,_,k5⟩
 obtain ⟨q1,q2,q3,q4⟩ := hK d st' k5
 exact ⟨v,unrE R W E E',d,st',rfl,unr_le hw k1,hw.relLeave hRW k2 q2 q3,unrE_up q1 k3,fun _ _ _ hn => absurd trivial hn,q4⟩
end
end Go.Ab
namespace Go.Ab
open Go.RowKit Go.Sort Go.Proofs
section
variable {α : Type} [Inhabited α]
theorem flat_get (enc : α → List Value) (k : Nat) (hk : ∀ x,(enc x).length = k) : ∀ (l : List α) (t : Nat),t < l.length * k → (l.flatMap enc)[t]? = (enc l[t / k]!)[t % k]?
 | [],t,h => by simp at h
 | x :: r,t,h => by
   have k0 : 0 < k := Nat.pos_of_ne_zero (by rintro rfl; simp at h)
   rw [List.flatMap_cons,List.getElem?_append,hk]
   by_cases ht : t < k
   · rw [if_pos ht,Nat.div_eq_of_lt ht,Nat.mod_eq_of_lt ht]; rfl
   · rw [if_neg ht,flat_get enc k hk r (t - k) (by simp only [List.length_cons,Nat.add_mul,Nat.one_mul] at h; omega)]
     have h1 : t / k = (t - k) / k + 1 := by rw [Nat.div_eq_sub_div k0 (by omega)]
     have h2 : t % k = (t - k) % k := by rw [Nat.mod_eq_sub_mod (by omega)]
     rw [h1,h2]; rfl
omit [Inhabited α] in
theorem flat_len (enc : α → List Value) (k : Nat) (hk : ∀ x,(enc x).length = k) : ∀ l : List α,(l.flatMap enc).length = l.length * k
 | [] => by simp
 | x :: r => by rw [List.flatMap_cons,List.length_append,hk,flat_len enc k hk r,List.length_cons,Nat.add_mul,Nat.one_mul,Nat.add_comm]
theorem sortFlat_get (enc : α → List Value) (k : Nat) (hk : ∀ x,(enc x).length = k) (d : Array α) (t : Nat) (h : t < d.size * k) : (Go.Sort.flatK enc k d)[t]! = (d.toList.flatMap enc).getD t undef := by
 have k0 : 0 < k := Nat.pos_of_ne_zero (by rintro rfl; simp at h)
 rw [get_flatK _ _ _ _ h,List.getD,flat_get enc k hk _ _ (by simpa using h)]
 have : d.toList[t / k]! = d[t / k]! := by simp [getElem!_def]
 rw [this]
 have hm : t % k < (enc d[t / k]!).length := by rw [hk]; exact Nat.mod_lt _ k0
 rw [List.getElem?_eq_getElem hm,getElem!_pos (enc d[t / k]!) (t % k) hm]; rfl
theorem HR.sorted {P : Program} {c : Ctx} {E : Em} {st : St} {w : World} (hw : HR P c E st w) {i b : Nat} (hb : E.ι i = some b) {B : Box} (hB : st.box[i]? = some B) (hf : B.fz = false) (enc : α → List Value) (k : Nat) (hk : ∀ x,(enc x).length = k)
   (h1 : ∀ x,∀ v ∈ enc x,v.oneCell' = true) (d : Array α) (hc : B.cells = (d.toList.flatMap enc).map fun v => .p (.v v)) : HoldsK enc k w b 0 d ∧
   ∀ (d' : Array α) (n : Nat) (os : Array Obj),d'.size = d.size → HR P c E { st with box := st.box.set i { B with cells := (d'.toList.flatMap enc).map fun v => .p (.v v) } } (sortWorldK enc k w b 0 n d' os) := by
 obtain ⟨B',vs,q1,q2,q3,q4,q5,q6⟩ := hw.box i b hb
 obtain rfl : B = B' := by rw [hB] at q1; simpa using q1
 rw [objOf_cells vs (q6.1.1.symm.trans hf)] at q2
 have hl : B.cells.length = d.size * k := by rw [hc,List.length_map,flat_len enc k hk]; simp
 refine ⟨fun j hj => ?_,fun d' n os hd => ?_⟩
 · rw [size_flatK] at hj
   have h := q4 j (by omega)
   have e : B.cells.getD j default = .p (.v ((d.toList.flatMap enc).getD j undef)) := by
     have hj' : j < (d.toList.flatMap enc).length := by rw [flat_len enc k hk]; simpa using hj
     rw [hc]; simp only [List.getD,List.getElem?_map,List.getElem?_eq_getElem hj',Option.map_some,Option.getD_some]
   rw [e] at h
   have hv := h.1.v_inv
   have hlt : j < vs.size := by omega
   refine ⟨?_,?_⟩
   · show w.cell? ⟨b,0 + j,none⟩ = some (id (Go.Sort.flatK enc k d)[j]!)
     rw [Nat.zero_add,id,sortFlat_get enc k hk d j hj,← hv]
     unfold World.cell?
     simp only [q2]
     simp [Array.getD,hlt]
   · unfold World.frozen?
     simp only [q2]
     simp
 · have hset := hw.setbox hb hB hf ((d'.toList.flatMap enc).map fun v => .p (.v v)) vs (Go.Sort.putCells id 0 (Go.Sort.flatK enc k d') vs) q2 (by simp [Go.Sort.putCells]) (by
     rw [List.length_map,flat_len enc k hk]; simp only [Go.Sort.putCells,Array.size_mapIdx,Array.length_toList]; rw [hd]; omega) (fun j hj => by
     rw [List.length_map,flat_len enc k hk] at hj
     have hj2 : j < d'.size * k := by simpa using hj
     have hlt : j < vs.size := by rw [hd] at hj2; omega
     have hj' : j < (d'.toList.flatMap enc).length := by rw [flat_len enc k hk]; exact hj
     have e1 : (Go.Sort.putCells id 0 (Go.Sort.flatK enc k d') vs).getD j undef = (d'.toList.flatMap enc).getD j undef := by
       have := sortFlat_get enc k hk d' j hj2
       simp only [Array.getD_eq_getD_getElem?,Go.Sort.putCells,Array.getElem?_mapIdx,Array.getElem?_eq_getElem hlt,Option.map_some,Option.getD_some,Nat.zero_le,true_and,size_flatK,Nat.zero_add,hj2,if_true,Nat.sub_zero,id]
       exact this
     rw [e1]
     simp only [List.getD,List.getElem?_map,List.getElem?_eq_getElem hj',Option.map_some,Option.getD_some]
     refine ⟨.p _ _ (.v _),?_⟩
     obtain ⟨x,_,hx⟩ := List.mem_flatMap.1 (List.getElem_mem hj')
     exact h1 x _ hx)
   have e2 : sortWorldK enc k w b 0 n d' os = grow (Go.Sort.ahead (w.setRow b (Go.Sort.putCells id 0 (Go.Sort.flatK enc k d') vs)) n) os := by
     unfold sortWorldK putRowK putRow
     congr 1
     show mapBlock (Go.Sort.ahead w n) b _ = _
     rw [mapBlock_congr (Go.Sort.ahead w n) b _ (fun _ => Go.Sort.putCells id 0 (Go.Sort.flatK enc k d') vs) (fun c' e fr h => by
       have : w.heap[b]? = some (.cells c' e fr) := h
       rw [q2] at this
       cases this; rfl)]
     rfl
   rw [e2]
   refine hset.grown ⟨⟨rfl,rfl,rfl,?_,fun k' hk' => ?_⟩,fun a ha => ?_,Nat.le_add_right _ _⟩
   · simp [grow,Go.Sort.ahead]
   · show ((w.setRow b _).heap ++ os)[k']? = _
     rw [Array.getElem?_append_left hk']
   · unfold World.frozen?
     have : (grow (Go.Sort.ahead (w.setRow b (Go.Sort.putCells id 0 (Go.Sort.flatK enc k d') vs)) n) os).heap[a.block]? = (w.setRow b (Go.Sort.putCells id 0 (Go.Sort.flatK enc k d') vs)).heap[a.block]? := by
       show ((w.setRow b _).heap ++ os)[a.block]? = _
       rw [Array.getElem?_append_left ha]
     rw [this]
end
end Go.Ab
namespace Go.Ab
open Go.RowKit
section
variable {P : Program} {Q : Ax → Env → St → Prop} {ρ : Env} {st : St}
theorem wseq {a b : AC} (I : Env → St → Prop) (h1 : wpA (FnC P) (CPo P) a noH (Ax.thn I Q) ρ st) (h2 : ∀ ρ st,I ρ st → wpA (FnC P) (CPo P) b noH Q ρ st) : wpA (FnC P) (CPo P) (.seq a b) noH Q ρ st :=
 wpA_mono FnC.cmono CPo.cmono a HMono.no _ _ (thn_mono h2 fun _ _ _ h => h) ρ st h1
theorem wloop {keep : List Nat} {a : AC} (I : Nat → Env → St → Prop) (k : Nat) (h0 : I k (ρ.keep keep) st)
   (h : ∀ k ρ st,I k ρ st → wpA (FnC P) (CPo P) a noH (Ax.thn (fun ρ' st' => ∃ k',k' < k ∧ I k' (ρ'.keep keep) st') Q) ρ st) : wpA (FnC P) (CPo P) (.loop none keep a) noH Q ρ st := by
 show ∃ n,LoopN _ none keep Q n (ρ.keep keep) st
 have key : ∀ N k ρ st,k < N → I k ρ st → LoopN (wpA (FnC P) (CPo P) a noH) none keep Q N ρ st := by
   intro N
   induction N with
   | zero => intro k ρ st hk; omega
   | succ N ih =>
     intro k ρ st hk hI
     refine ⟨ρ,st,SimQ.refl _ _ _,wpA_mono FnC.cmono CPo.cmono a HMono.no _ _ (thn_mono ?_ fun _ _ _ h => h) ρ st (h k ρ st hI)⟩
     rintro ρ' st' ⟨k',hk',hI'⟩
     exact ih k' _ st' (by omega) hI'
 exact ⟨k + 1,key (k + 1) k _ st (by omega) h0⟩
end
def PREF (bx0 bx : List Box) : Prop := ∀ i,i < bx0.length → bx[i]? = bx0[i]?
theorem PREF.refl (bx : List Box) : PREF bx bx := fun _ _ => rfl
theorem PREF.len {bx0 bx : List Box} (h : PREF bx0 bx) : bx0.length ≤ bx.length := by
 cases hl : bx0.length with
 | zero => omega
 | succ n =>
   have h1 := h n (by omega)
   have h2 : bx0[n]? = some (bx0[n]'(by omega)) := List.getElem?_eq_getElem (by omega)
   rw [h2] at h1
   have := (List.getElem?_eq_some_iff.1 h1).1
   omega
theorem PREF.push {bx0 bx : List Box} (h : PREF bx0 bx) (B : Box) : PREF bx0 (bx ++ [B]) := fun i hi => by
 have := h.len
 rw [List.getElem?_append_left (by omega)]; exact h i hi
theorem PREF.set {bx0 bx : List Box} (h : PREF bx0 bx) {j : Nat} (hj : bx0.length ≤ j) (B : Box) : PREF bx0 (bx.set j B) := fun i hi => by
 rw [List.getElem?_set_ne (by omega)]; exact h i hi
theorem get_push {bx : List Box} {i : Nat} {A : Box} (h : bx[i]? = some A) (B : Box) : (bx ++ [B])[i]? = some A := by
 rw [List.getElem?_append_left (List.getElem?_eq_some_iff.1 h).1]; exact h
theorem get_new (bx : List Box) (B : Box) : (bx ++ [B])[bx.length]? = some B := by simp
theorem get_set {bx : List Box} {i j : Nat} {A : Box} (h : bx[i]? = some A) (hij : j ≠ i) (B : Box) : (bx.set j B)[i]? = some A := by
 rw [List.getElem?_set_ne hij]; exact h
theorem get_self {bx : List Box} {i : Nat} {A : Box} (h : bx[i]? = some A) (B : Box) : (bx.set i B)[i]? = some B := by
 rw [List.getElem?_set_self (List.getElem?_eq_some_iff.1 h).1]
end Go.Ab
