/- GarbleAll: plain part. -/
import Derived.Test.YtjepihoacohboaaLk
import Derived.Test.YtjepihoacohboaaLu
set_option linter.unusedSimpArgs false
set_option linter.unusedVariables false
set_option maxRecDepth 20000
set_option maxHeartbeats 4000000
namespace Go.Ab
open Go.Proofs
def fstB (b : List Int) : List (List Int) → List Int
 | [] => b
 | s :: _ => s
def samB (l : List Nat) (S : List (List Int)) (p : Nat) : Bool := match S with
 | [] => false
 | s :: r => decide (p ∈ l) && r.all fun c => decide (c.getD p 0 = s.getD p 0)
def fsR (z : Bool) (C : List Int) : List Nat → List Int × List Bool → List Int × List Bool
 | [],st => st
 | p :: l,st => fsR z C l (if z then (st.1.set p (C.getD p 0),st.2.set p true) else if st.1.getD p 0 ≠ C.getD p 0 then (st.1,st.2.set p false) else st)
theorem fsR_len (z : Bool) (C : List Int) : ∀ (l : List Nat) (st : List Int × List Bool),(fsR z C l st).1.length = st.1.length ∧ (fsR z C l st).2.length = st.2.length
 | [],st => ⟨rfl,rfl⟩
 | p :: l,st => by
   simp only [fsR]
   obtain ⟨h1,h2⟩ := fsR_len z C l (if z then (st.1.set p (C.getD p 0),st.2.set p true) else if st.1.getD p 0 ≠ C.getD p 0 then (st.1,st.2.set p false) else st)
   rw [h1,h2]
   split
   · simp
   · split <;> simp
theorem getDb_ne {b : List Bool} {p q : Nat} (h : p ≠ q) (x : Bool) : (b.set p x).getD q false = b.getD q false := by
 rw [List.getD_eq_getElem?_getD,List.getElem?_set_ne h,List.getD_eq_getElem?_getD]
theorem getDb_eq {b : List Bool} {p : Nat} (h : p < b.length) (x : Bool) : (b.set p x).getD p false = x := by
 rw [List.getD_eq_getElem?_getD,List.getElem?_set_self h]; rfl
theorem fsR_t (C : List Int) : ∀ (l : List Nat) (st : List Int × List Bool) (q : Nat),q < st.1.length → st.2.length = st.1.length →
   (fsR true C l st).1.getD q 0 = (if q ∈ l then C.getD q 0 else st.1.getD q 0) ∧ (fsR true C l st).2.getD q false = (if q ∈ l then true else st.2.getD q false)
 | [],st,q,_,_ => by simp [fsR]
 | p :: l,st,q,hq,hl => by
   simp only [fsR,if_true]
   obtain ⟨h1,h2⟩ := fsR_t C l (st.1.set p (C.getD p 0),st.2.set p true) q (by simpa using hq) (by simpa using hl)
   rw [h1,h2]
   by_cases e : q ∈ l
   · simp [e]
   · by_cases e2 : p = q
     · subst e2
       simp only [if_neg e,List.mem_cons,true_or,if_true]
       exact ⟨getD_set_eq hq _,getDb_eq (by omega) _⟩
     · have e3 : ¬ q ∈ p :: l := by simp only [List.mem_cons,not_or]; exact ⟨fun h => e2 h.symm,e⟩
       simp only [if_neg e,if_neg e3]
       exact ⟨getD_set_ne e2 _,getDb_ne e2 _⟩
theorem fsR_f (C : List Int) : ∀ (l : List Nat) (st : List Int × List Bool) (q : Nat),q < st.1.length → st.2.length = st.1.length →
   (fsR false C l st).1 = st.1 ∧ (fsR false C l st).2.getD q false = (st.2.getD q false && (!decide (q ∈ l) || decide (C.getD q 0 = st.1.getD q 0)))
 | [],st,q,_,_ => by simp [fsR]
 | p :: l,st,q,hq,hl => by
   simp only [fsR,Bool.false_eq_true,if_false]
   by_cases hne : st.1.getD p 0 ≠ C.getD p 0
   · rw [if_pos hne]
     obtain ⟨h1,h2⟩ := fsR_f C l (st.1,st.2.set p false) q hq (by simpa using hl)
     refine ⟨h1,?_⟩
     rw [h2]
     by_cases e2 : p = q
     · subst e2
       rw [getDb_eq (by omega)]
       simp [fun h : C.getD p 0 = st.1.getD p 0 => hne h.symm,show ¬ C.getD p 0 = st.1.getD p 0 from fun h => hne h.symm]
       intro _ h; simp only [List.getD_eq_getElem?_getD] at hne; exact absurd h.symm hne
     · rw [getDb_ne e2]
       have : (q ∈ p :: l) ↔ q ∈ l := by simp only [List.mem_cons]; exact ⟨fun h => h.resolve_left fun h => e2 h.symm,.inr⟩
       simp only [this]
   · rw [if_neg hne]
     obtain ⟨h1,h2⟩ := fsR_f C l st q hq hl
     refine ⟨h1,?_⟩
     rw [h2]
     by_cases e2 : p = q
     · subst e2
       have he : C.getD p 0 = st.1.getD p 0 := (Classical.not_not.1 hne).symm
       simp [he]
       simp only [List.getD_eq_getElem?_getD] at he
       simp [he]
     · have : (q ∈ p :: l) ↔ q ∈ l := by simp only [List.mem_cons]; exact ⟨fun h => h.resolve_left fun h => e2 h.symm,.inr⟩
       simp only [this]
theorem all_step {b C : List Int} {l : List Nat} {S : List (List Int)} {Sm : List Bool} (hC : C.length = b.length) (ho : ∀ q,q ∉ l → C.getD q 0 = b.getD q 0) (hS : ∀ s ∈ S,s.length = b.length) (hm : Sm.length = b.length) (h : ∀ q,q < b.length → Sm.getD q false = samB l S q) :
   (fsR (decide (S.length = 0)) C l (fstB b S,Sm)).1 = fstB b (S ++ [C]) ∧ (fsR (decide (S.length = 0)) C l (fstB b S,Sm)).2.length = b.length ∧ ∀ q,q < b.length → (fsR (decide (S.length = 0)) C l (fstB b S,Sm)).2.getD q false = samB l (S ++ [C]) q := by
 refine ⟨?_,by rw [(fsR_len _ _ _ _).2]; exact hm,fun q hq => ?_⟩
 · cases S with
   | nil =>
     show (fsR true C l (b,Sm)).1 = C
     apply ext_getD (by rw [(fsR_len _ _ _ _).1]; exact hC.symm)
     intro q
     by_cases hq : q < b.length
     · rw [(fsR_t C l (b,Sm) q hq hm).1]
       split
       · rfl
       · rename_i hn; exact (ho q hn).symm
     · rw [List.getD_eq_getElem?_getD,List.getElem?_eq_none (by rw [(fsR_len _ _ _ _).1]; show b.length ≤ q; omega),List.getD_eq_getElem?_getD,List.getElem?_eq_none (by omega)]
   | cons s r =>
     show (fsR false C l (s,Sm)).1 = s
     by_cases hq : 0 < s.length
     · exact (fsR_f C l (s,Sm) 0 hq (by rw [hS s (by simp)]; exact hm)).1
     · have h1 := (fsR_len false C l (s,Sm)).1
       have h2 : s = [] := List.eq_nil_of_length_eq_zero (by omega)
       subst h2
       exact List.eq_nil_of_length_eq_zero h1
 · cases S with
   | nil =>
     show (fsR true C l (b,Sm)).2.getD q false = samB l [C] q
     rw [(fsR_t C l (b,Sm) q hq hm).2,h q hq]
     by_cases e : q ∈ l <;> simp [samB,e]
   | cons s r =>
     show (fsR false C l (s,Sm)).2.getD q false = samB l (s :: (r ++ [C])) q
     have hs := hS s (by simp)
     rw [(fsR_f C l (s,Sm) q (by show q < s.length; omega) (by show Sm.length = s.length; omega)).2,h q hq]
     simp only [samB,List.all_append,List.all_cons,List.all_nil,Bool.and_true]
     by_cases e : q ∈ l <;> simp [e]
theorem all_end {b : List Int} {over : Nat} (h : GOOD b over) {q : Nat} (hq : q < b.length) : (cerL b over).getD q 0 = if samB (gplaces b 0) (solG b over) q then (fstB b (solG b over)).getD q 0 else b.getD q 0 := by
 by_cases h2 : b.getD q 0 = 2
 · have hm : q ∈ gplaces b 0 := gmem.2 ⟨hq,h2⟩
   by_cases hi : isG b over = true
   · obtain ⟨k1,k2⟩ := cerL_2 h hi hq h2
     obtain ⟨c0,hc0⟩ := h.nonempty.1 hi
     obtain ⟨s,r,hs⟩ : ∃ s r,solG b over = s :: r := by
       match hx : solG b over with
       | [] => rw [hx] at hc0; cases hc0
       | s :: r => exact ⟨s,r,rfl⟩
     rw [hs] at k1 k2 ⊢
     simp only [samB,fstB,decide_eq_true hm,Bool.true_and]
     by_cases ha : (r.all fun c => decide (c.getD q 0 = s.getD q 0)) = true
     · rw [if_pos ha]
       have hall : ∀ c ∈ s :: r,c.getD q 0 = s.getD q 0 := fun c hc => by
         rcases List.mem_cons.1 hc with rfl | hc
         · rfl
         · exact of_decide_eq_true (List.all_eq_true.1 ha c hc)
       have hne : (cerL b over).getD q 0 ≠ 2 := fun e => by
         obtain ⟨c,hc,e0⟩ := k1 e 0 (.inl rfl)
         obtain ⟨d,hd,e1⟩ := k1 e 1 (.inr rfl)
         rw [hall c hc] at e0
         rw [hall d hd] at e1
         omega
       exact (k2 hne s (by simp)).symm
     · rw [if_neg ha,h2]
       refine Decidable.byContradiction fun hne => ha ?_
       rw [List.all_eq_true]
       intro c hc
       exact decide_eq_true ((k2 hne c (by simp [hc])).trans (k2 hne s (by simp)).symm)
   · have hs : solG b over = [] := by
       have := h.len
       rw [if_neg hi] at this
       exact List.eq_nil_of_length_eq_zero this
     rw [cerL_none hi,hs]; rfl
 · have hm : ¬ q ∈ gplaces b 0 := fun hm => h2 (gmem.1 hm).2
   rw [cerL_ne h2]
   have : samB (gplaces b 0) (solG b over) q = false := by
     match solG b over with
     | [] => rfl
     | s :: r => simp [samB,hm]
   rw [this]; rfl
theorem all_cnt {b : List Int} {over : Int} (h : GOOD b over.toNat) (hw : wrnG b over = 0) (hl : (gplaces b 0).length ≤ 8) : cntE b over = 0 ∧ cntN b over = ((solG b over.toNat).length : Nat) := by
 have h1 : (elimG b).2.length ≤ (colsG b).length := elim_len _ _
 have h2 : (colsG b).length = (gplaces b 0).length := by unfold colsG; rw [List.length_map]
 have h3 := h.len
 unfold cntE cntN
 rw [hw]
 refine ⟨by rw [if_neg (by decide),if_neg (by omega)],?_⟩
 by_cases hi : isG b over.toNat = true
 · rw [if_pos ⟨rfl,hi,by omega⟩,h3,if_pos hi]
 · rw [if_neg (fun h => hi h.2.1),h3,if_neg hi]; rfl
theorem wrB_bits : ∀ (l : List Nat) (c : List Int) (x : Nat),BITS c → BITS (wrB c l x)
 | [],c,x,h => h
 | p :: l,c,x,h => by
   simp only [wrB]
   refine wrB_bits l _ x fun y hy => ?_
   rcases List.mem_or_eq_of_mem_set hy with hy | rfl
   · exact h y hy
   · split <;> simp
theorem wrB_out : ∀ (l : List Nat) (c : List Int) (x : Nat) (q : Nat),q ∉ l → (wrB c l x).getD q 0 = c.getD q 0
 | [],c,x,q,_ => rfl
 | p :: l,c,x,q,h => by
   simp only [List.mem_cons,not_or] at h
   simp only [wrB]
   rw [wrB_out l _ x q h.2,getD_set_ne (fun e => h.1 e.symm)]
structure ALI (b : List Int) (l : List Nat) (o : Nat) (k ct : Int) (C F : List Int) (Sm : List Bool) : Prop where
 k0 : 0 ≤ k
 k1 : k ≤ ((2 ^ l.length : Nat) : Int)
 cl : C.length = b.length
 co : ∀ q,q ∉ l → C.getD q 0 = b.getD q 0
 ct : ct = ((fndB (gbase b) l o k.toNat).length : Nat)
 f : F = fstB b (fndB (gbase b) l o k.toNat)
 sl : Sm.length = b.length
 s : ∀ q,q < b.length → Sm.getD q false = samB l (fndB (gbase b) l o k.toNat) q
theorem ALI.zero {b : List Int} {l : List Nat} {o m : Nat} (hm : m = b.length) : ALI b l o 0 0 b b (List.replicate m false) := ⟨by omega,Int.natCast_nonneg _,rfl,fun _ _ => rfl,by rw [show (0 : Int).toNat = 0 from rfl,fndB_zero]; rfl,by rw [show (0 : Int).toNat = 0 from rfl,fndB_zero]; rfl,by simp [hm],fun q hq => by
 rw [show (0 : Int).toNat = 0 from rfl,fndB_zero,List.getD_eq_getElem?_getD,List.getElem?_replicate]
 split <;> rfl⟩
structure WRT (b T : List Int) (l : List Nat) (k : Nat) : Prop where
 e : T = wrB (gbase b) l k
 ln : T.length = b.length
 v : BITS T
 o : ∀ q,q ∉ l → T.getD q 0 = b.getD q 0
theorem ALI.wrt {b C F : List Int} {l : List Nat} {o : Nat} {k ct : Int} {Sm : List Bool} (h : ALI b l o k ct C F Sm) (hg : GV b) (hl : l = gplaces b 0) : WRT b (wrB C l k.toNat) l k.toNat := by
 have hnl : ∀ q,q ∉ l → b.getD q 0 ≠ 2 := fun q hq e => by
   subst hl
   refine hq (gmem.2 ⟨?_,e⟩)
   refine Decidable.byContradiction fun hn => ?_
   rw [List.getD_eq_getElem?_getD,List.getElem?_eq_none (by omega)] at e
   cases e
 have e : wrB C l k.toNat = wrB (gbase b) l k.toNat := wrB_congr l _ _ _ (by rw [gbase_len]; exact h.cl) fun q hq => by rw [h.co q hq,gbase_get,if_neg (hnl q hq)]
 exact ⟨e,by rw [wrB_len]; exact h.cl,by rw [e]; exact wrB_bits _ _ _ (gbase_bit hg),fun q hq => by rw [wrB_out _ _ _ _ hq]; exact h.co q hq⟩
theorem ALI.skip {b C F T : List Int} {l : List Nat} {o : Nat} {k ct : Int} {Sm : List Bool} (h : ALI b l o k ct C F Sm) (hw : WRT b T l k.toNat) (hp : OPN (gbase b) l) (hk : k < ((2 ^ l.length : Nat) : Int)) (hn : ovN T ≠ o) : ALI b l o (k + 1) ct T F Sm := by
 have h0 := h.k0
 have e1 : (k + 1).toNat = k.toNat + 1 := by omega
 have e : fndB (gbase b) l o (k + 1).toNat = fndB (gbase b) l o k.toNat := by
   rw [e1,fndB_succ hp (by omega),if_neg (by rw [← hw.e]; exact hn),List.append_nil]
 exact ⟨by omega,by omega,hw.ln,hw.o,by rw [e]; exact h.ct,by rw [e]; exact h.f,h.sl,by rw [e]; exact h.s⟩
theorem ALI.found {b C F T : List Int} {l : List Nat} {o : Nat} {k ct : Int} {Sm : List Bool} (h : ALI b l o k ct C F Sm) (hw : WRT b T l k.toNat) (hp : OPN (gbase b) l) (hk : k < ((2 ^ l.length : Nat) : Int)) (he : ovN T = o) (hS : ∀ s ∈ fndB (gbase b) l o k.toNat,s.length = b.length) :
   ALI b l o (k + 1) (ct + 1) T (fsR (decide (ct = 0)) T l (F,Sm)).1 (fsR (decide (ct = 0)) T l (F,Sm)).2 := by
 have h0 := h.k0
 have e1 : (k + 1).toNat = k.toNat + 1 := by omega
 have e : fndB (gbase b) l o (k + 1).toNat = fndB (gbase b) l o k.toNat ++ [T] := by
   rw [e1,fndB_succ hp (by omega),if_pos (by rw [← hw.e]; exact he),hw.e]
 have ez : decide (ct = 0) = decide ((fndB (gbase b) l o k.toNat).length = 0) := by
   rw [h.ct]; congr 1; exact propext (by omega)
 obtain ⟨a1,a2,a3⟩ := all_step (C := T) hw.ln hw.o hS h.sl h.s
 rw [← ez,← h.f] at a1 a2 a3
 exact ⟨by omega,by omega,hw.ln,hw.o,by rw [e,List.length_append,h.ct]; simp,by rw [e]; exact a1,a2,by rw [e]; exact a3⟩
theorem fndB_lens {b : List Int} {l : List Nat} {o x : Nat} (hp : OPN (gbase b) l) (hx : x ≤ 2 ^ l.length) : ∀ s ∈ fndB (gbase b) l o x,s.length = b.length := fun s hs => by
 obtain ⟨r,hr⟩ := fndB_pre (gbase b) l o x
 have hm : s ∈ solB (gbase b) l o := by rw [hr]; exact List.mem_append_left _ hs
 rw [((solB_mem hp).1 hm).len,gbase_len]
theorem WRT.adr {b T : List Int} {l : List Nat} {k : Nat} (h : WRT b T l k) (hl : b.length = 56 ∨ b.length = 112) : ADRP T ∧ adrE T = 0 ∧ adrV T = (ovN T : Nat) ∧ ovN T < 2 ^ 24 := by
 have hT := h.ln
 have hbT : bitsE T = 0 := by unfold bitsE; rw [if_neg (by omega),bigB_bit h.v]; rfl
 have haT : adrE T = 0 := by unfold adrE; rw [if_neg (by rw [hbT]; decide),if_neg (by omega)]
 refine ⟨⟨by simp only [maxLen]; omega,fun y hy => ?_⟩,haT,by unfold adrV; rw [if_pos haT],ovN_lt h.v (by omega)⟩
 rcases h.v y hy with e | e <;> omega
theorem o_iff {over : Int} {o t : Nat} (h1 : 0 ≤ over → o = over.toNat) (h2 : over < 0 → o = 2 ^ 24) (ht : t < 2 ^ 24) : ((t : Nat) : Int) = over ↔ t = o := by
 by_cases h : 0 ≤ over
 · have := h1 h; omega
 · have := h2 (by omega); omega
theorem ALI.next {b C F T : List Int} {l : List Nat} {o : Nat} {k ct : Int} {Sm : List Bool} (h : ALI b l o k ct C F Sm) (hw : WRT b T l k.toNat) (hp : OPN (gbase b) l) (hk : k < ((2 ^ l.length : Nat) : Int)) (he : ovN T = o) :
   0 ≤ ct ∧ ct < ((solB (gbase b) l o).length : Nat) ∧ (solB (gbase b) l o).getD ct.toNat [] = T ∧ ALI b l o (k + 1) (ct + 1) T (fsR (decide (ct = 0)) T l (F,Sm)).1 (fsR (decide (ct = 0)) T l (F,Sm)).2 := by
 have h0 := h.k0
 have hkn : k.toNat < 2 ^ l.length := by omega
 have hnx := fndB_next (over := o) hp hkn (by rw [← hw.e]; exact he)
 rw [← hw.e] at hnx
 have hct := h.ct
 have := (List.getElem?_eq_some_iff.1 hnx).1
 refine ⟨by omega,by omega,?_,h.found hw hp hk he (fndB_lens hp (by omega))⟩
 rw [hct,Int.toNat_natCast,List.getD_eq_getElem?_getD,hnx]; rfl
theorem ALI.fl {b C F : List Int} {l : List Nat} {o : Nat} {k ct : Int} {Sm : List Bool} (h : ALI b l o k ct C F Sm) (hp : OPN (gbase b) l) : F.length = b.length := by
 have hl := fndB_lens (o := o) (x := k.toNat) hp (by have := h.k1; have := h.k0; omega)
 rw [h.f]
 match fndB (gbase b) l o k.toNat,hl with
 | [],_ => rfl
 | s :: _,hl => exact hl s (by simp)
theorem all_out {b : List Int} {over : Int} (hck : gchk b = 0) (h : over < 0 ∨ over > 16777215) : wrnG b over = 1 ∧ cntE b over = 1 := by
 have hw : wrnG b over = 1 := by unfold wrnG; rw [hck,if_neg (by decide),if_pos h]
 refine ⟨hw,?_⟩
 unfold cntE; rw [hw,if_pos (by decide)]
theorem all_in {b C F : List Int} {l : List Nat} {o : Nat} {over k ct x : Int} {Sm : List Bool} (h : ALI b l o k ct C F Sm) (hl : l = gplaces b 0) (hk : ¬ k < ((2 ^ l.length : Nat) : Int)) (hck : gchk b = 0) (hg : GV b) (h0 : 0 ≤ over) (h1 : ¬ over > 16777215) (ho : o = over.toNat) (h8 : l.length ≤ 8) :
   wrnG b over = 0 ∧ cntE b over = 0 ∧ cntN b over = ct ∧ cerX x b over = x ∧ cerR b over = cerL b over ∧ (cerL b over).length = b.length ∧ ∀ q,q < b.length → (cerL b over).getD q 0 = if Sm.getD q false then F.getD q 0 else b.getD q 0 := by
 have hw : wrnG b over = 0 := wrnG_of hck h0 (by omega)
 have hb := gchk_len hck
 have hGd : GOOD b over.toNat := ⟨hg,by omega,by omega⟩
 have hkk : k.toNat = 2 ^ l.length := by have := h.k0; have := h.k1; omega
 have hf : fndB (gbase b) l o k.toNat = solG b over.toNat := by rw [hkk,fndB_full,ho,hl]; rfl
 obtain ⟨c1,c2⟩ := all_cnt hGd hw (by rw [← hl]; exact h8)
 refine ⟨hw,c1,by rw [c2,h.ct,hf],by unfold cerX; rw [if_pos hw],by unfold cerR; rw [if_pos hw],cerL_len _ _,fun q hq => ?_⟩
 have := all_end hGd hq
 rw [show ((over.toNat : Nat) : Int) = over by omega] at this
 rw [this,h.s q hq,hf,h.f,hf,hl]
theorem ALI.ct0 {b C F : List Int} {l : List Nat} {o : Nat} {k ct : Int} {Sm : List Bool} (h : ALI b l o k ct C F Sm) : 0 ≤ ct := by rw [h.ct]; exact Int.natCast_nonneg _
theorem ALI.ctk {b C F : List Int} {l : List Nat} {o : Nat} {k ct : Int} {Sm : List Bool} (h : ALI b l o k ct C F Sm) : ct ≤ k := by
 have h1 : (fndB (gbase b) l o k.toNat).length ≤ k.toNat := by
   unfold fndB
   exact Nat.le_trans (List.length_filter_le _ _) (by rw [List.length_take]; omega)
 have := h.k0
 rw [h.ct]; omega
end Go.Ab
