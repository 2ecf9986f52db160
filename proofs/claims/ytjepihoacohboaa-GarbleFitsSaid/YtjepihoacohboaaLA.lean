/- The reference's elimination: the least rest,a basis. Plain Lean. -/
import Derived.Test.YtjepihoacohboaaLo
set_option linter.unusedSimpArgs false
set_option linter.unusedVariables false
set_option maxRecDepth 20000
set_option maxHeartbeats 2000000
namespace Go.Ab
theorem inS_mem:∀ {cs:List Nat} {a:Nat},a∈cs→inS cs a
 | c :: cs,a,h=>by
  rw[inS_cons]
  rcases List.mem_cons.1 h with rfl | h
  ·right;rw[Nat.xor_self];exact inS_zero _
  ·exact .inl (inS_mem h)
structure ECH (l:List Nat):Prop where
 nz:∀ a∈l,a≠0
 pw:l.Pairwise fun a b=>a.log2≠b.log2
theorem log2_xor_ne {a b:Nat} (ha:a≠0) (hb:b≠0) (h:a.log2≠b.log2):(a ^^^ b).log2=a.log2∨(a ^^^ b).log2=b.log2:=by
 rcases Nat.lt_or_gt_of_ne h with h | h
 ·right
  rw[Nat.xor_comm];exact (log2_xor_lt hb ((Nat.log2_lt ha).1 h)).1
 ·left;exact (log2_xor_lt ha ((Nat.log2_lt hb).1 h)).1
theorem ech_top:∀ {l:List Nat} {t:Nat},ECH l→inS l t→t≠0→∃ a∈l,t.log2=a.log2
 | [],t,_,h,h0=>absurd (inS_nil.1 h) h0
 | c :: l,t,hl,h,h0=>by
  obtain ⟨p1,p2⟩:=List.pairwise_cons.1 hl.pw
  have hl':ECH l:=⟨fun a ha=>hl.nz a (by simp[ha]),p2⟩
  have hc:c≠0:=hl.nz c (by simp)
  rcases inS_cons.1 h with h | h
  ·obtain ⟨a,ha,e⟩:=ech_top hl' h h0
   exact ⟨a,by simp[ha],e⟩
  ·by_cases hu:t ^^^ c=0
   ·rw[xor_eq0]at hu;subst hu;exact ⟨t,by simp,rfl⟩
   ·obtain ⟨a,ha,e⟩:=ech_top hl' h hu
    have hne:c.log2≠(t ^^^ c).log2:=by rw[e];exact p1 a ha
    have ht:t=c ^^^ (t ^^^ c):=by rw[Nat.xor_comm t,←Nat.xor_assoc,Nat.xor_self,Nat.zero_xor]
    rcases log2_xor_ne hc hu hne with h' | h'
    ·rw[←ht]at h';exact ⟨c,by simp,h'⟩
    ·rw[←ht,e]at h';exact ⟨a,by simp[ha],h'⟩
theorem lt_of_bit {x y:Nat} (k:Nat) (hx:x.testBit k=false) (hy:y.testBit k=true) (h:∀ j,k<j→x.testBit j=y.testBit j):x<y:=by
 have e:x / 2 ^ (k+1)=y / 2 ^ (k+1):=Nat.eq_of_testBit_eq fun i=>by
  rw[Nat.testBit_div_two_pow,Nat.testBit_div_two_pow];exact h _ (by omega)
 rw[Nat.testBit_eq_decide_div_mod_eq]at hx hy
 have hx:=of_decide_eq_false hx
 have hy:=of_decide_eq_true hy
 rw[Nat.pow_succ,←Nat.div_div_eq_div_mul,←Nat.div_div_eq_div_mul]at e
 refine Nat.lt_of_not_le fun hle=>?_
 have:=Nat.div_le_div_right (c:=2 ^ k) hle
 omega
theorem xor_less {x a:Nat} (ha:a≠0):x ^^^ a<x↔x.testBit a.log2=true:=by
 have h1:=Nat.testBit_log2 ha
 have hj:∀ j,a.log2<j→a.testBit j=false:=fun j hj=>Nat.testBit_lt_two_pow (Nat.lt_of_lt_of_le Nat.lt_log2_self (Nat.pow_le_pow_right (by decide) hj))
 constructor
 ·intro h
  refine Decidable.byContradiction fun hn=>?_
  have hf:x.testBit a.log2=false:=by simpa using hn
  have:x<x ^^^ a:=lt_of_bit a.log2 hf (by rw[Nat.testBit_xor,hf,h1];rfl) (fun j h=>by rw[Nat.testBit_xor,hj j h];simp)
  omega
 ·intro h
  exact lt_of_bit a.log2 (by rw[Nat.testBit_xor,h,h1];rfl) h (fun j h=>by rw[Nat.testBit_xor,hj j h];simp)
structure RDC (l:List Nat) (x r:Nat):Prop where
 s:inS l (x ^^^ r)
 m:∀ a∈l,¬ r ^^^ a<r
theorem RDC.uniq {l:List Nat} {x r r':Nat} (hl:ECH l) (h:RDC l x r) (h':RDC l x r'):r=r':=by
 have hs:=inS_xor h.s h'.s
 have e:x ^^^ r ^^^ (x ^^^ r')=r ^^^ r':=by
  rw[Nat.xor_comm x r,Nat.xor_assoc,←Nat.xor_assoc x x,Nat.xor_self,Nat.zero_xor]
 rw[e]at hs
 refine Decidable.byContradiction fun hn=>?_
 have hd:r ^^^ r'≠0:=fun h=>hn (xor_eq0.1 h)
 obtain ⟨a,ha,hla⟩:=ech_top hl hs hd
 have ha0:=hl.nz a ha
 have t:=Nat.testBit_log2 hd
 rw[hla,Nat.testBit_xor]at t
 have t1:r.testBit a.log2=false:=by
  have:=h.m a ha;rw[xor_less ha0]at this;simpa using this
 have t2:r'.testBit a.log2=false:=by
  have:=h'.m a ha;rw[xor_less ha0]at this;simpa using this
 rw[t1,t2]at t;cases t
def passM:List Nat→Nat→Nat
 | [],x=>x
 | a :: l,x=>passM l (if x ^^^ a<x then x ^^^ a else x)
theorem passM_le:∀ (l:List Nat) (x:Nat),passM l x≤x
 | [],x=>Nat.le_refl _
 | a :: l,x=>by
  unfold passM
  split
  ·rename_i h;exact Nat.le_trans (passM_le l _) (Nat.le_of_lt h)
  ·exact passM_le l x
theorem passM_span {L:List Nat}:∀ {l:List Nat} (x:Nat),(∀ a∈l,inS L a)→inS L (x ^^^ passM l x)
 | [],x,_=>by unfold passM;rw[Nat.xor_self];exact inS_zero _
 | a :: l,x,h=>by
  unfold passM
  split
  ·have h1:=passM_span (x ^^^ a) fun b hb=>h b (List.mem_cons_of_mem _ hb)
   have h2:=inS_xor h1 (h a (by simp))
   rwa [xor_swap,xor_xor_self]at h2
  ·exact passM_span x fun b hb=>h b (List.mem_cons_of_mem _ hb)
theorem passM_fix:∀ {l:List Nat} {x:Nat},passM l x=x→∀ a∈l,¬ x ^^^ a<x
 | c :: l,x,h,a,ha=>by
  unfold passM at h
  split at h
  ·rename_i hc
   have:=passM_le l (x ^^^ c)
   omega
  ·rename_i hc
   rcases List.mem_cons.1 ha with rfl | ha
   ·exact hc
   ·exact passM_fix h a ha
def redN (l:List Nat):Nat→Nat→Nat
 | 0,x=>x
 | n+1,x=>redN l n (passM l x)
theorem redN_fix (l:List Nat):∀ (n x:Nat),passM l x=x→redN l n x=x
 | 0,_,_=>rfl
 | n+1,x,h=>by unfold redN;rw[h];exact redN_fix l n x h
theorem redN_ok (l:List Nat):∀ (n x:Nat),x≤n→passM l (redN l n x)=redN l n x
 | 0,x,h=>by
  have:=passM_le l x
  show passM l x=x
  omega
 | n+1,x,h=>by
  by_cases e:passM l x=x
  ·rw[redN_fix l _ x e,e]
  ·have:=passM_le l x
   exact redN_ok l n (passM l x) (by omega)
theorem redN_span (l:List Nat):∀ (n x:Nat),inS l (x ^^^ redN l n x)
 | 0,x=>by unfold redN;rw[Nat.xor_self];exact inS_zero _
 | n+1,x=>by
  unfold redN
  have h1:=passM_span (L:=l) (l:=l) x fun a ha=>inS_mem ha
  have h2:=inS_xor h1 (redN_span l n (passM l x))
  rwa [←Nat.xor_assoc,xor_xor_self]at h2
theorem redN_le (l:List Nat):∀ (n x:Nat),redN l n x≤x
 | 0,x=>Nat.le_refl _
 | n+1,x=>Nat.le_trans (redN_le l n _) (passM_le l x)
def redV (l:List Nat) (x:Nat):Nat:=redN l x x
theorem redV_ok (l:List Nat) (x:Nat):RDC l x (redV l x):=⟨redN_span l x x,passM_fix (redN_ok l x x (Nat.le_refl _))⟩
theorem redV_le (l:List Nat) (x:Nat):redV l x≤x:=redN_le l x x
theorem redV_zero {l:List Nat} (hl:ECH l) {x:Nat}:redV l x=0↔inS l x:=by
 have h:=redV_ok l x
 constructor
 ·intro e;have:=h.s;rwa [e,Nat.xor_zero]at this
 ·intro hs
  refine (RDC.uniq hl h ⟨by rw[Nat.xor_zero];exact hs,fun a ha=>by omega⟩)
def mixB (x a:Nat):Nat:=if a ^^^ x<a then a ^^^ x else a
def addB (out:List Nat) (x:Nat):List Nat:=out.map (mixB x) ++ [x]
def stepB (out:List Nat) (c:Nat):List Nat:=if redV out c=0 then out else addB out (redV out c)
def basB (cs:List Nat):List Nat:=cs.foldl stepB []
theorem addB_span (x:Nat):∀ (out:List Nat) (t:Nat),(inS (out.map (mixB x)) t∨inS (out.map (mixB x)) (t ^^^ x))↔(inS out t∨inS out (t ^^^ x))
 | [],t=>Iff.rfl
 | a :: out,t=>by
  rw[List.map_cons,inS_cons,inS_cons,inS_cons,inS_cons]
  have i1:=addB_span x out t
  have i2:=addB_span x out (t ^^^ a)
  rw[xor_swap t x a]
  obtain ⟨M,hM⟩:∃ M,M=out.map (mixB x):=⟨_,rfl⟩
  rw[←hM]at i1 i2 ⊢
  by_cases hl:a ^^^ x<a
  ·rw[show mixB x a=a ^^^ x by unfold mixB;rw[if_pos hl],←Nat.xor_assoc t a x,show t ^^^ x ^^^ (a ^^^ x)=t ^^^ a by rw[←Nat.xor_assoc,xor_swap t x a,xor_xor_self]]
   constructor
   ·rintro ((h | h) | (h | h))
    ·exact (i1.1 (.inl h)).elim (fun h=>.inl (.inl h)) fun h=>.inr (.inl h)
    ·exact (i2.1 (.inr h)).elim (fun h=>.inl (.inr h)) fun h=>.inr (.inr h)
    ·exact (i1.1 (.inr h)).elim (fun h=>.inl (.inl h)) fun h=>.inr (.inl h)
    ·exact (i2.1 (.inl h)).elim (fun h=>.inl (.inr h)) fun h=>.inr (.inr h)
   ·rintro ((h | h) | (h | h))
    ·exact (i1.2 (.inl h)).elim (fun h=>.inl (.inl h)) fun h=>.inr (.inl h)
    ·exact (i2.2 (.inl h)).elim (fun h=>.inr (.inr h)) fun h=>.inl (.inr h)
    ·exact (i1.2 (.inr h)).elim (fun h=>.inl (.inl h)) fun h=>.inr (.inl h)
    ·exact (i2.2 (.inr h)).elim (fun h=>.inr (.inr h)) fun h=>.inl (.inr h)
  ·rw[show mixB x a=a by unfold mixB;rw[if_neg hl],xor_swap t x a]
   constructor
   ·rintro ((h | h) | (h | h))
    ·exact (i1.1 (.inl h)).elim (fun h=>.inl (.inl h)) fun h=>.inr (.inl h)
    ·exact (i2.1 (.inl h)).elim (fun h=>.inl (.inr h)) fun h=>.inr (.inr h)
    ·exact (i1.1 (.inr h)).elim (fun h=>.inl (.inl h)) fun h=>.inr (.inl h)
    ·exact (i2.1 (.inr h)).elim (fun h=>.inl (.inr h)) fun h=>.inr (.inr h)
   ·rintro ((h | h) | (h | h))
    ·exact (i1.2 (.inl h)).elim (fun h=>.inl (.inl h)) fun h=>.inr (.inl h)
    ·exact (i2.2 (.inl h)).elim (fun h=>.inl (.inr h)) fun h=>.inr (.inr h)
    ·exact (i1.2 (.inr h)).elim (fun h=>.inl (.inl h)) fun h=>.inr (.inl h)
    ·exact (i2.2 (.inr h)).elim (fun h=>.inl (.inr h)) fun h=>.inr (.inr h)
theorem mixB_log {x a:Nat} (hx:x≠0) (ha:a≠0) (h:¬ x.testBit a.log2=true):(mixB x a).log2=a.log2∧mixB x a≠0:=by
 unfold mixB
 split
 ·rename_i hl
  rw[xor_less hx]at hl
  have h1:x.log2≤a.log2:=Nat.le_log2 ha |>.2 (Nat.ge_two_pow_of_testBit hl)
  have h2:x.log2≠a.log2:=fun e=>h (by rw[←e];exact Nat.testBit_log2 hx)
  exact log2_xor_lt ha ((Nat.log2_lt hx).1 (by omega))
 ·exact ⟨rfl,ha⟩
theorem addB_ech {out:List Nat} {x:Nat} (h:ECH out) (hx:x≠0) (hr:∀ a∈out,¬ x ^^^ a<x):ECH (addB out x):=by
 have hb:∀ a∈out,¬ x.testBit a.log2=true:=fun a ha=>by rw[←xor_less (h.nz a ha)];exact hr a ha
 refine ⟨fun a ha=>?_,?_⟩
 ·rcases List.mem_append.1 ha with ha | ha
  ·obtain ⟨c,hc,rfl⟩:=List.mem_map.1 ha
   exact (mixB_log hx (h.nz c hc) (hb c hc)).2
  ·rw[List.mem_singleton.1 ha];exact hx
 ·refine List.pairwise_append.2 ⟨?_,by simp,fun a ha b hb'=>?_⟩
  ·rw[List.pairwise_map]
   exact h.pw.imp_of_mem fun {a b} ha hb' hne=>by
    rw[(mixB_log hx (h.nz a ha) (hb a ha)).1,(mixB_log hx (h.nz b hb') (hb b hb')).1];exact hne
  ·obtain ⟨c,hc,rfl⟩:=List.mem_map.1 ha
   rw[List.mem_singleton.1 hb',(mixB_log hx (h.nz c hc) (hb c hc)).1]
   intro e
   exact hb c hc (by rw[e];exact Nat.testBit_log2 hx)
structure BI (cs out:List Nat):Prop where
 ech:ECH out
 sp:∀ t,inS out t↔inS cs t
 le:out.length≤cs.length
 kd:KD (cs.length - out.length) cs
 lt:∀ a∈out,a<2 ^ 24
theorem BI.nil:BI [] []:=⟨⟨by simp,by simp⟩,fun t=>Iff.rfl,Nat.le_refl _,KD.nil,by simp⟩
theorem BI.step {cs out:List Nat} (h:BI cs out) {c:Nat} (hc:c<2 ^ 24):BI (cs ++ [c]) (stepB out c):=by
 obtain ⟨x,hx⟩:∃ x,x=redV out c:=⟨_,rfl⟩
 have hr:=redV_ok out c
 have hz:=redV_zero h.ech (x:=c)
 have hle:=redV_le out c
 unfold stepB
 rw[←hx]at hr hz hle ⊢
 have hlc:(cs ++ [c]).length=cs.length+1:=by simp
 by_cases h0:x=0
 ·rw[if_pos h0]
  have hs:=(h.sp c).1 (hz.1 h0)
  refine ⟨h.ech,fun t=>?_,by rw[hlc];have:=h.le;omega,?_,h.lt⟩
  ·rw[h.sp,inS_snoc]
   exact ⟨.inl,fun h'=>h'.elim id fun h'=>by have:=inS_xor h' hs;rwa [xor_xor_self]at this⟩
  ·rw[hlc,show cs.length+1 - out.length=(cs.length - out.length)+1 by have:=h.le;omega]
   exact h.kd.inn hs
 ·rw[if_neg h0]
  have hlo:(addB out x).length=out.length+1:=by simp[addB]
  have hns:¬ inS cs c:=fun hs=>h0 (hz.2 ((h.sp c).2 hs))
  refine ⟨addB_ech h.ech h0 hr.m,fun t=>?_,by rw[hlc,hlo];have:=h.le;omega,?_,fun a ha=>?_⟩
  ·unfold addB
   rw[inS_snoc,addB_span,inS_snoc,h.sp,h.sp]
   have hcx:inS cs (c ^^^ x):=(h.sp _).1 hr.s
   constructor
   ·rintro (h' | h')
    ·exact .inl h'
    ·right;have:=inS_xor h' hcx;rwa [←Nat.xor_assoc,xor_swap,xor_xor_self]at this
   ·rintro (h' | h')
    ·exact .inl h'
    ·right;have:=inS_xor h' hcx;rwa [←Nat.xor_assoc,xor_xor_self]at this
  ·rw[hlc,hlo,Nat.add_sub_add_right]
   exact h.kd.out hns
  ·have hx24:x<2 ^ 24:=Nat.lt_of_le_of_lt hle hc
   rcases List.mem_append.1 ha with ha | ha
   ·obtain ⟨b,hb,rfl⟩:=List.mem_map.1 ha
    unfold mixB
    split
    ·exact Nat.xor_lt_two_pow (h.lt b hb) hx24
    ·exact h.lt b hb
   ·rw[List.mem_singleton.1 ha];exact hx24
theorem BI.fold:∀ (l:List Nat) {cs out:List Nat},BI cs out→(∀ c∈l,c<2 ^ 24)→BI (cs ++ l) (l.foldl stepB out)
 | [],cs,out,h,_=>by rw[List.append_nil];exact h
 | c :: l,cs,out,h,hc=>by
  have:=BI.fold l (h.step (hc c (by simp))) fun a ha=>hc a (by simp[ha])
  rwa [List.append_assoc,List.singleton_append]at this
theorem basB_ok {cs:List Nat} (h:∀ c∈cs,c<2 ^ 24):BI cs (basB cs):=by
 have:=BI.fold cs BI.nil h
 rwa [List.nil_append]at this
theorem basB_succ {cs:List Nat} {i:Nat} (h:i<cs.length):basB (cs.take (i+1))=stepB (basB (cs.take i)) (cs.getD i 0):=by
 unfold basB
 rw[List.take_add_one,List.foldl_append,List.getElem?_eq_getElem h,List.getD_eq_getElem?_getD,List.getElem?_eq_getElem h];rfl
def powR (b:List Int) (over:Nat):Int:=if isG b over=true then ((elimG b).2.length:Nat) else -1
theorem powR_eq {b:List Int} {over:Nat} (h:GOOD b over):powR b over=if redV (basB (colsG b)) (tgt b over)≠0 then -1 else ((gplaces b 0).length:Int) - ((basB (colsG b)).length:Nat):=by
 have hb:=basB_ok (colsG_lt h.l)
 have hz:=redV_zero hb.ech (x:=tgt b over)
 rw[hb.sp]at hz
 have hk:=KD.uniq hb.kd h.ei.kd
 have hle:=hb.le
 unfold powR
 by_cases hi:isG b over=true
 ·rw[if_pos hi,if_neg (fun hn=>hn (hz.2 (h.is.1 hi))),←hk]
  have:(colsG b).length=(gplaces b 0).length:=by simp[colsG]
  omega
 ·rw[if_neg hi,if_pos (fun h'=>hi (h.is.2 (hz.1 h')))]
end Go.Ab
