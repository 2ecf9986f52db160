/- Equations modulo 2: sums of columns,elimination. Plain Lean. -/
import Derived.Test.YtjepihoacohboaaAbG
set_option linter.unusedSimpArgs false
set_option linter.unusedVariables false
set_option maxRecDepth 20000
set_option maxHeartbeats 2000000
namespace Go.Ab
def cnt:List Nat→Nat→Nat
 | [],t=>if t=0 then 1 else 0
 | c :: cs,t=>cnt cs t+cnt cs (t ^^^ c)
def inS (cs:List Nat) (t:Nat):Prop:=0<cnt cs t
theorem xor_xor_self (a b:Nat):a ^^^ b ^^^ b=a:=by rw[Nat.xor_assoc,Nat.xor_self,Nat.xor_zero]
theorem xor_swap (a b c:Nat):a ^^^ b ^^^ c=a ^^^ c ^^^ b:=by rw[Nat.xor_assoc,Nat.xor_comm b,←Nat.xor_assoc]
theorem cnt_snoc:∀ (cs:List Nat) (c t:Nat),cnt (cs ++ [c]) t=cnt cs t+cnt cs (t ^^^ c)
 | [],c,t=>rfl
 | a :: cs,c,t=>by
  simp only[List.cons_append,cnt,cnt_snoc cs]
  rw[xor_swap t a c];omega
theorem inS_cons {c:Nat} {cs:List Nat} {t:Nat}:inS (c :: cs) t↔inS cs t∨inS cs (t ^^^ c):=by
 simp only[inS,cnt];omega
theorem inS_snoc {c:Nat} {cs:List Nat} {t:Nat}:inS (cs ++ [c]) t↔inS cs t∨inS cs (t ^^^ c):=by
 simp only[inS,cnt_snoc];omega
theorem inS_zero:∀ cs:List Nat,inS cs 0
 | []=>Nat.one_pos
 | c :: cs=>inS_cons.2 (.inl (inS_zero cs))
theorem inS_nil {t:Nat}:inS [] t↔t=0:=by
 simp only[inS,cnt];split <;> simp_all
theorem inS_xor:∀ {cs:List Nat} {a b:Nat},inS cs a→inS cs b→inS cs (a ^^^ b)
 | [],a,b,ha,hb=>by rw[inS_nil]at *;subst ha hb;rfl
 | c :: cs,a,b,ha,hb=>by
  rw[inS_cons]at *
  rcases ha with ha | ha <;> rcases hb with hb | hb
  ·exact .inl (inS_xor ha hb)
  ·right;have:=inS_xor ha hb;rwa [←Nat.xor_assoc]at this
  ·right;have:=inS_xor ha hb;rwa [xor_swap]at this
  ·left
   have:=inS_xor ha hb
   rwa [←Nat.xor_assoc,xor_swap a c b,xor_xor_self]at this
def KD (d:Nat) (cs:List Nat):Prop:=∀ t,cnt cs t=if 0<cnt cs t then 2 ^ d else 0
theorem KD.nil:KD 0 []:=fun t=>by simp only[cnt];split <;> simp
theorem KD.inn {d c:Nat} {cs:List Nat} (h:KD d cs) (hc:inS cs c):KD (d+1) (cs ++ [c]):=fun t=>by
 have e:inS cs t↔inS cs (t ^^^ c):=⟨fun ht=>inS_xor ht hc,fun ht=>by have:=inS_xor ht hc;rwa [xor_xor_self]at this⟩
 have h1:=h t;have h2:=h (t ^^^ c)
 rw[cnt_snoc]
 simp only[inS]at e
 rw[Nat.pow_succ]
 by_cases ht:0<cnt cs t
 ·have ht2:=e.1 ht
  rw[if_pos ht]at h1;rw[if_pos ht2]at h2
  rw[if_pos (by omega)];omega
 ·have ht2:¬ 0<cnt cs (t ^^^ c):=fun h=>ht (e.2 h)
  rw[if_neg ht]at h1;rw[if_neg ht2]at h2
  rw[if_neg (by omega)];omega
theorem KD.out {d c:Nat} {cs:List Nat} (h:KD d cs) (hc:¬ inS cs c):KD d (cs ++ [c]):=fun t=>by
 have e:¬ (inS cs t∧inS cs (t ^^^ c)):=fun ⟨h1,h2⟩=>hc (by have:=inS_xor h1 h2;rwa [←Nat.xor_assoc,Nat.xor_self,Nat.zero_xor]at this)
 have h1:=h t;have h2:=h (t ^^^ c)
 rw[cnt_snoc]
 simp only[inS]at e
 by_cases ht:0<cnt cs t
 ·have ht2:¬ 0<cnt cs (t ^^^ c):=fun h=>e ⟨ht,h⟩
  rw[if_pos ht]at h1;rw[if_neg ht2]at h2
  rw[if_pos (by omega)];omega
 ·rw[if_neg ht]at h1
  by_cases ht2:0<cnt cs (t ^^^ c)
  ·rw[if_pos ht2]at h2;rw[if_pos (by omega)];omega
  ·rw[if_neg ht2]at h2;rw[if_neg (by omega)];omega
def val:List Nat→Nat→Nat
 | [],_=>0
 | c :: cs,x=>(if x % 2=1 then c else 0) ^^^ val cs (x / 2)
theorem xor_mod2 (x y:Nat):(x ^^^ y) % 2=(x % 2) ^^^ (y % 2):=Nat.xor_mod_two_pow (n:=1)
theorem xor_div2 (x y:Nat):(x ^^^ y) / 2=(x / 2) ^^^ (y / 2):=Nat.xor_div_two_pow (n:=1)
theorem val_xor:∀ (cs:List Nat) (x y:Nat),val cs (x ^^^ y)=val cs x ^^^ val cs y
 | [],_,_=>by simp[val]
 | c :: cs,x,y=>by
  simp only[val,xor_div2,val_xor cs]
  have hx:x % 2=0∨x % 2=1:=by omega
  have hy:y % 2=0∨y % 2=1:=by omega
  have e:=xor_mod2 x y
  rcases hx with hx | hx <;> rcases hy with hy | hy <;> rw[hx,hy]at e <;> simp only[e,hx,hy]
  ·simp
  ·simp only[Nat.reduceXor,if_true,Nat.reduceEqDiff,if_false,Nat.zero_xor]
   rw[←Nat.xor_assoc,←Nat.xor_assoc,Nat.xor_comm c]
  ·simp only[Nat.reduceXor,if_true,Nat.reduceEqDiff,if_false,Nat.zero_xor]
   rw[←Nat.xor_assoc]
  ·simp only[Nat.reduceXor,if_true,Nat.reduceEqDiff,if_false,Nat.zero_xor]
   rw[←Nat.xor_assoc,xor_swap c _ c,Nat.xor_self,Nat.zero_xor]
theorem val_zero:∀ cs:List Nat,val cs 0=0
 | []=>rfl
 | c :: cs=>by simp[val,val_zero cs]
theorem val_snoc:∀ (cs:List Nat) (c x:Nat),x<2 ^ cs.length→val (cs ++ [c]) x=val cs x
 | [],c,x,h=>by
  have:x=0:=by simpa using h
  subst this;simp[val]
 | a :: cs,c,x,h=>by
  simp only[List.cons_append,val]
  rw[val_snoc cs c (x / 2) (by rw[List.length_cons,Nat.pow_succ]at h;omega)]
theorem val_pow:∀ (cs:List Nat) (c:Nat),val (cs ++ [c]) (2 ^ cs.length)=c
 | [],c=>by simp[val]
 | a :: cs,c=>by
  simp only[List.cons_append,val,List.length_cons]
  rw[Nat.pow_succ,Nat.mul_mod_left,Nat.mul_div_cancel _ (by decide),val_pow cs c];simp
theorem inS_val:∀ (cs:List Nat) (x:Nat),inS cs (val cs x)
 | [],x=>inS_zero []
 | c :: cs,x=>by
  rw[inS_cons]
  simp only[val]
  split
  ·right;rw[Nat.xor_comm c,xor_xor_self];exact inS_val cs _
  ·left;rw[Nat.zero_xor];exact inS_val cs _
theorem val_of_inS:∀ {cs:List Nat} {t:Nat},inS cs t→∃ x,x<2 ^ cs.length∧val cs x=t
 | [],t,h=>⟨0,by simp,by rw[inS_nil]at h;subst h;rfl⟩
 | c :: cs,t,h=>by
  rcases inS_cons.1 h with h | h
  ·obtain ⟨x,h1,h2⟩:=val_of_inS h
   refine ⟨2*x,by rw[List.length_cons,Nat.pow_succ];omega,?_⟩
   simp only[val]
   rw[if_neg (by omega),Nat.mul_div_cancel_left _ (by decide),h2,Nat.zero_xor]
  ·obtain ⟨x,h1,h2⟩:=val_of_inS h
   refine ⟨2*x+1,by rw[List.length_cons,Nat.pow_succ];omega,?_⟩
   simp only[val]
   rw[if_pos (by omega),show (2*x+1) / 2=x by omega,h2,Nat.xor_comm c,xor_xor_self]
theorem log2_lt' {v n:Nat} (h:v<2 ^ n) (h0:v≠0):v.log2<n:=(Nat.log2_lt h0).2 h
theorem xor_log2 {a b:Nat} (ha:a≠0) (hb:b≠0) (h:a.log2=b.log2):a ^^^ b<2 ^ a.log2:=by
 have h1:a<2 ^ (a.log2+1):=Nat.lt_log2_self
 have h2:b<2 ^ (a.log2+1):=by rw[h];exact Nat.lt_log2_self
 have h3:2 ^ a.log2≤a:=Nat.log2_self_le ha
 have h4:2 ^ a.log2≤b:=by rw[h];exact Nat.log2_self_le hb
 have t1:a.testBit a.log2=true:=Nat.testBit_log2 ha
 have t2:b.testBit a.log2=true:=by rw[h];exact Nat.testBit_log2 hb
 refine Nat.lt_pow_two_of_testBit _ fun i hi=>?_
 rw[Nat.testBit_xor]
 by_cases e:i=a.log2
 ·subst e;rw[t1,t2];rfl
 ·rw[Nat.testBit_lt_two_pow (Nat.lt_of_lt_of_le h1 (Nat.pow_le_pow_right (by decide) (by omega))),Nat.testBit_lt_two_pow (Nat.lt_of_lt_of_le h2 (Nat.pow_le_pow_right (by decide) (by omega)))];rfl
theorem log2_xor_lt {a b:Nat} (ha:a≠0) (h:b<2 ^ a.log2):(a ^^^ b).log2=a.log2∧a ^^^ b≠0:=by
 have t:(a ^^^ b).testBit a.log2=true:=by
  rw[Nat.testBit_xor,Nat.testBit_log2 ha,Nat.testBit_lt_two_pow h];rfl
 have h0:a ^^^ b≠0:=fun e=>by rw[e]at t;simp at t
 refine ⟨?_,h0⟩
 have h1:a.log2≤(a ^^^ b).log2:=Nat.le_log2 h0 |>.2 (Nat.ge_two_pow_of_testBit t)
 have h2:(a ^^^ b).log2<a.log2+1:=log2_lt' (Nat.xor_lt_two_pow Nat.lt_log2_self (Nat.lt_of_lt_of_le h (Nat.pow_le_pow_right (by decide) (by omega)))) h0
 omega
def red (rows:Nat→Nat×Nat):Nat→Nat×Nat→Nat×Nat
 | 0,p=>p
 | n+1,p=>if p.1=0∨(rows p.1.log2).1=0 then p else red rows n (p.1 ^^^ (rows p.1.log2).1,p.2 ^^^ (rows p.1.log2).2)
structure ROK (cs:List Nat) (k:Nat) (rows:Nat→Nat×Nat):Prop where
 hi:∀ h,(rows h).1≠0→(rows h).1.log2=h
 lt:∀ h,(rows h).2<2 ^ k
 vl:∀ h,val cs (rows h).2=(rows h).1
theorem red_spec {cs:List Nat} {k:Nat} {rows:Nat→Nat×Nat} (hr:ROK cs k rows):∀ (n:Nat) (p:Nat×Nat),p.1<2 ^ n →
  ((red rows n p).1=0∨(rows (red rows n p).1.log2).1=0)∧(red rows n p).1≤p.1 ∧
  (red rows n p).1 ^^^ val cs (red rows n p).2=p.1 ^^^ val cs p.2∧inS cs (p.1 ^^^ (red rows n p).1)∧(∀ m,k≤m→p.2<2 ^ m→(red rows n p).2<2 ^ m)∧(red rows n p).2 ^^^ p.2<2 ^ k
 | 0,p,h=>by
  have:p.1=0:=by simpa using h
  refine ⟨.inl this,Nat.le_refl _,rfl,by simp only[red,Nat.xor_self];exact inS_zero cs,fun m _ h=>h,by simp only[red,Nat.xor_self];exact Nat.two_pow_pos k⟩
 | n+1,p,h=>by
  simp only[red]
  split
  ·rename_i hc
   exact ⟨hc,Nat.le_refl _,rfl,by rw[Nat.xor_self];exact inS_zero cs,fun m _ h=>h,by rw[Nat.xor_self];exact Nat.two_pow_pos k⟩
  ·rename_i hc
   rw[not_or]at hc
   obtain ⟨h0,h1⟩:=hc
   have hl:=hr.hi _ h1
   have hlt:=xor_log2 h0 h1 hl.symm
   have hle:=Nat.log2_self_le h0
   have hln:p.1.log2≤n:=by have:=log2_lt' h h0;omega
   obtain ⟨i1,i2,i3,i4,i5,i6⟩:=red_spec hr n (p.1 ^^^ (rows p.1.log2).1,p.2 ^^^ (rows p.1.log2).2) (Nat.lt_of_lt_of_le hlt (Nat.pow_le_pow_right (by decide) hln))
   refine ⟨i1,by simp only at i2;omega,?_,?_,fun m hm h=>?_,?_⟩
   ·rw[i3,val_xor,hr.vl]
    rw[←Nat.xor_assoc,xor_swap p.1 _ (val cs p.2),xor_xor_self]
   ·have:=inS_xor i4 (inS_val cs (rows p.1.log2).2)
    rw[hr.vl]at this
    simp only at this
    rwa [xor_swap p.1 _ (red _ _ _).1,xor_xor_self]at this
   ·exact i5 m hm (Nat.xor_lt_two_pow h (Nat.lt_of_lt_of_le (hr.lt _) (Nat.pow_le_pow_right (by decide) hm)))
   ·have:=Nat.xor_lt_two_pow i6 (hr.lt p.1.log2)
    simp only at this
    rwa [←Nat.xor_assoc,xor_xor_self]at this
abbrev ROWS2:=List (Nat×Nat)
def rowF (rows:ROWS2) (h:Nat):Nat×Nat:=rows.getD h (0,0)
def estep (st:ROWS2×List Nat) (k c:Nat):ROWS2×List Nat:=
 let r:=red (rowF st.1) 24 (c,2 ^ k)
 if r.1=0 then (st.1,st.2 ++ [r.2]) else (st.1.set r.1.log2 r,st.2)
def elim (cs:List Nat):Nat→ROWS2×List Nat
 | 0=>(List.replicate 24 (0,0),[])
 | k+1=>estep (elim cs k) k (cs.getD k 0)
structure EI (cs:List Nat) (k:Nat) (st:ROWS2×List Nat):Prop where
 len:st.1.length=24
 rok:ROK cs k (rowF st.1)
 fr:∀ f∈st.2,f<2 ^ k∧val cs f=0
 all:∀ t,inS cs t→t≠0→(rowF st.1 t.log2).1≠0
 kd:KD st.2.length cs
 comp:∀ x,x<2 ^ k→val cs x=0→inS st.2 x
theorem EI.nil:EI [] 0 (List.replicate 24 (0,0),[]):=by
 have e:∀ h,rowF (List.replicate 24 (0,0)) h=(0,0):=fun h=>by
  unfold rowF
  rw[List.getD_eq_getElem?_getD,List.getElem?_replicate]
  split <;> rfl
 refine ⟨by simp,⟨fun h hh=>?_,fun h=>?_,fun h=>?_⟩,by simp,fun t ht h0=>?_,KD.nil,fun x hx _=>?_⟩
 ·simp only at hh;rw[e]at hh;exact absurd rfl hh
 ·simp only;rw[e];exact Nat.one_pos
 ·simp only;rw[e];rfl
 ·rw[inS_nil]at ht;exact absurd ht h0
 ·rw[inS_nil];simpa using hx
theorem rowF_set {rows:ROWS2} (h:rows.length=24) {i:Nat} (hi:i<24) (r:Nat×Nat) (j:Nat):rowF (rows.set i r) j=if i=j then r else rowF rows j:=by
 unfold rowF
 rw[List.getD_eq_getElem?_getD,List.getElem?_set]
 split
 ·rename_i e;subst e;rw[if_pos (by omega)];rfl
 ·rfl
theorem EI.step {cs:List Nat} {st:ROWS2×List Nat} {c:Nat} (h:EI cs cs.length st) (hc:c<2 ^ 24):EI (cs ++ [c]) (cs ++ [c]).length (estep st cs.length c):=by
 obtain ⟨hlen,hrok,hfr,hall,hkd,hcomp⟩:=h
 obtain ⟨i1,i2,i3,i4,i5,i6⟩:=red_spec hrok 24 (c,2 ^ cs.length) hc
 have hrok':ROK (cs ++ [c]) (cs.length+1) (rowF st.1):=⟨hrok.hi,fun h=>Nat.lt_of_lt_of_le (hrok.lt h) (Nat.pow_le_pow_right (by decide) (by omega)),fun h=>by rw[val_snoc _ _ _ (hrok.lt h)];exact hrok.vl h⟩
 obtain ⟨j1,j2,j3,j4,j5,j6⟩:=red_spec hrok' 24 (c,2 ^ cs.length) hc
 obtain ⟨r,hr⟩:∃ r,r=red (rowF st.1) 24 (c,2 ^ cs.length):=⟨_,rfl⟩
 rw[←hr]at i1 i2 i3 i4 i5 i6 j1 j2 j3 j4 j5 j6
 simp only at i1 i2 i3 i4 i5 i6 j3
 rw[val_pow,Nat.xor_self]at j3
 have hrv:val (cs ++ [c]) r.2=r.1:=by
  have:=congrArg (r.1 ^^^ ·) j3
  simp only[←Nat.xor_assoc,Nat.xor_self,Nat.zero_xor,Nat.xor_zero]at this
  exact this
 have hr2:r.2<2 ^ (cs.length+1):=j5 _ (Nat.le_refl _) (Nat.pow_lt_pow_right (by decide) (by omega))
 have htop:r.2.testBit cs.length=true:=by
  have:(r.2 ^^^ 2 ^ cs.length).testBit cs.length=false:=Nat.testBit_lt_two_pow i6
  rw[Nat.testBit_xor,Nat.testBit_two_pow_self]at this
  simpa using this
 have hl1:(cs ++ [c]).length=cs.length+1:=by simp
 rw[hl1]
 -- taking the top away
 have hoff:∀ x y:Nat,x<2 ^ (cs.length+1)→y<2 ^ (cs.length+1)→x.testBit cs.length=true→y.testBit cs.length=true→x ^^^ y<2 ^ cs.length:=fun x y hx hy tx ty=>by
  refine Nat.lt_pow_two_of_testBit _ fun i hi=>?_
  rw[Nat.testBit_xor]
  by_cases e:i=cs.length
  ·subst e;rw[tx,ty];rfl
  ·rw[Nat.testBit_lt_two_pow (Nat.lt_of_lt_of_le hx (Nat.pow_le_pow_right (by decide) (by omega))),Nat.testBit_lt_two_pow (Nat.lt_of_lt_of_le hy (Nat.pow_le_pow_right (by decide) (by omega)))];rfl
 have hlow:∀ x:Nat,x<2 ^ (cs.length+1)→x.testBit cs.length=false→x<2 ^ cs.length:=fun x hx tx=>by
  refine Nat.lt_pow_two_of_testBit _ fun i hi=>?_
  by_cases e:i=cs.length
  ·subst e;exact tx
  ·exact Nat.testBit_lt_two_pow (Nat.lt_of_lt_of_le hx (Nat.pow_le_pow_right (by decide) (by omega)))
 unfold estep
 simp only[←hr]
 by_cases h0:r.1=0
 ·rw[if_pos h0]
  rw[h0]at i4 hrv
  rw[Nat.xor_zero]at i4
  refine ⟨hlen,hrok',fun f hf=>?_,fun t ht h0=>?_,?_,fun x hx hv=>?_⟩
  ·simp only[List.mem_append,List.mem_singleton]at hf
   rcases hf with hf | rfl
   ·obtain ⟨q1,q2⟩:=hfr f hf
    exact ⟨Nat.lt_of_lt_of_le q1 (Nat.pow_le_pow_right (by decide) (by omega)),by rw[val_snoc _ _ _ q1];exact q2⟩
   ·exact ⟨hr2,hrv⟩
  ·refine hall t ?_ h0
   rcases inS_snoc.1 ht with ht | ht
   ·exact ht
   ·have:=inS_xor ht i4;rwa [xor_xor_self]at this
  ·simp only[List.length_append,List.length_singleton]
   exact hkd.inn i4
  ·simp only
   rw[inS_snoc]
   by_cases tx:x.testBit cs.length=true
   ·right
    have hlt:=hoff x r.2 hx hr2 tx htop
    refine hcomp _ hlt ?_
    rw[←val_snoc cs c _ hlt,val_xor,hv,hrv];rfl
   ·left
    have hlt:=hlow x hx (by simpa using tx)
    exact hcomp _ hlt (by rw[←val_snoc cs c _ hlt];exact hv)
 ·rw[if_neg h0]
  have hr24:r.1<2 ^ 24:=Nat.lt_of_le_of_lt i2 hc
  have hlg:r.1.log2<24:=log2_lt' hr24 h0
  have hno:(rowF st.1 r.1.log2).1=0:=i1.resolve_left h0
  have hnot:¬ inS cs r.1:=fun h=>hall _ h h0 hno
  have hcn:¬ inS cs c:=fun h=>hnot (by
   have:=inS_xor h i4
   rwa [←Nat.xor_assoc,Nat.xor_self,Nat.zero_xor]at this)
  have hset:=rowF_set hlen hlg r
  refine ⟨by simp[hlen],⟨fun h hh=>?_,fun h=>?_,fun h=>?_⟩,fun f hf=>?_,fun t ht h0'=>?_,hkd.out hcn,fun x hx hv=>?_⟩
  ·simp only[hset]at hh ⊢
   split at hh
   ·rename_i e;rw[if_pos e];exact e
   ·rename_i e;rw[if_neg e];exact hrok.hi h hh
  ·simp only[hset]
   split
   ·exact hr2
   ·exact hrok'.lt h
  ·simp only[hset]
   split
   ·exact hrv
   ·exact hrok'.vl h
  ·obtain ⟨q1,q2⟩:=hfr f hf
   exact ⟨Nat.lt_of_lt_of_le q1 (Nat.pow_le_pow_right (by decide) (by omega)),by rw[val_snoc _ _ _ q1];exact q2⟩
  ·simp only[hset]
   split
   ·exact h0
   ·rename_i e
    rcases inS_snoc.1 ht with ht | ht
    ·exact hall t ht h0'
    ·-- t ^ r in the old span
     have hs:inS cs (t ^^^ r.1):=by
      have:=inS_xor ht i4
      rwa [←Nat.xor_assoc,xor_xor_self]at this
     intro hz
     by_cases hzero:t ^^^ r.1=0
     ·have:t=r.1:=by
       have:=congrArg (· ^^^ r.1) hzero
       simp only[xor_xor_self,Nat.zero_xor]at this
       exact this
      exact e (by rw[this])
     ·have hk:=hall _ hs hzero
      have hne:(t ^^^ r.1).log2≠r.1.log2:=fun e=>by rw[e]at hk;exact hk hno
      rcases Nat.lt_or_gt_of_ne hne with hlt | hgt
      ·have h1:=log2_xor_lt h0 (b:=t ^^^ r.1) ((Nat.log2_lt hzero).1 hlt)
       rw[Nat.xor_comm,xor_xor_self]at h1
       exact e h1.1.symm
      ·have h1:=log2_xor_lt hzero (b:=r.1) ((Nat.log2_lt h0).1 hgt)
       rw[xor_xor_self]at h1
       rw[←h1.1]at hk
       exact hk hz
  ·by_cases tx:x.testBit cs.length=true
   ·exfalso
    have hlt:=hoff x (2 ^ cs.length) hx (Nat.pow_lt_pow_right (by decide) (by omega)) tx (Nat.testBit_two_pow_self)
    refine hcn ?_
    have e1:val cs (x ^^^ 2 ^ cs.length)=c:=by
     rw[←val_snoc cs c _ hlt,val_xor,hv,val_pow,Nat.zero_xor]
    rw[←e1];exact inS_val cs _
   ·have hlt:=hlow x hx (by simpa using tx)
    exact hcomp _ hlt (by rw[←val_snoc cs c _ hlt];exact hv)
theorem elim_ei (cs:List Nat) (hc:∀ c∈cs,c<2 ^ 24):∀ k,k≤cs.length→EI (cs.take k) k (elim cs k)
 | 0,_=>by rw[List.take_zero];exact EI.nil
 | k+1,hk=>by
  have ih:=elim_ei cs hc k (by omega)
  have hl:(cs.take k).length=k:=by rw[List.length_take];omega
  have e:cs.take (k+1)=cs.take k ++ [cs.getD k 0]:=by
   rw[List.take_add_one,List.getElem?_eq_getElem (by omega),List.getD_eq_getElem?_getD,List.getElem?_eq_getElem (by omega)];rfl
  have h2:=EI.step (cs:=cs.take k) (c:=cs.getD k 0) (by rw[hl];exact ih) (by
   refine hc _ ?_
   rw[List.getD_eq_getElem?_getD,List.getElem?_eq_getElem (by omega)];simp)
  rw[←e,hl,List.length_take,Nat.min_eq_left hk]at h2
  exact h2
def elimA (cs:List Nat):ROWS2×List Nat:=elim cs cs.length
theorem elimA_ei {cs:List Nat} (hc:∀ c∈cs,c<2 ^ 24):EI cs cs.length (elimA cs):=by
 have:=elim_ei cs hc cs.length (Nat.le_refl _)
 rwa [List.take_length]at this
end Go.Ab
