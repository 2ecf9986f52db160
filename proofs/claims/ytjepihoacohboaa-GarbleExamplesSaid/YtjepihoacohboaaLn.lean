/- Overlays of bit strings are linear; solutions. Plain Lean. -/
import Derived.Test.YtjepihoacohboaaLm
set_option linter.unusedSimpArgs false
set_option linter.unusedVariables false
set_option maxRecDepth 20000
set_option maxHeartbeats 2000000
namespace Go.Ab
def shN (r x:Nat):Nat:=if r / 8388608 % 2=x then r*2 % 16777216 else r*2 % 16777216 ^^^ 16774153
def remN (r:Nat):List Int→Nat
 | []=>r
 | x :: l=>remN (shN r x.toNat) l
def numN (v:Nat):List Int→Nat
 | []=>v
 | x :: l=>numN (2*v+x.toNat) l
def ovN (b:List Int):Nat:=remN 0 (b.take (b.length - 24)) ^^^ numN 0 (b.drop (b.length - 24))
def unitL (n p:Nat):List Int:=(List.replicate n (0:Int)).set p 1
def col (n p:Nat):Nat:=ovN (unitL n p)
def BITS (b:List Int):Prop:=∀ x∈b,x=0∨x=1
theorem shN_lt (r x:Nat):shN r x<16777216:=by
 unfold shN
 split
 ·omega
 ·exact Nat.xor_lt_two_pow (n:=24) (by omega) (by decide)
theorem remN_lt:∀ (l:List Int) (r:Nat),r<16777216→remN r l<16777216
 | [],_,h=>h
 | x :: l,r,_=>remN_lt l _ (shN_lt _ _)
theorem numN_lt:∀ (l:List Int) (v n:Nat),BITS l→v<2 ^ n→numN v l<2 ^ (n+l.length)
 | [],v,n,_,h=>h
 | x :: l,v,n,hb,h=>by
  have hx:=hb x (by simp)
  have:=numN_lt l (2*v+x.toNat) (n+1) (fun y hy=>hb y (by simp[hy])) (by rw[Nat.pow_succ];omega)
  simp only[numN,List.length_cons]
  rwa [show n+(l.length+1)=n+1+l.length by omega]
theorem ovN_lt {b:List Int} (h:BITS b) (hl:24≤b.length):ovN b<2 ^ 24:=by
 refine Nat.xor_lt_two_pow (remN_lt _ _ (by decide)) ?_
 have:=numN_lt (b.drop (b.length - 24)) 0 0 (fun x hx=>h x (List.mem_of_mem_drop hx)) (by decide)
 rw[List.length_drop]at this
 rwa [show 0+(b.length - (b.length - 24))=24 by omega]at this
theorem xor_bit {a b x y:Nat} (hx:x≤1) (hy:y≤1):2*(a ^^^ b)+(x ^^^ y)=(2*a+x) ^^^ (2*b+y):=by
 have e1:=xor_mod2 (2*a+x) (2*b+y)
 have e2:=xor_div2 (2*a+x) (2*b+y)
 rw[show (2*a+x) % 2=x by omega,show (2*b+y) % 2=y by omega]at e1
 rw[show (2*a+x) / 2=a by omega,show (2*b+y) / 2=b by omega]at e2
 omega
theorem shN_xor {r s x y:Nat} (hx:x≤1) (hy:y≤1):shN (r ^^^ s) (x ^^^ y)=shN r x ^^^ shN s y:=by
 have e1:(r ^^^ s)*2 % 16777216=r*2 % 16777216 ^^^ s*2 % 16777216:=by
  rw[show (16777216:Nat)=2 ^ 24 by rfl,←Nat.xor_mod_two_pow]
  congr 1
  have:=xor_bit (a:=r) (b:=s) (x:=0) (y:=0) (by decide) (by decide)
  simp only[Nat.xor_self,Nat.add_zero]at this
  rw[Nat.mul_comm r,Nat.mul_comm s,←this,Nat.mul_comm]
 have e2:(r ^^^ s) / 8388608 % 2=(r / 8388608 % 2) ^^^ (s / 8388608 % 2):=by
  rw[show (8388608:Nat)=2 ^ 23 by rfl,Nat.xor_div_two_pow,xor_mod2]
 unfold shN
 rw[e1,e2]
 have hr:r / 8388608 % 2=0∨r / 8388608 % 2=1:=by omega
 have hs:s / 8388608 % 2=0∨s / 8388608 % 2=1:=by omega
 generalize r*2 % 16777216=A
 generalize s*2 % 16777216=B
 generalize r / 8388608 % 2=p at *
 generalize s / 8388608 % 2=q at *
 have hx:x=0∨x=1:=by omega
 have hy:y=0∨y=1:=by omega
 have k1:A ^^^ 16774153 ^^^ B=A ^^^ B ^^^ 16774153:=xor_swap _ _ _
 have k2:A ^^^ (B ^^^ 16774153)=A ^^^ B ^^^ 16774153:=(Nat.xor_assoc _ _ _).symm
 have k3:A ^^^ 16774153 ^^^ (B ^^^ 16774153)=A ^^^ B:=by rw[←Nat.xor_assoc,k1,xor_xor_self]
 rcases hr with rfl | rfl <;> rcases hs with rfl | rfl <;> rcases hx with rfl | rfl <;> rcases hy with rfl | rfl <;> simp[k1,k2,k3]
def XOR3:List Int→List Int→List Int→Prop
 | [],[],[]=>True
 | x :: a,y :: b,z :: c=>(x.toNat=y.toNat ^^^ z.toNat∧y.toNat≤1∧z.toNat≤1)∧XOR3 a b c
 | _,_,_=>False
theorem remX:∀ {a b c:List Int} {r s:Nat},XOR3 a b c→remN (r ^^^ s) a=remN r b ^^^ remN s c
 | [],[],[],_,_,_=>rfl
 | x :: a,y :: b,z :: c,r,s,⟨⟨h1,h2,h3⟩,h⟩=>by
  simp only[remN]
  rw[h1,shN_xor h2 h3];exact remX h
 | [],[],_ :: _,_,_,h=>h.elim
 | [],_ :: _,_,_,_,h=>by simp[XOR3]at h
 | _ :: _,[],_,_,_,h=>by simp[XOR3]at h
 | _ :: _,_ :: _,[],_,_,h=>by simp[XOR3]at h
theorem numX:∀ {a b c:List Int} {r s:Nat},XOR3 a b c→numN (r ^^^ s) a=numN r b ^^^ numN s c
 | [],[],[],_,_,_=>rfl
 | x :: a,y :: b,z :: c,r,s,⟨⟨h1,h2,h3⟩,h⟩=>by
  simp only[numN]
  rw[h1,xor_bit h2 h3];exact numX h
 | [],[],_ :: _,_,_,h=>h.elim
 | [],_ :: _,_,_,_,h=>by simp[XOR3]at h
 | _ :: _,[],_,_,_,h=>by simp[XOR3]at h
 | _ :: _,_ :: _,[],_,_,h=>by simp[XOR3]at h
theorem XOR3.len:∀ {a b c:List Int},XOR3 a b c→a.length=b.length∧a.length=c.length
 | [],[],[],_=>⟨rfl,rfl⟩
 | x :: a,y :: b,z :: c,⟨_,h⟩=>by have:=XOR3.len h;simp[this.1.symm,this.2.symm]
 | [],[],_ :: _,h=>h.elim
 | [],_ :: _,_,h=>by simp[XOR3]at h
 | _ :: _,[],_,h=>by simp[XOR3]at h
 | _ :: _,_ :: _,[],h=>by simp[XOR3]at h
theorem XOR3.take:∀ {a b c:List Int} (n:Nat),XOR3 a b c→XOR3 (a.take n) (b.take n) (c.take n)
 | [],[],[],_,_=>by simp[XOR3]
 | x :: a,y :: b,z :: c,0,_=>by simp[XOR3]
 | x :: a,y :: b,z :: c,n+1,⟨h1,h⟩=>⟨h1,XOR3.take n h⟩
 | [],[],_ :: _,_,h=>h.elim
 | [],_ :: _,_,_,h=>by simp[XOR3]at h
 | _ :: _,[],_,_,h=>by simp[XOR3]at h
 | _ :: _,_ :: _,[],_,h=>by simp[XOR3]at h
theorem XOR3.drop:∀ {a b c:List Int} (n:Nat),XOR3 a b c→XOR3 (a.drop n) (b.drop n) (c.drop n)
 | [],[],[],_,_=>by simp[XOR3]
 | x :: a,y :: b,z :: c,0,h=>h
 | x :: a,y :: b,z :: c,n+1,⟨_,h⟩=>XOR3.drop n h
 | [],[],_ :: _,_,h=>h.elim
 | [],_ :: _,_,_,h=>by simp[XOR3]at h
 | _ :: _,[],_,_,h=>by simp[XOR3]at h
 | _ :: _,_ :: _,[],_,h=>by simp[XOR3]at h
theorem XOR3.zero:∀ {b:List Int},BITS b→XOR3 b b (List.replicate b.length 0)
 | [],_=>trivial
 | x :: b,h=>by
  refine ⟨⟨by simp,?_,by simp⟩,XOR3.zero fun y hy=>h y (by simp[hy])⟩
  have:=h x (by simp);omega
theorem XOR3.set:∀ {b:List Int} {p:Nat},BITS b→p<b.length→b.getD p 0=0→XOR3 (b.set p 1) b (unitL b.length p)
 | [],p,_,h,_=>by simp at h
 | x :: b,0,hb,_,h0=>by
  have:x=0:=by simpa using h0
  subst this
  exact ⟨by simp,XOR3.zero fun y hy=>hb y (by simp[hy])⟩
 | x :: b,p+1,hb,h,h0=>by
  have:=hb x (by simp)
  refine ⟨⟨by simp,by omega,by simp⟩,XOR3.set (fun y hy=>hb y (by simp[hy])) (by simpa using h) (by simpa using h0)⟩
theorem ov_set {b:List Int} {p:Nat} (hb:BITS b) (hp:p<b.length) (h0:b.getD p 0=0):ovN (b.set p 1)=ovN b ^^^ col b.length p:=by
 have hx:=XOR3.set hb hp h0
 have hl:=hx.len
 have hlu:(unitL b.length p).length=b.length:=by simp[unitL]
 have h1:=remX (r:=0) (s:=0) (hx.take (b.length - 24))
 have h2:=numX (r:=0) (s:=0) (hx.drop (b.length - 24))
 unfold col ovN
 rw[hl.1,hlu]
 rw[Nat.xor_self]at h1 h2
 rw[h1,h2]
 generalize remN 0 (b.take _)=A
 generalize remN 0 ((unitL _ _).take _)=B
 generalize numN 0 (b.drop _)=C
 generalize numN 0 ((unitL _ _).drop _)=D
 rw[←Nat.xor_assoc,←Nat.xor_assoc,xor_swap A B C]
theorem BITS.set {b:List Int} (h:BITS b) (p:Nat):BITS (b.set p 1):=fun x hx=>by
 rcases List.mem_or_eq_of_mem_set hx with hx | rfl
 ·exact h x hx
 ·exact .inr rfl
theorem BITS.unit (n p:Nat):BITS (unitL n p):=BITS.set (fun x hx=>.inl (List.eq_of_mem_replicate hx)) p
theorem col_lt {n p:Nat} (h:24≤n):col n p<2 ^ 24:=ovN_lt (BITS.unit n p) (by simpa [unitL] using h)
def solB:List Int→List Nat→Nat→List (List Int)
 | b,[],over=>if ovN b=over then [b] else []
 | b,p :: l,over=>solB b l over ++ solB (b.set p 1) l over
structure OPN (b:List Int) (l:List Nat):Prop where
 bt:BITS b
 op:∀ p∈l,p<b.length∧b.getD p 0=0
 asc:l.Pairwise (· < ·)
theorem OPN.tl {b:List Int} {p:Nat} {l:List Nat} (h:OPN b (p :: l)):OPN b l:=⟨h.bt,fun q hq=>h.op q (by simp[hq]),(List.pairwise_cons.1 h.asc).2⟩
theorem getD_set_ne {b:List Int} {p q:Nat} (h:p≠q) (x:Int):(b.set p x).getD q 0=b.getD q 0:=by
 rw[List.getD_eq_getElem?_getD,List.getElem?_set_ne h,List.getD_eq_getElem?_getD]
theorem getD_set_eq {b:List Int} {p:Nat} (h:p<b.length) (x:Int):(b.set p x).getD p 0=x:=by
 rw[List.getD_eq_getElem?_getD,List.getElem?_set_self h];rfl
theorem OPN.tl1 {b:List Int} {p:Nat} {l:List Nat} (h:OPN b (p :: l)):OPN (b.set p 1) l:=⟨h.bt.set p,fun q hq=>by
 have h1:=h.op q (by simp[hq])
 have h2:=(List.pairwise_cons.1 h.asc).1 q hq
 exact ⟨by simpa using h1.1,by rw[getD_set_ne (by omega)];exact h1.2⟩,(List.pairwise_cons.1 h.asc).2⟩
theorem xor_eq0 {a b:Nat}:a ^^^ b=0↔a=b:=⟨fun h=>by
 have:=congrArg (· ^^^ b) h
 simpa only[xor_xor_self,Nat.zero_xor] using this,fun h=>by rw[h,Nat.xor_self]⟩
theorem solB_len:∀ {l:List Nat} {b:List Int} (over:Nat),OPN b l→(solB b l over).length=cnt (l.map (col b.length)) (ovN b ^^^ over)
 | [],b,over,h=>by
  simp only[solB,List.map_nil,cnt,xor_eq0]
  split <;> rfl
 | p :: l,b,over,h=>by
  have hp:=h.op p (by simp)
  have e:=solB_len over h.tl1
  rw[List.length_set,ov_set h.bt hp.1 hp.2]at e
  simp only[solB,List.length_append,List.map_cons,cnt]
  rw[solB_len over h.tl,e,xor_swap (ovN b) over]
structure SOLV (b:List Int) (l:List Nat) (over:Nat) (c:List Int):Prop where
 bt:BITS c
 len:c.length=b.length
 ag:∀ i,i∉l→c.getD i 0=b.getD i 0
 ov:ovN c=over
theorem getD_bit {c:List Int} (h:BITS c) (i:Nat):c.getD i 0=0∨c.getD i 0=1:=by
 rw[List.getD_eq_getElem?_getD]
 by_cases hi:i<c.length
 ·rw[List.getElem?_eq_getElem hi];exact h _ (List.getElem_mem hi)
 ·rw[List.getElem?_eq_none (by omega)];exact .inl rfl
theorem ext_getD {a b:List Int} (hl:a.length=b.length) (h:∀ i,a.getD i 0=b.getD i 0):a=b:=by
 apply List.ext_getElem hl
 intro i h1 h2
 have:=h i
 rwa [List.getD_eq_getElem?_getD,List.getD_eq_getElem?_getD,List.getElem?_eq_getElem h1,List.getElem?_eq_getElem h2]at this
theorem solB_mem:∀ {l:List Nat} {b:List Int} {over:Nat} {c:List Int},OPN b l→(c∈solB b l over↔SOLV b l over c)
 | [],b,over,c,h=>by
  simp only[solB]
  constructor
  ·intro hc
   split at hc
   ·rename_i ho
    obtain rfl:=List.mem_singleton.1 hc
    exact ⟨h.bt,rfl,fun _ _=>rfl,ho⟩
   ·cases hc
  ·rintro ⟨h1,h2,h3,h4⟩
   obtain rfl:c=b:=ext_getD h2 fun i=>h3 i (by simp)
   rw[if_pos h4];exact List.mem_singleton.2 rfl
 | p :: l,b,over,c,h=>by
  have hp:=h.op p (by simp)
  simp only[solB,List.mem_append,solB_mem h.tl,solB_mem h.tl1]
  have hpl:p∉l:=fun hm=>by have:=(List.pairwise_cons.1 h.asc).1 p hm;omega
  constructor
  ·rintro (⟨h1,h2,h3,h4⟩ | ⟨h1,h2,h3,h4⟩)
   ·exact ⟨h1,h2,fun i hi=>h3 i (fun hm=>hi (by simp[hm])),h4⟩
   ·refine ⟨h1,by simpa using h2,fun i hi=>?_,h4⟩
    rw[h3 i (fun hm=>hi (by simp[hm])),getD_set_ne (fun e=>hi (by simp[e]))]
  ·rintro ⟨h1,h2,h3,h4⟩
   rcases getD_bit h1 p with hb | hb
   ·left
    refine ⟨h1,h2,fun i hi=>?_,h4⟩
    by_cases e:i=p
    ·subst e;rw[hb,hp.2]
    ·exact h3 i (by simp[e,hi])
   ·right
    refine ⟨h1,by simpa using h2,fun i hi=>?_,h4⟩
    by_cases e:i=p
    ·subst e;rw[hb,getD_set_eq hp.1]
    ·rw[getD_set_ne (fun e'=>e e'.symm)];exact h3 i (by simp[e,hi])
def lexL:List Int→List Int→Prop
 | x :: a,y :: b=>x<y∨(x=y∧lexL a b)
 | [],_ :: _=>True
 | _,[]=>False
theorem lex_of:∀ {p:Nat} {c d:List Int},p<c.length→p<d.length→(∀ i,i<p→c.getD i 0=d.getD i 0)→c.getD p 0<d.getD p 0→lexL c d
 | 0,x :: c,y :: d,_,_,_,h=>.inl (by simpa using h)
 | p+1,x :: c,y :: d,h1,h2,h3,h=>.inr ⟨by simpa using h3 0 (by omega),lex_of (by simpa using h1) (by simpa using h2) (fun i hi=>by simpa using h3 (i+1) (by omega)) (by simpa using h)⟩
 | _,[],_,h,_,_,_=>by simp at h
 | _,_ :: _,[],_,h,_,_=>by simp at h
theorem lex_irrefl:∀ a:List Int,¬ lexL a a
 | [],h=>h
 | x :: a,h=>by
  rcases h with h | ⟨_,h⟩
  ·omega
  ·exact lex_irrefl a h
theorem lex_trans:∀ {a b c:List Int},lexL a b→lexL b c→lexL a c
 | [],[],_,h,_=>h.elim
 | [],_ :: _,[],_,h=>h.elim
 | [],_ :: _,_ :: _,_,_=>trivial
 | _ :: _,[],_,h,_=>h.elim
 | _ :: _,_ :: _,[],_,h=>h.elim
 | x :: a,y :: b,z :: c,h1,h2=>by
  simp only[lexL]at *
  rcases h1 with h1 | ⟨rfl,h1⟩ <;> rcases h2 with h2 | ⟨rfl,h2⟩
  ·left;omega
  ·exact .inl h1
  ·exact .inl h2
  ·exact .inr ⟨rfl,lex_trans h1 h2⟩
theorem lex_total:∀ {a b:List Int},¬ lexL a b→¬ lexL b a→a=b
 | [],[],_,_=>rfl
 | [],_ :: _,h,_=>absurd trivial h
 | _ :: _,[],_,h=>absurd trivial h
 | x :: a,y :: b,h1,h2=>by
  simp only[lexL,not_or,not_and]at *
  obtain rfl:x=y:=by omega
  rw[lex_total (h1.2 rfl) (h2.2 rfl)]
theorem solB_lex:∀ {l:List Nat} {b:List Int} {over:Nat},OPN b l→(solB b l over).Pairwise lexL
 | [],b,over,h=>by
  simp only[solB];split <;> simp
 | p :: l,b,over,h=>by
  have hp:=h.op p (by simp)
  simp only[solB,List.pairwise_append]
  refine ⟨solB_lex h.tl,solB_lex h.tl1,fun c hc d hd=>?_⟩
  have h1:=(solB_mem h.tl).1 hc
  have h2:=(solB_mem h.tl1).1 hd
  have hl2:d.length=b.length:=by simpa using h2.len
  have hout:∀ i,i≤p→i∉l:=fun i hi hm=>by have:=(List.pairwise_cons.1 h.asc).1 i hm;omega
  refine lex_of (p:=p) (by rw[h1.len];exact hp.1) (by rw[hl2];exact hp.1) (fun i hi=>?_) ?_
  ·rw[h1.ag i (hout i (by omega)),h2.ag i (hout i (by omega)),getD_set_ne (by omega)]
  ·rw[h1.ag p (hout p (by omega)),h2.ag p (hout p (by omega)),getD_set_eq hp.1,hp.2];decide
theorem solB_nodup {l:List Nat} {b:List Int} {over:Nat} (h:OPN b l):(solB b l over).Nodup:=
 (solB_lex h).imp fun hlt e=>by subst e;exact lex_irrefl _ hlt
def putM:List Int→List Nat→Nat→List Int
 | b,[],_=>b
 | b,p :: l,x=>putM (if x % 2=1 then b.set p 1 else b) l (x / 2)
theorem ov_put:∀ {l:List Nat} {b:List Int} (x:Nat),OPN b l→ovN (putM b l x)=ovN b ^^^ val (l.map (col b.length)) x
 | [],b,x,h=>by simp[putM,val]
 | p :: l,b,x,h=>by
  have hp:=h.op p (by simp)
  simp only[putM,List.map_cons,val]
  split
  ·rw[ov_put _ h.tl1,List.length_set,ov_set h.bt hp.1 hp.2,Nat.xor_assoc]
  ·rw[ov_put _ h.tl,Nat.zero_xor]
theorem put_of:∀ {l:List Nat} {b c:List Int} {over:Nat},OPN b l→SOLV b l over c→∃ x,x<2 ^ l.length∧putM b l x=c
 | [],b,c,over,h,hc=>⟨0,by simp,(ext_getD hc.len fun i=>hc.ag i (by simp)).symm⟩
 | p :: l,b,c,over,h,hc=>by
  have hp:=h.op p (by simp)
  rcases List.mem_append.1 (show c∈solB b l over ++ solB (b.set p 1) l over from (solB_mem h).2 hc) with hm | hm
  ·obtain ⟨x,h1,h2⟩:=put_of h.tl ((solB_mem h.tl).1 hm)
   refine ⟨2*x,by rw[List.length_cons,Nat.pow_succ];omega,?_⟩
   simp only[putM]
   rw[if_neg (by omega),show 2*x / 2=x by omega,h2]
  ·obtain ⟨x,h1,h2⟩:=put_of h.tl1 ((solB_mem h.tl1).1 hm)
   refine ⟨2*x+1,by rw[List.length_cons,Nat.pow_succ];omega,?_⟩
   simp only[putM]
   rw[if_pos (by omega),show (2*x+1) / 2=x by omega,h2]
end Go.Ab
