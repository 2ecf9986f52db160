/- Quotients and remainders of numbers. -/
import Derived.Test.YtlmdgmppeacobaaGreatLh
import Derived.Test.YtlmdgmppeacobaaGreatLen32
set_option linter.unusedSimpArgs false
set_option linter.unusedVariables false
set_option maxRecDepth 20000
set_option maxHeartbeats 4000000
namespace Go.Ab
open Go.Proofs
def len32 (n:Int):Int:=Lib.bitLen n.toNat
theorem cLen32 (n:Int) (h:INB n 4294967296):PurS Tryz.prog 129 [injT tW n] (.p (iv (len32 n))):=by
 refine ⟨_,rfl,?_⟩
 have:=PurFn.of_calls (P:=Tryz.prog) (f:=129) (vs:=[.int .u32 n]) Tryz.call129 fun w=>Tryz.bits_Len32 n w h.lo (by have:=h.hi;omega)
 have e:concL [injT tW n]=[.p (.v (.int .u32 n))]:=by simp[injT,concL,DC.conc]
 rw[e];exact this
theorem bitLen_log2:∀ (n x:Nat),x<n→x≠0→x<2 ^ 64→Lib.bitLen x=x.log2+1
 | 0,x,h,_,_=>by omega
 | n+1,x,h,h0,h64=>by
  rw[Lib.bitLen_half x h0 h64]
  by_cases h1:x / 2=0
  ·obtain rfl:x=1:=by omega
   rfl
  ·rw[bitLen_log2 n (x / 2) (by omega) h1 (by omega)]
   have:x.log2=(x / 2).log2+1:=by rw[Nat.log2_def,if_pos (by omega)]
   omega
theorem len32_spec {x:Nat} (h:x<4294967296):∃ k:Nat,len32 (x:Int)=k∧k≤32∧x<2 ^ k:=by
 by_cases h0:x=0
 ·subst h0;exact ⟨0,by decide,by decide,by decide⟩
 ·refine ⟨x.log2+1,?_,?_,Nat.lt_log2_self⟩
  ·unfold len32;rw[Int.toNat_natCast,bitLen_log2 (x+1) x (by omega) h0 (by omega)]
  ·have:=(Nat.log2_lt (k:=32) h0).2 (by omega)
   omega
def lenL (l:List Int):Int:=if l.length=0 then 0 else 32*(l.length - 1:Int)+len32 (l.getD (l.length - 1) 0)
theorem lenL_spec {l:List Int} (h:LB l):∃ k:Nat,lenL l=k∧k≤32*l.length∧vl l<2 ^ k:=by
 unfold lenL
 by_cases h0:l.length=0
 ·rw[if_pos h0]
  rw[List.length_eq_zero_iff]at h0
  subst h0;exact ⟨0,rfl,by decide,by decide⟩
 ·rw[if_neg h0]
  have hb:=h.getD (l.length - 1)
  obtain ⟨x,hx⟩:∃ x:Nat,(x:Int)=l.getD (l.length - 1) 0:=⟨(l.getD (l.length - 1) 0).toNat,by omega⟩
  obtain ⟨k,h1,h2,h3⟩:=len32_spec (x:=x) (by omega)
  rw[←hx,h1]
  refine ⟨32*(l.length - 1)+k,by omega,by omega,?_⟩
  have e:=vl_split l (l.length - 1) (by omega)
  rw[vl_drop_pred (by omega),show l.length - 1+1=l.length by omega,List.drop_length,show vl []=0 from rfl,Nat.mul_zero,Nat.add_zero,←hx,Int.toNat_natCast]at e
  have e2:=vl_lt (h.take (l.length - 1))
  rw[List.length_take,Nat.min_eq_left (by omega)]at e2
  rw[Nat.pow_add,Nat.pow_mul,show (2:Nat) ^ 32=4294967296 from rfl,e]
  have e3:4294967296 ^ (l.length - 1)*(x+1)≤4294967296 ^ (l.length - 1)*2 ^ k:=Nat.mul_le_mul_left _ h3
  rw[Nat.mul_add,Nat.mul_one]at e3
  omega
structure LNP (l:List Int):Prop where
 lb:LB l
 len:l.length≤100000
theorem cLength (nl:Option Bool) (l:List Int) (h:LNP l):PurS Tryz.prog 152 [injT tN (nl,l)] (.p (iv (lenL l))):=by
 refine PurS.of (S:=[(129,_)]) (T:=[]) (U:=[]) (tbl:=[]) (n:=18) hm31 cfg (.cons (spT1.ok (a:=(.int .u32)) fun x0 h=>cLen32 x0 h) .nil) .nil .nil .nil 0 Tryz.call152 Tryz.func152 (ac152_ok (some (0,0))) (by rw[Tryz.ntmps152];exact Nat.le_refl _) rfl ⟨_,rfl⟩ ?_
 intro cmp ar cv tn ic ai mx an ad ml sb mn ln em gt up ap sc vw cp rp p1 p2 s1 s2 X Y hX hY r0 r1 r2 r3 r4 r5 r6 r7 r8 r9 r10 r11 r12 r13 r14 r15 r16 r17 r18 r19 r20 r21 r22 r23 r24
 generalize hg0:lenL=g0
 generalize hg1:len32=g1
 cbv
 have hl:=h.len
 obtain ⟨A,hA⟩:∃ A:Int,A=l.length:=⟨_,rfl⟩
 have hla:ic (ln tW l)=A:=by rw[r4,r12,hA]
 rw[hla]
 have hdef:∀ x,g0 l=x↔lenL l=x:=fun x=>by rw[←hg0]
 refine BR.eql r0 (fun h0=>?_) (fun h0=>?_)
 ·rw[←hg0];unfold lenL;rw[if_pos (by omega)]
 have hs:ar .sub .i64 A 1=A - 1:=by rw[r1];exact wrap64 (n:=A - 1) (by omega) (by omega)
 have hg:gt tW l (A - 1)=l.getD (l.length - 1) 0:=by
  rw[r14];show l.getD (A - 1).toNat 0=_
  rw[show (A - 1).toNat=l.length - 1 by omega]
 have hb:=h.lb.getD (l.length - 1)
 obtain ⟨x,hx⟩:∃ x:Nat,(x:Int)=l.getD (l.length - 1) 0:=⟨(l.getD (l.length - 1) 0).toNat,by omega⟩
 obtain ⟨k,k1,k2,k3⟩:=len32_spec (x:=x) (by omega)
 rw[hs,hg]
 refine ⟨⟨by omega,by omega⟩,⟨by omega,by omega⟩,⟨hb.1,hb.2⟩,?_⟩
 rw[←hg0];unfold lenL;rw[if_neg (by omega),←hg1,←hx,k1,r1]
 have e:arR .mul .i64 32 (A - 1)=32*(A - 1):=wrap64 (n:=32*(A - 1)) (by omega) (by omega)
 rw[e,hA]
 exact wrap64 (n:=32*((l.length:Int) - 1)+k) (by omega) (by omega)
def spTrimP:OpsS→List Nat→CallS:=fun _ pl _ ds st K=>match ds with
 | [.ms b 0 1 none n]=>bxAt st b fun N q a=>TRK N n a fun m=>frST pl [b] [] [.ms 0 0 1 none n] ⟨[bxW N q a],[]⟩ (.ms 0 0 1 none m) ⟨[bxW N q a],[]⟩ ds st K
 | _=>False
theorem cTrimP:∀ pl ds st K,spTrimP OpsS.real pl 132 ds st K→CT Tryz.prog pl 132 (concL ds) st.conc (KP K):=fun pl ds st K h=>by
 unfold spTrimP at h
 split at h <;> first | exact h.elim | skip
 obtain ⟨N,q,a,h⟩:=bxAt_ex h
 exact frST_ok (cTrimB q N _ _ a h.pre rfl) (h.h _ rfl)
structure DVP (a b:List Int):Prop where
 pa:NM a
 pb:NM b
 ne:b≠[]
def quoL (a b:List Int):List Int:=lm (vl a / vl b)
def remL (a b:List Int):List Int:=lm (vl a % vl b)
theorem pow32 (i:Nat):2 ^ i=4294967296 ^ (i / 32)*2 ^ (i % 32):=by
 rw[show (4294967296:Nat)=2 ^ 32 from rfl,←Nat.pow_mul,←Nat.pow_add]
 congr 1;omega
theorem limb_eq {l:List Int} (h:LB l) {j:Nat} (hj:j<l.length):(l.getD j 0).toNat=vl l / 4294967296 ^ j % 4294967296:=by
 have h1:=vl_split l j (by omega)
 rw[vl_drop_pred hj]at h1
 have h2:=vl_lt (h.take j)
 rw[List.length_take,Nat.min_eq_left (by omega)]at h2
 have h3:=h.getD j
 have h4:vl l / 4294967296 ^ j=(l.getD j 0).toNat+4294967296*vl (l.drop (j+1)):=by
  rw[h1,Nat.add_mul_div_left _ _ (pow_pos j),Nat.div_eq_of_lt h2,Nat.zero_add]
 rw[h4];omega
theorem bit_eq {l:List Int} (h:LB l) {i:Nat} (hi:i / 32<l.length):(l.getD (i / 32) 0).toNat / 2 ^ (i % 32) % 2=vl l / 2 ^ i % 2:=by
 have hk:i % 32<32:=Nat.mod_lt _ (by decide)
 rw[limb_eq h hi,pow32 i,←Nat.div_div_eq_div_mul]
 obtain ⟨v,hv⟩:∃ v,v=vl l / 4294967296 ^ (i / 32):=⟨_,rfl⟩
 rw[←hv]
 have e:(4294967296:Nat)=2 ^ (i % 32)*2 ^ (32 - i % 32):=by rw[←Nat.pow_add,show i % 32+(32 - i % 32)=32 by omega]
 have e1:v % 4294967296 / 2 ^ (i % 32)=v / 2 ^ (i % 32) % 2 ^ (32 - i % 32):=by
  rw[e,Nat.mod_mul_right_div_self]
 rw[e1]
 have e2:2 ^ (32 - i % 32)=2*2 ^ (31 - i % 32):=by rw[←Nat.pow_succ'];congr 1;omega
 rw[e2,Nat.mod_mul_right_mod]
theorem div_step' {X y c q r:Nat} (hX:X=y*q+r) (hr:r<y) (hc:c≤1):if y≤2*r+c then (2*X+c) / y=2*q+1∧(2*X+c) % y=2*r+c - y else (2*X+c) / y=2*q∧(2*X+c) % y=2*r+c:=by
 have hy:0<y:=by omega
 have e:2*X+c=y*(2*q)+(2*r+c):=by rw[hX,Nat.mul_left_comm y 2 q];omega
 split
 ·rename_i h
  have e2:2*X+c=y*(2*q+1)+(2*r+c - y):=by rw[e,Nat.mul_add,Nat.mul_one];omega
  rw[e2,Nat.mul_add_div hy,Nat.div_eq_of_lt (by omega),Nat.mul_add_mod,Nat.mod_eq_of_lt (by omega)]
  exact ⟨rfl,rfl⟩
 ·rename_i h
  rw[e,Nat.mul_add_div hy,Nat.div_eq_of_lt (by omega),Nat.mul_add_mod,Nat.mod_eq_of_lt (by omega)]
  exact ⟨rfl,rfl⟩
theorem div_step {X y c:Nat} (hy:0<y) (hc:c≤1):if y≤2*(X % y)+c then (2*X+c) / y=2*(X / y)+1∧(2*X+c) % y=2*(X % y)+c - y else (2*X+c) / y=2*(X / y)∧(2*X+c) % y=2*(X % y)+c:=
 div_step' (Nat.div_add_mod X y).symm (Nat.mod_lt _ hy) hc
theorem quo_set {A:Nat} {q:List Int} {Q i:Nat} (h:NUM A A q (Q*2 ^ (i+1))) (hi:i<32*A) :
  ∃ z:Nat,arR .or .u32 (q.getD (i / 32) 0) ((2 ^ (i % 32):Nat):Int)=z∧NUM A A (q.set (i / 32) (z:Int)) ((2*Q+1)*2 ^ i):=by
 have hj:i / 32<q.length:=by rw[h.len];omega
 have hk:i % 32<32:=Nat.mod_lt _ (by decide)
 have hv:vl q=Q*2 ^ (i+1):=by have:=h.v;rwa [List.take_of_length_le (by rw[h.len];exact Nat.le_refl _)]at this
 have hb:=h.lb.getD (i / 32)
 have hl:=limb_eq h.lb hj
 obtain ⟨x,hx⟩:∃ x:Nat,(x:Int)=q.getD (i / 32) 0:=⟨(q.getD (i / 32) 0).toNat,by omega⟩
 rw[←hx,Int.toNat_natCast,hv]at hl
 have e0:2 ^ (i+1)=4294967296 ^ (i / 32)*2 ^ (i % 32+1):=by rw[Nat.pow_succ,pow32 i,Nat.pow_succ,Nat.mul_assoc]
 rw[e0,←Nat.mul_assoc,Nat.mul_comm Q,Nat.mul_assoc,Nat.mul_div_cancel_left _ (pow_pos _)]at hl
 have e:(4294967296:Nat)=2 ^ (i % 32+1)*2 ^ (31 - i % 32):=by rw[←Nat.pow_add,show i % 32+1+(31 - i % 32)=32 by omega]
 have hl2:x=2 ^ (i % 32+1)*(Q % 2 ^ (31 - i % 32)):=by
  rw[hl]
  conv=>lhs;rw[e,Nat.mul_comm Q,Nat.mul_mod_mul_left]
 have hp:2 ^ (i % 32)<2 ^ (i % 32+1):=Nat.pow_lt_pow_right (by decide) (by omega)
 have hp2:2 ^ (i % 32)<4294967296:=by
  have:2 ^ (i % 32)<2 ^ 32:=Nat.pow_lt_pow_right (by decide) hk
  omega
 have hxl:x+2 ^ (i % 32)<4294967296:=by
  have h1:Q % 2 ^ (31 - i % 32)+1≤2 ^ (31 - i % 32):=Nat.mod_lt _ (Nat.two_pow_pos _)
  have h2:=Nat.mul_le_mul_left (2 ^ (i % 32+1)) h1
  rw[←e,Nat.mul_add,Nat.mul_one,←hl2]at h2
  omega
 refine ⟨x+2 ^ (i % 32),?_,⟨by rw[List.length_set];exact h.len,Nat.le_refl _,h.big,h.lb.set _ (by omega) (by omega),?_⟩⟩
 ·rw[←hx,orW (by omega) hp2]
  congr 1
  conv=>lhs;rw[hl2]
  rw[or_add hp,←hl2]
 ·rw[List.take_of_length_le (by rw[List.length_set,h.len];exact Nat.le_refl _)]
  have h1:=vl_set hj ((x+2 ^ (i % 32):Nat):Int)
  rw[←hx,Int.toNat_natCast,Int.toNat_natCast,Nat.mul_add,←pow32 i,hv]at h1
  have e3:(2*Q+1)*2 ^ i=Q*2 ^ (i+1)+2 ^ i:=by rw[Nat.add_mul,Nat.one_mul,Nat.pow_succ,Nat.mul_comm 2 Q,Nat.mul_assoc,Nat.mul_comm 2 (2 ^ i)]
  omega
theorem shl1W {k:Nat} (hk:k<32):arR .shl .u32 1 (k:Int)=((2 ^ k:Nat):Int):=by
 show IntKind.wrap .u32 (1*2 ^ (min ((k:Int)).toNat 32))=_
 have h:2 ^ k<2 ^ 32:=Nat.pow_lt_pow_right (by decide) hk
 rw[Int.toNat_natCast,Nat.min_eq_left (by omega),wrap_u32,Int.one_mul]
 have e:((2:Int) ^ k)=((2 ^ k:Nat):Int):=by rw[Int.natCast_pow];rfl
 have h':2 ^ k<4294967296:=h
 obtain ⟨z,hz⟩:∃ z,z=2 ^ k:=⟨_,rfl⟩
 rw[e]
 rw[←hz]at h' ⊢
 omega
theorem shrW {x k:Nat} (hk:k<32):arR .shr .u32 (x:Int) (k:Int)=((x / 2 ^ k:Nat):Int):=by
 show Int.fdiv (x:Int) (2 ^ (min ((k:Int)).toNat 32))=_
 rw[Int.toNat_natCast,Nat.min_eq_left (by omega)]
 have e:((2:Int) ^ k)=((2 ^ k:Nat):Int):=by rw[Int.natCast_pow];rfl
 rw[e,Int.fdiv_eq_ediv_of_nonneg _ (Int.natCast_nonneg _)];exact (Int.natCast_ediv _ _).symm
theorem quo32 {i:Nat} (h:i<9000000):arR .quo .i64 (i:Int) 32=((i / 32:Nat):Int):=by
 show IntKind.wrap .i64 (Int.tdiv (i:Int) ((32:Nat):Int))=_
 rw[Int.tdiv_eq_ediv_of_nonneg (by omega),←Int.natCast_ediv]
 exact wrap64 (by omega) (by omega)
theorem rem32 {i:Nat}:arR .rem .i64 (i:Int) 32=((i % 32:Nat):Int):=by
 show Int.tmod (i:Int) ((32:Nat):Int)=_
 rw[Int.tmod_eq_emod_of_nonneg (by omega)];exact (Int.natCast_emod _ _).symm
theorem digit {l:List Int} (h:LB l) {i:Nat} (hi:i / 32<l.length):arR .and .u32 (arR .shr .u32 (l.getD (i / 32) 0) ((i % 32:Nat):Int)) 1=((vl l / 2 ^ i % 2:Nat):Int):=by
 have hb:=h.getD (i / 32)
 have he:=bit_eq h hi
 obtain ⟨x,hx⟩:∃ x:Nat,(x:Int)=l.getD (i / 32) 0:=⟨(l.getD (i / 32) 0).toNat,by omega⟩
 rw[←hx,Int.toNat_natCast]at he
 have hk:i % 32<32:=Nat.mod_lt _ (by decide)
 rw[←hx,shrW hk,andW1 (Nat.lt_of_le_of_lt (Nat.div_le_self _ _) (by omega)),he]
def qC (o:Option (Nat×Nat×List Int)):DC:=match o with | none=>.tl (some true) tW [] | some (_,n,_)=>.ms 5 0 1 none n
def qB (o:Option (Nat×Nat×List Int)):List BoxS:=match o with | none=>[] | some (N,_,l)=>[bxW N true l]
def RMI (o:Option (Nat×Nat×List Int)) (v:Nat):Prop:=match o with | none=>v=0 | some (N,n,l)=>NUM N n l v∧n=(lm v).length
theorem cDivide (na:Option Bool) (a:List Int) (nb:Option Bool) (b:List Int) (h:DVP a b):PurS Tryz.prog 138 [injT tN (na,a),injT tN (nb,b)] (.tup [.tl (some false) tW (quoL a b),.tl none tW (remL a b)]):=by
 refine PurS.of (S:=[(152,_),(112,_)]) (T:=[(114,_),(113,_)]) (U:=[(132,_)]) (tbl:=[(149,ac149 none,[.tmp 2],4),(151,ac151 none,[],24)]) (n:=38) hm31 cfg (.cons (spT1.ok (a:=(.sl (.int .u32))) fun x0 h=>cLength x0.1 x0.2 h) (.cons (spT2.ok (a:=(.sl (.int .u32))) (b:=(.sl (.int .u32))) fun x0 x1 h=>cOrder x0.1 x0.2 x1.1 x1.2 h) .nil)) (.cons cDblT (.cons cSubtractT .nil)) (.cons cTrimP .nil) (.cons Tryz.call149 Tryz.func149 (ac149_ok none) (by rw[Tryz.ntmps149];exact Nat.le_refl _) (.cons Tryz.call151 Tryz.func151 (ac151_ok none) (by rw[Tryz.ntmps151];exact Nat.le_refl _) .nil)) 6 Tryz.call138 Tryz.func138 (ac138_ok (some (0,0)) (some (5,0))) (by rw[Tryz.ntmps138];exact Nat.le_refl _) rfl ⟨_,rfl⟩ ?_
 intro cmp ar cv tn ic ai mx an ad ml sb mn ln em gt up ap sc vw cp rp p1 p2 s1 s2 X Y hX hY r0 r1 r2 r3 r4 r5 r6 r7 r8 r9 r10 r11 r12 r13 r14 r15 r16 r17 r18 r19 r20 r21 r22 r23 r24
 generalize hg0:lenL=g0
 generalize hg1:ordL=g1
 generalize hg2:quoL=g2
 generalize hg3:remL=g3
 cbv
 have hla:=h.pa.len
 have hlb:=h.pb.len
 obtain ⟨A,hA⟩:∃ A:Nat,A=a.length:=⟨_,rfl⟩
 obtain ⟨Ai,hAi⟩:∃ Ai:Int,Ai=A:=⟨_,rfl⟩
 have e1:ln tW a=A:=by rw[r12,hA]
 have e2:ic A=Ai:=by rw[r4,hAi]
 have e3:tn Ai=A:=by rw[r3,hAi];rfl
 obtain ⟨Z,hZ⟩:∃ Z,Z=rp tW A 0:=⟨_,rfl⟩
 have hZv:Z=List.replicate A 0:=by rw[hZ,r20]
 have hmk:MK Ai Ai 4:=⟨by omega,Int.le_refl _,by omega,by simp only[maxLen];omega⟩
 rw[e1,e2,e3,←hZ]
 refine ⟨hmk,ALLY.mk fun y=>?_⟩
 cbv
 refine ⟨⟨h.pa.cn.lb,by omega⟩,?_⟩
 obtain ⟨k,hk1,hk2,hk3⟩:=lenL_spec h.pa.cn.lb
 have hg0':g0 a=k:=by rw[←hg0];exact hk1
 have hyv:0<vl b:=by
  rcases Nat.eq_zero_or_pos (vl b) with h0 | h0
  ·exact absurd (by rw[←h.pb.cn.eq,h0,lm_zero]) h.ne
  ·exact h0
 have hy5:vl b<4294967296 ^ 512:=(fun K hK=>lt_powW (vl_lt h.pb.cn.lb) hK:∀ K,b.length≤K→vl b<4294967296 ^ K) 512 hlb
 have hs1:ar .sub .i64 (g0 a) 1=(k:Int) - 1:=by rw[r1,hg0'];exact wrap64 (n:=(k:Int) - 1) (by omega) (by omega)
 show LOOP _ _ _ _ [(0,.fn (.yield y) [] []),(1,.ptr 4 0),(3,.p (iv (ar .sub .i64 (g0 a) 1)))] _
 rw[hs1]
 refine LOOP.ind (σ:=Int×List Int×Option (Nat×Nat×List Int)) (fun (i,_,_)=>[(0,.fn (.yield y) [] []),(1,.ptr 4 0),(3,.p (iv i))])
  (fun (_,q,o)=>⟨[{ cells:=[.tl nb tW b],e:=47,fz:=false },{ cells:=[.ms 3 0 1 none A],e:=47,fz:=false },{ cells:=[qC o],e:=47,fz:=false },bxW A true q,{ cells:=[.tl na tW a],e:=47,fz:=false }] ++ qB o,[]⟩)
  (fun (i,_,_)=>(i+1).toNat) (fun (i,q,o)=>-1≤i∧i<k∧NUM A A q (vl a / 2 ^ (i+1).toNat / vl b*2 ^ (i+1).toNat)∧RMI o (vl a / 2 ^ (i+1).toNat % vl b)) ((k:Int) - 1,Z,none)
  ⟨by show -1≤(k:Int) - 1;omega,by show (k:Int) - 1<k;omega,?_,?_⟩ (.inr ⟨[some 0,some 1,some 2,some 3,some 4],[],?_⟩) ?_
 ·show NUM A A Z (vl a / 2 ^ ((k:Int) - 1+1).toNat / vl b*2 ^ ((k:Int) - 1+1).toNat)
  rw[show ((k:Int) - 1+1).toNat=k by omega,Nat.div_eq_of_lt hk3,Nat.zero_div,Nat.zero_mul,hZv]
  exact ⟨by rw[List.length_replicate],Nat.le_refl _,by omega,LB.rep _,by rw[List.take_of_length_le (by rw[List.length_replicate];exact Nat.le_refl _),vl_rep]⟩
 ·show vl a / 2 ^ ((k:Int) - 1+1).toNat % vl b=0
  rw[show ((k:Int) - 1+1).toNat=k by omega,Nat.div_eq_of_lt hk3,Nat.zero_mod]
 ·rw[SIM_iff];cbv;simp[nlLe_self]
 intro ⟨i,q,o⟩ hI X' hX'
 obtain ⟨hI1,hI2,hq,hr⟩:=hI
 obtain ⟨J,hJ⟩:∃ J,J=ar .quo .i64 i 32:=⟨_,rfl⟩
 obtain ⟨T,hT⟩:∃ T,T=ar .rem .i64 i 32:=⟨_,rfl⟩
 obtain ⟨d,hd⟩:∃ d:Int,d=ar .and .u32 (ar .shr .u32 (gt tW a J) T) 1:=⟨_,rfl⟩
 have hd':0≤i→J=((i.toNat / 32:Nat):Int)∧T=((i.toNat % 32:Nat):Int)∧i.toNat / 32<A∧d=((vl a / 2 ^ i.toNat % 2:Nat):Int):=fun h0=>by
  obtain ⟨j,rfl⟩:∃ j:Nat,i=j:=⟨i.toNat,by omega⟩
  have h1:J=((j / 32:Nat):Int):=by rw[hJ,r1];exact quo32 (by omega)
  have h2:T=((j % 32:Nat):Int):=by rw[hT,r1];exact rem32
  refine ⟨h1,h2,by omega,?_⟩
  rw[hd,r14,h1,h2,r1]
  exact digit h.pa.cn.lb (by omega)
 have hsub:0≤i→ar .sub .i64 i 1=i - 1:=fun h=>by rw[r1];exact wrap64 (n:=i - 1) (by omega) (by omega)
 obtain ⟨ρ,hρ⟩:∃ ρ,ρ=vl a / 2 ^ (i+1).toNat % vl b:=⟨_,rfl⟩
 obtain ⟨D,hD⟩:∃ D,D=vl a / 2 ^ i.toNat % 2:=⟨_,rfl⟩
 have hD2:D≤1:=by omega
 have hρy:ρ<vl b:=by rw[hρ];exact Nat.mod_lt _ hyv
 obtain ⟨Lq,hLq⟩:∃ Lq,Lq=up tW A q J (ar .or .u32 (gt tW q J) (ar .shl .u32 1 T)):=⟨_,rfl⟩
 have hX:0≤i→2*(vl a / 2 ^ (i+1).toNat)+D=vl a / 2 ^ i.toNat:=fun h0=>by
  rw[hD,show (i+1).toNat=i.toNat+1 by omega,Nat.pow_succ,←Nat.div_div_eq_div_mul];omega
 have hds:0≤i→if vl b≤2*ρ+D then vl a / 2 ^ i.toNat / vl b=2*(vl a / 2 ^ (i+1).toNat / vl b)+1∧vl a / 2 ^ i.toNat % vl b=2*ρ+D - vl b else vl a / 2 ^ i.toNat / vl b=2*(vl a / 2 ^ (i+1).toNat / vl b)∧vl a / 2 ^ i.toNat % vl b=2*ρ+D:=fun h0=>by
  have:=div_step (X:=vl a / 2 ^ (i+1).toNat) hyv hD2
  rw[hX h0,←hρ]at this;exact this
 have hno:0≤i→¬ vl b≤2*ρ+D→NUM A A q (vl a / 2 ^ (i - 1+1).toNat / vl b*2 ^ (i - 1+1).toNat)∧vl a / 2 ^ (i - 1+1).toNat % vl b=2*ρ+D:=fun h0 h1=>by
  have h2:=hds h0
  rw[if_neg h1]at h2
  rw[show (i - 1+1).toNat=i.toNat by omega,h2.1,h2.2]
  rw[show (i+1).toNat=i.toNat+1 by omega,Nat.pow_succ]at hq
  refine ⟨?_,rfl⟩
  rw[show 2*(vl a / 2 ^ (i+1).toNat / vl b)*2 ^ i.toNat=vl a / 2 ^ (i+1).toNat / vl b*(2 ^ i.toNat*2) by rw[Nat.mul_comm 2 _,Nat.mul_assoc,Nat.mul_comm 2],show (i+1).toNat=i.toNat+1 by omega,Nat.pow_succ]
  exact hq
 have hyes:0≤i→vl b≤2*ρ+D→NUM A A Lq (vl a / 2 ^ (i - 1+1).toNat / vl b*2 ^ (i - 1+1).toNat)∧vl a / 2 ^ (i - 1+1).toNat % vl b=2*ρ+D - vl b:=fun h0 h1=>by
  have h2:=hds h0
  rw[if_pos h1]at h2
  obtain ⟨j1,j2,j3,_⟩:=hd' h0
  rw[show (i - 1+1).toNat=i.toNat by omega,h2.1,h2.2]
  rw[show (i+1).toNat=i.toNat+1 by omega]at hq
  obtain ⟨z,z1,z2⟩:=quo_set hq (by omega)
  refine ⟨?_,rfl⟩
  have e:Lq=q.set (i.toNat / 32) z:=by
   rw[hLq,r15,set_up hq.len,r14,j1,j2,r1,shl1W (Nat.mod_lt _ (by decide)),Int.toNat_natCast]
   show q.set (i.toNat / 32) (arR .or .u32 (q.getD (i.toNat / 32) 0) _)=_
   rw[z1]
  rw[e,show (i+1).toNat=i.toNat+1 by omega];exact z2
 have hend:¬ 0≤i→NUM A A q (vl a / vl b)∧ρ=vl a % vl b:=fun h0=>by
  have:i = -1:=by omega
  subst this
  rw[show ((-1:Int)+1).toNat=0 from rfl,Nat.pow_zero,Nat.div_one]at hq hρ
  rw[Nat.mul_one]at hq
  exact ⟨hq,hρ⟩
 rw[←hρ]at hr
 rcases o with _ | ⟨N,n,l⟩
 ·have hr0:ρ=0:=hr
  cbv
  try simp only[nc_eq]at *
  rw[e1,e2,←hJ,←hT,←hd]
  refine BR.geq r0 (fun h0=>?_) (fun h0=>?_)
  ·obtain ⟨j1,j2,j3,j4⟩:=hd' h0
   rw[←hD]at j4
   have hJA:INB J Ai:=⟨by omega,by omega⟩
   refine ⟨⟨by decide⟩,hJA,hJA,⟨by decide⟩,⟨by omega⟩,DNK.mk (by omega) (fun hd0=>?_) (fun hd1=>?_)⟩
   ·have hD0:D=0:=by omega
    obtain ⟨f1,f2⟩:=hno h0 (by omega)
    have hlt:¬ g1 [] b≥0:=by rw[←hg1];unfold ordL;rw[show vl []=0 from rfl,cmpN_lt hyv];decide
    rw[hsub h0]
    refine ⟨⟨⟨nlLe_self.2 trivial,trivial⟩,trivial⟩,⟨CN.nil,h.pb.cn,by decide,by omega⟩,BR.geq r0 (fun h1=>absurd h1 hlt) (fun _=>NEXT.mk (hX' (i - 1,q,none) _ _ ⟨by show -1≤i - 1;omega,by show i - 1<(k:Int);omega,f1,by show vl a / 2 ^ (i - 1+1).toNat % vl b=0;omega⟩ (by show (i - 1+1).toNat<(i+1).toNat;omega) (.inl ⟨rfl,rfl⟩)))⟩
   ·have hD1:D=1:=by omega
    have h1v:vl [1]=1:=rfl
    have hvw1:vw tW 1 [1] 0 1=[1]:=by rw[r18];rfl
    have had1:ad 0 1=1:=by rw[r8]
    have hc1:CN [1]:=CN.of_last (.cons (by decide) (by decide) .nil) (fun _=>by decide)
    have hn1:NUM 1 1 [1] 1:=⟨rfl,Nat.le_refl _,by decide,hc1.lb,rfl⟩
    have hg1':g1 [1] b≥0↔vl b≤2*ρ+D:=by
     rw[←hg1];unfold ordL;rw[h1v,hr0,hD1];exact cmpN_nonneg
    rw[hvw1,had1,hsub h0]
    refine ⟨⟨⟨nlLe_self.2 trivial,trivial⟩,trivial⟩,⟨⟨by decide⟩,trivial⟩,⟨hc1,h.pb.cn,by decide,by omega⟩,BR.geq r0 (fun h1=>?_) (fun h1=>?_)⟩
    ·have h2:=hg1'.1 h1
     obtain ⟨f1,f2⟩:=hyes h0 h2
     have hbl:b.length≤1:=by
      rcases Nat.lt_or_ge 1 b.length with h3 | h3
      ·have:=hc1.len_lt h.pb.cn h3;omega
      ·exact h3
     refine SBT.mk hn1 h.pb.cn.lb hbl (by show vl b≤1;omega) ?_
     intro m L hL hm
     have hL:NUM 1 1 L (1 - vl b):=hL
     have hm:m=(lm (1 - vl b)).length:=hm
     obtain ⟨t1,_,_⟩:=hL.trim hm
     cbv
     try simp only[nc_eq]at *
     rw[e2,←hJ,←hT,hsub h0,←hLq]
     refine ⟨⟨⟨nlLe_self.2 trivial,trivial⟩,trivial⟩,⟨by decide⟩,hJA,hJA,⟨by decide⟩,⟨by omega⟩,hJA,hJA,NEXT.mk (hX' (i - 1,Lq,some (1,m,L)) _ _ ⟨by show -1≤i - 1;omega,by show i - 1<(k:Int);omega,f1,?_⟩ (by show (i - 1+1).toNat<(i+1).toNat;omega) (.inl ⟨rfl,rfl⟩))⟩
     show RMI (some (1,m,L)) (vl a / 2 ^ (i - 1+1).toNat % vl b)
     rw[f2,hr0,hD1]
     exact ⟨t1,hm⟩
    ·obtain ⟨f1,f2⟩:=hno h0 (fun h=>h1 (hg1'.2 h))
     exact NEXT.mk (hX' (i - 1,q,some (1,1,[1])) _ _ ⟨by show -1≤i - 1;omega,by show i - 1<(k:Int);omega,f1,by show RMI (some (1,1,[1])) (vl a / 2 ^ (i - 1+1).toNat % vl b);rw[f2,hr0,hD1];exact ⟨hn1,by rw[lm_pos (by decide),show 1 / 4294967296=0 from rfl,lm_zero];rfl⟩⟩ (by show (i - 1+1).toNat<(i+1).toNat;omega) (.inl ⟨rfl,rfl⟩))
  ·obtain ⟨f1,f2⟩:=hend h0
   refine TRK.mk ⟨f1.lb,f1.len,Nat.le_refl _,f1.big⟩ ?_
   intro m hm
   rw[f1.v]at hm
   obtain ⟨_,htk,hmA⟩:=f1.trim hm
   have hvw:vw tW A q 0 m=lm (vl a / vl b):=by
    rw[r18];unfold vwR
    rw[Ty.norm_eq tW f1.len,List.drop_zero];exact htk
   have had:ad 0 m=m:=by rw[r8];exact Nat.zero_add _
   have hf1:lm (vl a / vl b)=g2 a b:=by rw[←hg2];rfl
   have hf2:[]=g3 a b:=by rw[←hg3];unfold remL;rw[←f2,hr0,lm_zero]
   clear htk
   cbv
   try simp only[nc_eq]at *
   rw[had,hvw]
   exact ⟨⟨⟨hmA⟩,trivial⟩,⟨nlLe_self.2 trivial,hf1⟩,⟨nlLe_none.2 trivial,hf2⟩,trivial⟩
 ·obtain ⟨hrn,hrc⟩:NUM N n l ρ∧n=(lm ρ).length:=hr
  have hn5:n≤512:=by rw[hrc];exact (lm_len _ _).2 (by omega)
  have hrv:=hrn.v
  cbv
  try simp only[nc_eq]at *
  rw[e1,e2,←hJ,←hT,←hd]
  refine BR.geq r0 (fun h0=>?_) (fun h0=>?_)
  ·obtain ⟨j1,j2,j3,j4⟩:=hd' h0
   rw[←hD]at j4
   have hJA:INB J Ai:=⟨by omega,by omega⟩
   refine ⟨⟨by decide⟩,hJA,hJA,⟨by decide⟩,⟨by omega⟩,DBK.mk ⟨by rw[hrv];exact hrn,by omega⟩ rfl (by omega) (by omega) ?_⟩
   intro n' N' L hL hn'
   rw[hrv,show d.toNat=D by omega]at hL hn'
   have hlen:n'=(lm (2*ρ+D)).length:=by rw[hn'];exact dbN_len hrc hD2
   obtain ⟨_,htk,_⟩:=hL.trim hlen
   have hvw:vw tW N' L 0 n'=lm (2*ρ+D):=by
    rw[r18];unfold vwR
    rw[Ty.norm_eq tW hL.len,List.drop_zero];exact htk
   have had:ad 0 n'=n':=by rw[r8];exact Nat.zero_add _
   have hLle:=hL.le
   have hlen5:(lm (2*ρ+D)).length≤100000:=by
    have:2*ρ+D<4294967296 ^ 513:=dbl_upW (2*ρ+D) ρ 512 (Nat.lt_trans hρy hy5) (Nat.add_le_add_left hD2 _) 513 rfl
    have:=(lm_len (2*ρ+D) 513).2 this
    omega
   have hgc:g1 (lm (2*ρ+D)) b≥0↔vl b≤2*ρ+D:=by
    rw[←hg1];unfold ordL;rw[vl_lm];exact cmpN_nonneg
   obtain ⟨W,hW⟩:∃ W,W=lm (2*ρ+D):=⟨_,rfl⟩
   have hWc:CN W:=by rw[hW];exact CN_lm _
   have hWb:vl b≤2*ρ+D→b.length≤n':=fun hle=>by
    rcases Nat.lt_or_ge W.length b.length with h3 | h3
    ·have:=hWc.len_lt h.pb.cn h3
     rw[hW,vl_lm]at this;omega
    ·rw[hlen,←hW];exact h3
   rw[←hW]at hvw hlen5 hgc
   have hLv:=hL.v
   have hLn:NUM N' n' L (vl (L.take n')):=by rw[hLv];exact hL
   clear htk
   cbv
   try simp only[nc_eq]at *
   rw[hvw,had,hsub h0]
   refine ⟨⟨⟨hLle⟩,trivial⟩,⟨hWc,h.pb.cn,hlen5,by omega⟩,BR.geq r0 (fun h1=>?_) (fun h1=>?_)⟩
   ·have h2:=hgc.1 h1
    obtain ⟨f1,f2⟩:=hyes h0 h2
    refine SBT.mk hLn h.pb.cn.lb (hWb h2) (by rw[hLv];exact h2) ?_
    intro m L2 hL2 hm
    rw[hLv]at hL2 hm
    obtain ⟨t1,_,_⟩:=hL2.trim hm
    cbv
    try simp only[nc_eq]at *
    rw[e2,←hJ,←hT,hsub h0,←hLq]
    refine ⟨⟨⟨nlLe_self.2 trivial,trivial⟩,trivial⟩,⟨by decide⟩,hJA,hJA,⟨by decide⟩,⟨by omega⟩,hJA,hJA,NEXT.mk (hX' (i - 1,Lq,some (N',m,L2)) _ _ ⟨by show -1≤i - 1;omega,by show i - 1<(k:Int);omega,f1,?_⟩ (by show (i - 1+1).toNat<(i+1).toNat;omega) (.inr ⟨[some 0,some 1,some 2,some 3,some 4,some 6],[],by rw[SIM_iff];cbv;simp[nlLe_self]⟩))⟩
    show RMI (some (N',m,L2)) (vl a / 2 ^ (i - 1+1).toNat % vl b)
    rw[f2]
    exact ⟨t1,hm⟩
   ·obtain ⟨f1,f2⟩:=hno h0 (fun h2=>h1 (hgc.2 h2))
    refine NEXT.mk (hX' (i - 1,q,some (N',n',L)) _ _ ⟨by show -1≤i - 1;omega,by show i - 1<(k:Int);omega,f1,?_⟩ (by show (i - 1+1).toNat<(i+1).toNat;omega) (.inr ⟨[some 0,some 1,some 2,some 3,some 4,some 6],[],by rw[SIM_iff];cbv;simp[nlLe_self]⟩))
    show RMI (some (N',n',L)) (vl a / 2 ^ (i - 1+1).toNat % vl b)
    rw[f2]
    exact ⟨hL,hlen⟩
  ·obtain ⟨f1,f2⟩:=hend h0
   refine TRK.mk ⟨f1.lb,f1.len,Nat.le_refl _,f1.big⟩ ?_
   intro m hm
   rw[f1.v]at hm
   obtain ⟨_,htk,hmA⟩:=f1.trim hm
   obtain ⟨_,htk2,_⟩:=hrn.trim hrc
   have hvw:vw tW A q 0 m=lm (vl a / vl b):=by
    rw[r18];unfold vwR
    rw[Ty.norm_eq tW f1.len,List.drop_zero];exact htk
   have hvw2:vw tW N l 0 n=lm (vl a % vl b):=by
    rw[r18];unfold vwR
    rw[Ty.norm_eq tW hrn.len,List.drop_zero,htk2,f2]
   have had:ad 0 m=m:=by rw[r8];exact Nat.zero_add _
   have had2:ad 0 n=n:=by rw[r8];exact Nat.zero_add _
   have hf1:lm (vl a / vl b)=g2 a b:=by rw[←hg2];rfl
   have hf2:lm (vl a % vl b)=g3 a b:=by rw[←hg3];rfl
   have hnN:=hrn.le
   clear htk htk2
   cbv
   try simp only[nc_eq]at *
   rw[had,hvw,had2,hvw2]
   exact ⟨⟨⟨hmA⟩,⟨hnN⟩,trivial⟩,⟨nlLe_self.2 trivial,hf1⟩,⟨nlLe_none.2 trivial,hf2⟩,trivial⟩
end Go.Ab
