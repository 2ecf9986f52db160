/- Limbs: doubling in place. -/
import Derived.Test.YtlmdgmppeacobaaGreatLd
set_option linter.unusedSimpArgs false
set_option linter.unusedVariables false
set_option maxRecDepth 20000
set_option maxHeartbeats 4000000
namespace Go.Ab
open Go.Proofs
theorem or_add {i a b:Nat} (h:b<2 ^ i):(2 ^ i*a ||| b)=2 ^ i*a+b:=(Nat.two_pow_add_eq_or_of_lt h a).symm
theorem orW {x y:Nat} (hx:x<4294967296) (hy:y<4294967296):arR .or .u32 (x:Int) (y:Int)=((x ||| y:Nat):Int):=by
 have h:(x ||| y)<4294967296:=Nat.or_lt_two_pow (n:=32) hx hy
 show IntKind.wrap .u32 ((BitVec.ofInt 32 (x:Int) ||| BitVec.ofInt 32 (y:Int)).toNat:Int)=_
 have e:∀ z:Nat,z<4294967296→(BitVec.ofInt 32 (z:Int)).toNat=z:=fun z hz=>by rw[BitVec.toNat_ofInt];omega
 rw[wrapB,BitVec.toNat_or,e x hx,e y hy]
theorem dblW {x c:Nat} (hx:x<4294967296) (hc:c≤1):∃ y d:Nat,arR .or .u32 (arR .shl .u32 (x:Int) 1) (c:Int)=y∧arR .shr .u32 (x:Int) 31=d∧y<4294967296∧d≤1∧x+x+c=y+4294967296*d:=by
 refine ⟨2*(x % 2147483648)+c,x / 2147483648,?_,?_,by omega,by omega,by omega⟩
 ·have e:arR .shl .u32 (x:Int) 1=((2*(x % 2147483648):Nat):Int):=by
   show IntKind.wrap .u32 ((x:Int)*2 ^ 1)=_
   rw[wrap_u32];omega
  rw[e,orW (by omega) (by omega)]
  have:=or_add (i:=1) (a:=x % 2147483648) (b:=c) (by omega)
  rw[show (2:Nat) ^ 1=2 from rfl]at this
  rw[this]
 ·show Int.fdiv (x:Int) 2147483648=_
  rw[Int.fdiv_eq_ediv_of_nonneg _ (by decide)];omega
structure DBP (N n:Nat) (a:List Int) (v:Nat):Prop where
 num:NUM N n a v
 n5:n≤90000
def dbN (n v:Nat):Nat:=if v<4294967296 ^ n then n else n+1
def dbC (N n v:Nat):Nat:=if v<4294967296 ^ n then N else n+1
def dbL (n v:Nat) (a:List Int):List Int:=if v<4294967296 ^ n then pad n v ++ a.drop n else pad (n+1) v
structure DBI (N n i:Nat) (a a':List Int):Prop where
 lb:LB a'
 len:a'.length=N
 dr:a'.drop i=a.drop i
theorem DBI.drn {N n i:Nat} {a a':List Int} (h:DBI N n i a a') (hi:i≤n):a'.drop n=a.drop n:=by
 have:=congrArg (List.drop (n - i)) h.dr
 rw[List.drop_drop,List.drop_drop,show i+(n - i)=n by omega]at this;exact this
theorem getD_of_drop {a b:List Int} {i:Nat} (h:a.drop i=b.drop i):a.getD i 0=b.getD i 0:=by
 have:=congrArg (fun l=>l.getD 0 0) h
 simp only[List.getD_eq_getElem?_getD,List.getElem?_drop,Nat.add_zero]at this ⊢;exact this
theorem DBI.step {N n i:Nat} {a a':List Int} (h:DBI N n i a a') (hn:n≤N) (hi:i<n) (hla:LB a) {c:Nat} (hc:c≤1) :
  ∃ y d:Nat,arR .or .u32 (arR .shl .u32 (a'.getD i 0) 1) (c:Int)=y∧arR .shr .u32 (a'.getD i 0) 31=d∧d≤1∧DBI N n (i+1) a (a'.set i (y:Int)) ∧
   vl ((a'.set i (y:Int)).take n)+4294967296 ^ (i+1)*d=vl (a'.take n)+4294967296 ^ i*((a.getD i 0).toNat+c):=by
 have hg:=getD_of_drop h.dr
 have hb:=h.lb.getD i
 obtain ⟨x,hx⟩:∃ x:Nat,(x:Int)=a'.getD i 0:=⟨(a'.getD i 0).toNat,by omega⟩
 obtain ⟨y,d,h1,h2,h3,h4,h5⟩:=dblW (x:=x) (c:=c) (by omega) hc
 rw[←hx]
 refine ⟨y,d,h1,h2,h4,⟨h.lb.set i (by omega) (by omega),by rw[List.length_set];exact h.len,?_⟩,?_⟩
 ·rw[List.drop_set_of_lt (by omega)]
  have:=congrArg (List.drop 1) h.dr
  rw[List.drop_drop,List.drop_drop]at this;exact this
 ·have hlt:(a'.take n).length=n:=by rw[List.length_take,h.len];omega
  have e:(a'.take n).getD i 0=a'.getD i 0:=by rw[List.getD_eq_getElem?_getD,List.getElem?_take,if_pos hi,←List.getD_eq_getElem?_getD]
  rw[List.take_set]
  refine step_add (by omega) ?_
  rw[e,←hg];omega
theorem dbl_alg {v w x T d c y i z:Nat} (h1:v+4294967296 ^ (i+1)*d=w+4294967296 ^ i*(y+c)) (h2:w+4294967296 ^ i*c=x+T+z) :
  v+4294967296 ^ (i+1)*d=x+(T+4294967296 ^ i*y)+z:=by
 rw[Nat.mul_add]at h1
 omega
def deadW:BoxS:={ cells:=[],e:=117,fz:=true }
theorem cDblB (N n n' N':Nat) (a L:List Int) (v c0:Nat) (x:Int) (hx:x=c0) (hc:c0≤1) (h:DBP N n a v) (hn':n'=dbN n (2*v+c0)) (hN':N'=dbC N n (2*v+c0)) (hL:L=dbL n (2*v+c0) a):FnS Tryz.prog 114 ([.ms 0 0 1 none n,injT tW x]) (⟨[bxW N true a],[]⟩ ) fun x_ s_=>x_=(.ms 1 0 1 none n')∧s_=(⟨[deadW,bxW N' true L],[]⟩):=by
 refine FnS.of (S:=[]) (T:=[]) (U:=[]) (tbl:=[]) (n:=31) hm31 cfg .nil .nil .nil .nil 0 Tryz.call114 Tryz.func114 (ac114_ok (some (1,0))) (by rw[Tryz.ntmps114];exact Nat.le_refl _) rfl _ _ _ (by rfl) ?_
 intro cmp ar cv tn ic ai mx an ad ml sb mn ln em gt up ap sc vw cp rp p1 p2 s1 s2 X Y hX hY r0 r1 r2 r3 r4 r5 r6 r7 r8 r9 r10 r11 r12 r13 r14 r15 r16 r17 r18 r19 r20 r21 r22 r23 r24
 cbv
 obtain ⟨⟨hlen,hn,hbig,hlb,hv⟩,hn9⟩:=h
 obtain ⟨K,hK⟩:∃ K:Int,K=n:=⟨_,rfl⟩
 have e1:ic n=K:=by rw[r4,hK]
 have hicN:ic N=N:=by rw[r4]
 rw[e1]
 refine LOOP.ind (σ:=Int×Int×List Int) (fun (i,c,_)=>[(0,.ms 0 0 1 none n),(1,.p (uw c)),(7,.ms 0 0 1 none n),(8,.p (iv K)),(9,.p (iv i))])
  (fun (_,_,a')=>⟨[bxW N true a'],[]⟩)
  (fun (i,_,_)=>(K - i).toNat) (fun (i,c,a')=>0≤i∧i≤K∧∃ cn:Nat,c=cn∧cn≤1∧DBI N n i.toNat a a'∧vl (a'.take n)+4294967296 ^ i.toNat*cn=v+vl (a.take i.toNat)+c0) (0,x,a)
  ⟨by omega,by show (0:Int)≤K;omega,c0,hx,hc,⟨hlb,hlen,rfl⟩,by simp[vl,hv]⟩ (.inl ⟨rfl,rfl⟩) ?_
 intro ⟨i,c,a'⟩ hI X' hX
 obtain ⟨hI1,hI2,cn,hcn,hc1,hs,hI3⟩:=hI
 obtain ⟨xx,hxx⟩:∃ x:Int,x=gt tW a' i:=⟨_,rfl⟩
 have hx':xx=a'.getD i.toNat 0:=by rw[hxx,r14];rfl
 have hadd:i<K→ar .add .i64 i 1=i+1:=fun h=>by rw[r1];exact wrap64 (n:=i+1) (by omega) (by omega)
 have hset:∀ z:Int,up tW N a' i z=a'.set i.toNat z:=fun z=>by rw[r15];exact set_up hs.len _ _
 cbv
 try simp only[nc_eq]at *
 rw[e1,hicN,←hxx]
 refine BR.lss r0 (fun hlt=>?_) (fun hge=>?_)
 ·have hin:INB i K:=⟨hI1,hlt⟩
  have hiN:INB i N:=⟨hI1,by omega⟩
  obtain ⟨y,d,q1,q2,q3,q4,q5⟩:=hs.step hn (by omega) hlb hc1
  rw[←hx',←hcn]at q1
  rw[←hx']at q2
  rw[hadd hlt,hset,r1,q1,q2]
  refine ⟨hin,hiN,⟨by decide⟩,⟨by decide⟩,hin,hiN,NEXT.mk (hX (i+1,_,_) _ _ ⟨by omega,by omega,d,rfl,q3,by rw[show (i+1).toNat=i.toNat+1 by omega];exact q4,?_⟩ (by show (K - (i+1)).toNat<(K - i).toNat;omega) (.inl ⟨rfl,rfl⟩))⟩
  rw[show (i+1).toNat=i.toNat+1 by omega,vl_take_succ (by omega)]
  exact dbl_alg q5 hI3
 have hiK:i.toNat=n:=by omega
 rw[hiK,hv]at hI3
 have hdn:=hs.drn (n:=n) (by omega)
 have htl:(a'.take n).length=n:=by rw[List.length_take,hs.len];omega
 have hvl:=vl_lt (hs.lb.take n)
 rw[htl]at hvl
 refine BR.neq r0 (fun h1=>?_) (fun h1=>?_)
 ·have hc1':cn=1:=by omega
  subst hc1'
  rw[Nat.mul_one]at hI3
  have hnl:¬ 2*v+c0<4294967296 ^ n:=by omega
  have z1:n'=n+1:=by rw[hn'];unfold dbN;rw[if_neg hnl]
  have z2:N'=n+1:=by rw[hN'];unfold dbC;rw[if_neg hnl]
  have hc':c=1:=by omega
  have z3:L=a'.take n ++ [c]:=by
   have hlb1:LB (a'.take n ++ [1]):=(hs.lb.take n).app (.cons (by decide) (by decide) .nil)
   have h2:=pad_of hlb1
   rw[List.length_append,htl,vl_append,htl,show vl [1]=1 from rfl,Nat.mul_one,hI3]at h2
   rw[hL];unfold dbL;rw[if_neg hnl,hc',←h2,show v+v+c0=2*v+c0 by omega];rfl
  have z4:ad n (ln tW [c])=n+1:=by rw[r8,r12];rfl
  have z5:ap tW (vw tW N a' 0 n) [c]=a'.take n ++ [c]:=by
   rw[r16,r18];unfold vwR;rw[Ty.norm_eq tW hs.len,List.drop_zero]
  rw[z4,z5,←z3]
  subst z1 z2
  refine ⟨⟨hn⟩,⟨by omega,by simp only[maxLen];omega⟩,RET.mk ⟨[none,some 1],[],?_⟩⟩
  rw[SIM_iff];cbv
  try simp[nlLe_self]
 ·have hc0':cn=0:=by omega
  subst hc0'
  rw[Nat.mul_zero,Nat.add_zero]at hI3
  have hnl:2*v+c0<4294967296 ^ n:=by omega
  have z1:n'=n:=by rw[hn'];unfold dbN;rw[if_pos hnl]
  have z2:N'=N:=by rw[hN'];unfold dbC;rw[if_pos hnl]
  have z3:L=a':=by
   have h2:=pad_of (hs.lb.take n)
   rw[htl,hI3]at h2
   rw[hL];unfold dbL;rw[if_pos hnl,show 2*v+c0=v+v+c0 by omega,h2,←hdn,List.take_append_drop]
  subst z1 z2 z3
  refine RET.mk ⟨[none,some 0],[],?_⟩
  rw[SIM_iff];cbv
  try simp[nlLe_self]
theorem dbN_len {n v c:Nat} (hn:n=(lm v).length) (hc:c≤1):dbN n (2*v+c)=(lm (2*v+c)).length:=by
 have h1:v<4294967296 ^ n:=(lm_len v n).1 (by omega)
 have h2:=lm_len (2*v+c) n
 have h3:=lm_len (2*v+c) (n+1)
 have h5:2*v+c<4294967296 ^ (n+1):=by rw[Nat.pow_succ];omega
 have h6:=h3.2 h5
 unfold dbN
 by_cases h:2*v+c<4294967296 ^ n
 ·rw[if_pos h]
  have h7:=h2.2 h
  rcases Nat.lt_or_ge (lm (2*v+c)).length n with h8 | h8
  ·have h9:=(lm_len (2*v+c) (n - 1)).1 (by omega)
   have h10:=(lm_len v (n - 1)).2 (by omega)
   omega
  ·omega
 ·rw[if_neg h]
  rcases Nat.lt_or_ge n (lm (2*v+c)).length with h8 | h8
  ·omega
  ·exact absurd (h2.1 h8) h
theorem dbl_num {N n:Nat} {a:List Int} {v c:Nat} (h:DBP N n a v) (hc:c≤1):NUM (dbC N n (2*v+c)) (dbN n (2*v+c)) (dbL n (2*v+c) a) (2*v+c):=by
 have h1:=vl_lt (h.num.lb.take n)
 rw[h.num.v,List.length_take,h.num.len,Nat.min_eq_left h.num.le]at h1
 unfold dbC dbN dbL
 by_cases hw:2*v+c<4294967296 ^ n
 ·simp only[if_pos hw];exact h.num.pad hw
 ·simp only[if_neg hw]
  have h2:2*v+c<4294967296 ^ (n+1):=by rw[Nat.pow_succ];omega
  refine ⟨pad_len _ _,Nat.le_refl _,by have:=h.n5;omega,pad_lb _ _,?_⟩
  rw[List.take_of_length_le (by rw[pad_len];exact Nat.le_refl _),pad_vl h2]
theorem cDbl0  : FnS Tryz.prog 114 ([.tl (some true) tW [],injT tW 0]) (⟨[],[]⟩ ) fun x_ s_=>x_=(.tl (some true) tW [])∧s_=(⟨[],[]⟩):=by
 refine FnS.of (S:=[]) (T:=[]) (U:=[]) (tbl:=[]) (n:=31) hm31 cfg .nil .nil .nil .nil 0 Tryz.call114 Tryz.func114 (ac114_ok (some (0,0))) (by rw[Tryz.ntmps114];exact Nat.le_refl _) rfl _ _ _ (by rfl) ?_
 intro cmp ar cv tn ic ai mx an ad ml sb mn ln em gt up ap sc vw cp rp p1 p2 s1 s2 X Y hX hY r0 r1 r2 r3 r4 r5 r6 r7 r8 r9 r10 r11 r12 r13 r14 r15 r16 r17 r18 r19 r20 r21 r22 r23 r24
 cbv
 rw[show ic (ln tW [])=0 by rw[r4,r12];rfl]
 refine LOOP.ind (σ:=Unit) (fun _=>[(0,.tl (some true) tW []),(1,.p (uw 0)),(7,.tl (some true) tW []),(8,.p (iv 0)),(9,.p (iv 0))]) (fun _=>⟨[],[]⟩) (fun _=>0) (fun _=>True) () trivial (.inl ⟨rfl,rfl⟩) ?_
 intro _ _ X' hX
 cbv
 refine BR.lss r0 (fun h=>absurd h (by decide)) (fun _=>?_)
 refine BR.neq r0 (fun h=>absurd rfl h) (fun _=>?_)
 refine RET.mk ⟨[],[],?_⟩
 rw[SIM_iff];cbv;simp[nlLe_self]
theorem cDbl1  : FnS Tryz.prog 114 ([.tl (some true) tW [],injT tW 1]) (⟨[],[]⟩ ) fun x_ s_=>x_=(.ms 0 0 1 none 1)∧s_=(⟨[bxW 1 true [1]],[]⟩):=by
 refine FnS.of (S:=[]) (T:=[]) (U:=[]) (tbl:=[]) (n:=31) hm31 cfg .nil .nil .nil .nil 0 Tryz.call114 Tryz.func114 (ac114_ok (some (0,0))) (by rw[Tryz.ntmps114];exact Nat.le_refl _) rfl _ _ _ (by rfl) ?_
 intro cmp ar cv tn ic ai mx an ad ml sb mn ln em gt up ap sc vw cp rp p1 p2 s1 s2 X Y hX hY r0 r1 r2 r3 r4 r5 r6 r7 r8 r9 r10 r11 r12 r13 r14 r15 r16 r17 r18 r19 r20 r21 r22 r23 r24
 cbv
 rw[show ic (ln tW [])=0 by rw[r4,r12];rfl]
 refine LOOP.ind (σ:=Unit) (fun _=>[(0,.tl (some true) tW []),(1,.p (uw 1)),(7,.tl (some true) tW []),(8,.p (iv 0)),(9,.p (iv 0))]) (fun _=>⟨[],[]⟩) (fun _=>0) (fun _=>True) () trivial (.inl ⟨rfl,rfl⟩) ?_
 intro _ _ X' hX
 cbv
 refine BR.lss r0 (fun h=>absurd h (by decide)) (fun _=>?_)
 refine BR.neq r0 (fun _=>?_) (fun h=>absurd (by decide) h)
 rw[show ln tW [1]=1 by rw[r12];rfl]
 refine ⟨⟨by decide⟩,⟨by decide,by decide⟩,RET.mk ⟨[some 0],[],?_⟩⟩
 rw[SIM_iff];cbv
 try simp[nlLe_self]
structure DBK (N n:Nat) (q:Bool) (a:List Int) (x:Int) (f:Nat→Nat→List Int→Prop):Prop where
 pre:DBP N n a (vl (a.take n))
 q:q=true
 x0:0≤x
 x1:x≤1
 h:∀ n' N' L,NUM N' n' L (2*vl (a.take n)+x.toNat)→n'=dbN n (2*vl (a.take n)+x.toNat)→f n' N' L
structure DNK (x:Int) (A B:Prop):Prop where
 p:x=0∨x=1
 a:x=0→A
 b:x=1→B
def spDbl:OpsS→CallS:=fun _ _ ds st K=>match ds with
 | [.ms b 0 1 none n,.p (.v (.int .u32 x))]=>bxAt st b fun N q a=>DBK N n q a x fun n' N' L=>frS [b] [] [.ms 0 0 1 none n,injT tW x] ⟨[bxW N true a],[]⟩ (.ms 1 0 1 none n') ⟨[deadW,bxW N' true L],[]⟩ ds st K
 | [.tl nl t l,.p (.v (.int .u32 x))]=>nl=some true∧t=tW∧l.isEmpty=true∧DNK x (frS [] [] [.tl (some true) tW [],injT tW 0] ⟨[],[]⟩ (.tl (some true) tW []) ⟨[],[]⟩ [.tl (some true) tW [],injT tW 0] st K)
   (frS [] [] [.tl (some true) tW [],injT tW 1] ⟨[],[]⟩ (.ms 0 0 1 none 1) ⟨[bxW 1 true [1]],[]⟩ [.tl (some true) tW [],injT tW 1] st K)
 | _=>False
theorem cDblT:∀ ds st K,spDbl OpsS.real 114 ds st K→FnS Tryz.prog 114 ds st K:=fun ds st K h=>by
 unfold spDbl at h
 split at h <;> first | exact h.elim | skip
 ·obtain ⟨N,q,a,h⟩:=bxAt_ex h
  exact frS_ok (cDblB N _ _ _ a _ _ _ _ (by have:=h.x0;omega) (by have:=h.x1;omega) h.pre rfl rfl rfl) (h.h _ _ _ (dbl_num h.pre (by have:=h.x1;omega)) rfl)
 ·obtain ⟨rfl,rfl,hl,h⟩:=h
  obtain rfl:=List.isEmpty_iff.1 hl
  rcases h.p with hx | hx
  ·have:=h.a hx;subst hx
   exact frS_ok cDbl0 this
  ·have:=h.b hx;subst hx
   exact frS_ok cDbl1 this
end Go.Ab
namespace Go.Ab
open Go.Proofs
def od (v:Nat):Nat×Nat:=if h:v≠0∧v % 2=0 then ((od (v / 2)).1,(od (v / 2)).2+1) else (v,0)
termination_by v
decreasing_by omega
theorem od_even {v:Nat} (h:v≠0) (h2:v % 2=0):od v=((od (v / 2)).1,(od (v / 2)).2+1):=by rw[od];simp[h,h2]
theorem od_odd {v:Nat} (h:v % 2≠0):od v=(v,0):=by rw[od];simp[h]
theorem od_zero:od 0=(0,0):=by rw[od];simp
theorem od_pow (v:Nat):v=2 ^ (od v).2*(od v).1:=by
 induction v using Nat.strongRecOn with
 | ind v ih=>
  by_cases h:v≠0∧v % 2=0
  ·rw[od_even h.1 h.2]
   have:=ih (v / 2) (by omega)
   rw[Nat.pow_succ,Nat.mul_comm (2 ^ _) 2,Nat.mul_assoc,←this];omega
  ·rw[od];simp[h]
theorem od_le {v n:Nat} (h:v<4294967296 ^ n):(od v).2≤32*n:=by
 by_cases h0:v=0
 ·rw[h0,od_zero];exact Nat.zero_le _
 ·have h1:=od_pow v
  have h2:0<(od v).1:=by
   rcases Nat.eq_zero_or_pos (od v).1 with h | h
   ·rw[h,Nat.mul_zero]at h1;exact absurd h1 h0
   ·exact h
  have h3:2 ^ (od v).2≤v:=by
   have:=Nat.mul_le_mul_left (2 ^ (od v).2) h2
   omega
  rw[show 4294967296=2 ^ 32 from rfl,←Nat.pow_mul]at h
  have:=(Nat.pow_lt_pow_iff_right (a:=2) (by decide)).1 (Nat.lt_of_le_of_lt h3 h)
  omega
theorem hlvW {x c:Nat} (hx:x<4294967296) (hc:c≤1):arR .or .u32 (arR .shr .u32 (x:Int) 1) ((2147483648*c:Nat):Int)=((x / 2+2147483648*c:Nat):Int)∧arR .shl .u32 (x:Int) 31=((2147483648*(x % 2):Nat):Int):=by
 refine ⟨?_,?_⟩
 ·have e:arR .shr .u32 (x:Int) 1=((x / 2:Nat):Int):=by
   show Int.fdiv (x:Int) 2=_
   rw[Int.fdiv_eq_ediv_of_nonneg _ (by decide)];omega
  rw[e,orW (by omega) (by omega)]
  have:=or_add (i:=31) (a:=c) (b:=x / 2) (by omega)
  rw[show (2:Nat) ^ 31=2147483648 from rfl]at this
  rw[Nat.or_comm,this,Nat.add_comm]
 ·show IntKind.wrap .u32 ((x:Int)*2 ^ 31)=_
  rw[wrap_u32]
  rw[show (2:Int) ^ 31=2147483648 from rfl];omega
structure HLV (N n:Nat) (a:List Int) (v:Nat):Prop where
 num:NUM N n a v
 can:n=(lm v).length
structure HLI (N M:Nat) (i:Int) (a' a:List Int):Prop where
 lb:LB a
 len:a.length=N
 lo:a.take (i+1).toNat=a'.take (i+1).toNat
 hi:a.drop M=a'.drop M
theorem getD_of_take {a b:List Int} {i k:Nat} (h:a.take k=b.take k) (hi:i<k):a.getD i 0=b.getD i 0:=by
 have:=congrArg (fun l=>l.getD i 0) h
 simp only[List.getD_eq_getElem?_getD,List.getElem?_take,if_pos hi]at this ⊢;exact this
theorem take_getD {a:List Int} {M j:Nat} (h:j<M):(a.take M).getD j 0=a.getD j 0:=by
 rw[List.getD_eq_getElem?_getD,List.getElem?_take,if_pos h,←List.getD_eq_getElem?_getD]
theorem HLI.step {N M:Nat} {i:Int} {a' a:List Int} (h:HLI N M i a' a) (hM:M≤N) (h0:0≤i) (hi:i<M) (hla:LB a') (hal:a'.length=N) {c:Nat} (hc:c≤1) (hv:2*vl ((a.take M).drop (i+1).toNat)+c=vl ((a'.take M).drop (i+1).toNat)) :
  ∃ y d:Nat,arR .or .u32 (arR .shr .u32 (a.getD i.toNat 0) 1) ((2147483648*c:Nat):Int)=y∧arR .shl .u32 (a.getD i.toNat 0) 31=((2147483648*d:Nat):Int)∧d≤1∧HLI N M (i - 1) a' (a.set i.toNat (y:Int)) ∧
   2*vl (((a.set i.toNat (y:Int)).take M).drop (i - 1+1).toNat)+d=vl ((a'.take M).drop (i - 1+1).toNat):=by
 obtain ⟨j,hj⟩:∃ j:Nat,i=j:=⟨i.toNat,by omega⟩
 subst hj
 rw[show ((j:Int)+1).toNat=j+1 by omega]at hv
 have hlo:=h.lo
 rw[show ((j:Int)+1).toNat=j+1 by omega]at hlo
 rw[show ((j:Int) - 1+1).toNat=j by omega,Int.toNat_natCast]
 have hb:=h.lb.getD j
 have hg:=getD_of_take hlo (Nat.lt_succ_self j)
 obtain ⟨x,hx⟩:∃ x:Nat,(x:Int)=a.getD j 0:=⟨(a.getD j 0).toNat,by omega⟩
 obtain ⟨h1,h2⟩:=hlvW (x:=x) (c:=c) (by omega) hc
 rw[←hx]
 have hjM:j<M:=by omega
 refine ⟨_,x % 2,h1,h2,by omega,⟨h.lb.set j (by omega) (by omega),by rw[List.length_set];exact h.len,?_,?_⟩,?_⟩
 ·rw[show ((j:Int) - 1+1).toNat=j by omega,List.take_set_of_le (Nat.le_refl _)]
  have:=congrArg (List.take j) hlo
  rw[List.take_take,List.take_take,Nat.min_eq_left (by omega)]at this;exact this
 ·rw[List.drop_set_of_lt hjM];exact h.hi
 ·have hl1:(a.take M).length=M:=by rw[List.length_take,h.len];omega
  have hl2:(a'.take M).length=M:=by rw[List.length_take,hal];omega
  rw[vl_drop_pred (l:=a'.take M) (by omega),List.take_set,vl_drop_pred (by rw[List.length_set];omega),←hv,take_getD hjM,←hg,←hx,List.drop_set_of_lt (show j<j+1 by omega)]
  have e:((a.take M).set j ((x / 2+2147483648*c:Nat):Int)).getD j 0=((x / 2+2147483648*c:Nat):Int):=by
   rw[List.getD_eq_getElem?_getD,List.getElem?_set_self (by omega)];rfl
  rw[e]
  omega
theorem HLI.fin {N n M:Nat} {a' a:List Int} {v:Nat} (h:HLI N M (-1) a' a) (h1:NUM N n a' v) (h2:NUM N M a' v) (hM:M≤n) (hd:2*vl (a.take M)=v):NUM N n a (v / 2)∧NUM N M a (v / 2):=by
 have hl:=h1.len
 have hle:=h1.le
 have hv2:vl (a.take M)=v / 2:=by omega
 have e1:=vl_split (a'.take n) M (by rw[List.length_take];omega)
 rw[h1.v,List.take_take,Nat.min_eq_left hM,h2.v]at e1
 have e2:=vl_split (a.take n) M (by rw[List.length_take,h.len];omega)
 rw[List.take_take,Nat.min_eq_left hM,hv2]at e2
 have e3:(a.take n).drop M=(a'.take n).drop M:=by rw[List.drop_take,List.drop_take,h.hi]
 rw[e3]at e2
 have e4:4294967296 ^ M*vl ((a'.take n).drop M)=0:=by omega
 exact ⟨⟨h.len,hle,h1.big,h.lb,by rw[e2,e4];rfl⟩,⟨h.len,by omega,h1.big,h.lb,hv2⟩⟩
theorem lm_get0 {v:Nat} (h:v≠0):(lm v).getD 0 0=((v % 4294967296:Nat):Int):=by rw[lm_pos h];rfl
theorem andW1 {x:Nat} (hx:x<4294967296):arR .and .u32 (x:Int) 1=((x % 2:Nat):Int):=by
 have e:∀ z:Nat,z<4294967296→(BitVec.ofInt 32 (z:Int)).toNat=z:=fun z hz=>by rw[BitVec.toNat_ofInt];omega
 show IntKind.wrap .u32 ((BitVec.ofInt 32 (x:Int) &&& BitVec.ofInt 32 ((1:Nat):Int)).toNat:Int)=_
 rw[wrapB,BitVec.toNat_and,e x hx,e 1 (by decide),Nat.and_one_is_mod]
theorem pad_num {N n:Nat} {a:List Int} {v:Nat} (h:NUM N n a v):a=pad n v ++ a.drop n:=by
 have h2:=pad_of (h.lb.take n)
 rw[List.length_take,h.len,Nat.min_eq_left h.le,h.v]at h2
 rw[h2,List.take_append_drop]
theorem cHlvB (aq:Bool) (N n n':Nat) (a L:List Int) (v:Nat) (k:Int) (h:HLV N n a v) (hL:L=pad n (od v).1 ++ a.drop n) (hn':n'=(lm (od v).1).length) (hk:k=(od v).2):FnS Tryz.prog 111 ([.ms 0 0 1 none n]) (⟨[bxW N aq a],[]⟩ ) fun x_ s_=>x_=(.tup [.ms 0 0 1 none n',.p (iv k)])∧s_=(⟨[bxW N aq L],[]⟩):=by
 refine FnS.of (S:=[]) (T:=[(132,_)]) (U:=[]) (tbl:=[(131,ac131 none,[.tmp 2],4),(144,ac144 none,[],19)]) (n:=37) hm31 cfg .nil (.cons cTrimT .nil) .nil (.cons Tryz.call131 Tryz.func131 (ac131_ok none) (by rw[Tryz.ntmps131];exact Nat.le_refl _) (.cons Tryz.call144 Tryz.func144 (ac144_ok none) (by rw[Tryz.ntmps144];exact Nat.le_refl _) .nil)) 6 Tryz.call111 Tryz.func111 (ac111_ok (some (1,0)) (some (3,0))) (by rw[Tryz.ntmps111];exact Nat.le_refl _) rfl _ _ _ (by rfl) ?_
 intro cmp ar cv tn ic ai mx an ad ml sb mn ln em gt up ap sc vw cp rp p1 p2 s1 s2 X Y hX hY r0 r1 r2 r3 r4 r5 r6 r7 r8 r9 r10 r11 r12 r13 r14 r15 r16 r17 r18 r19 r20 r21 r22 r23 r24
 cbv
 obtain ⟨hnum,hcan⟩:=h
 try simp only[nc_eq]at hk
 have hk5:k≤3200000:=by
   have h1:=vl_lt (hnum.lb.take n)
   rw[hnum.v,List.length_take,hnum.len,Nat.min_eq_left hnum.le]at h1
   have:=od_le h1
   have:=hnum.le;have:=hnum.big;omega
 refine LOOP.ind (σ:=Nat×Nat×List Int×Int) (fun (_,_,_,j)=>[(1,.ptr 1 0),(4,.p (iv j)),(20,.bad),(21,.bad)])
   (fun (_,M,a',_)=>⟨[bxW N aq a',{ cells:=[.ms 0 0 1 none M],e:=47,fz:=false }],[]⟩)
   (fun (w,_,_,_)=>w) (fun (w,M,a',j)=>M=(lm w).length∧NUM N n a' w∧a'.drop n=a.drop n∧0≤j∧j+(od w).2=k∧(od w).1=(od v).1) (v,n,a,0)
   ⟨hcan,hnum,rfl,by decide,by rw[hk];exact Int.zero_add _,rfl⟩ (.inl ⟨rfl,rfl⟩) ?_
 intro ⟨w,M,a',j⟩ hI X' hX
 obtain ⟨hM,hn1,hdr,hj0,hjk,how⟩:=hI
 obtain ⟨hn2,htk,hMn⟩:=hn1.trim hM
 obtain ⟨K,hK⟩:∃ K:Int,K=M:=⟨_,rfl⟩
 have e1:ic M=K:=by rw[r4,hK]
 have hicN:ic N=N:=by rw[r4]
 have hN0:M≤N:=hn2.le
 have hN5:=hn2.big
 obtain ⟨x,hx⟩:∃ x:Int,x=gt tW a' 0:=⟨_,rfl⟩
 have hx':w≠0→x=((w % 4294967296:Nat):Int):=fun h=>by
   have hM0 : 0 < M := by rw [hM]; rcases Nat.eq_zero_or_pos (lm w).length with h0 | h0; · exact absurd (lm_len0.1 h0) h
                          · exact h0
   rw[hx,r14]
   show a'.getD 0 0=_
   rw[←take_getD hM0,htk,lm_get0 h]
 cbv
 try simp only[nc_eq]at *
 rw[e1,hicN,←hx]
 have hMw:w≠0→0<M:=fun h=>by
   rcases Nat.eq_zero_or_pos M with h0 | h0
   · exact absurd (lm_len0.1 (by omega)) h
   · exact h0
 have ret:od w=(w,0)→RET 1 0 (.tup [.ms 0 0 1 none M,.p (iv j)]) ⟨[bxW N aq a',{ cells:=[.ms 0 0 1 none M],e:=47,fz:=false }],[]⟩ (.tup [.ms 0 0 1 none n',.p (iv k)]) ⟨[bxW N aq L],[]⟩:=fun h=>by
   rw[h]at how hjk
   have z1:M=n':=by rw[hn',←how,hM]
   have z2:j=k:=by rw[←hjk];exact (Int.add_zero j).symm
   have z3:a'=L:=by rw[hL,←how,←hdr];exact pad_num hn1
   refine RET.mk ⟨[some 0],[],?_⟩
   rw[SIM_iff];cbv;simp[nlLe_self,z1,z2,z3]
 refine BR.gtr r0 (fun h0=>?_) (fun h0=>ret (by
   have:w=0:=lm_len0.1 (by omega)
   rw[this,od_zero]))
 have hw0:w≠0:=fun h=>by rw[h,lm_zero]at hM;simp at hM;omega
 have hxe:ar .and .u32 x 1=((w % 2:Nat):Int):=by
   rw[r1,hx' hw0,andW1 (by omega)];congr 1;omega
 rw[hxe]
 refine ⟨⟨by omega,by omega⟩,⟨by omega,by omega⟩,BR.eql r0 (fun h2=>?_) (fun h2=>ret (od_odd (by omega)))⟩
 have hw2:w % 2=0:=by omega
 refine ALLY.mk fun y=>?_
 cbv
 try simp only[nc_eq]at *
 rw[e1]
 have hs1:ar .sub .i64 K 1=K - 1:=by rw[r1];exact wrap64 (n:=K - 1) (by omega) (by omega)
 rw[hs1]
 have hal:=hn2.len
 refine LOOP.ind0 (σ:=Int×Int×List Int) (fun (i,_,_)=>[(0,.fn (.yield y) [] []),(1,.ptr 3 0),(3,.p (iv i))])
   (fun (_,c,b)=>⟨[bxW N aq b,{ cells:=[.ms 0 0 1 none M],e:=47,fz:=false },{ cells:=[.p (uw c)],e:=117,fz:=false },{ cells:=[.ms 0 0 1 none M],e:=47,fz:=false }],[]⟩)
   (fun (i,_,_)=>(i+1).toNat) (fun (i,c,b)=>-1≤i∧i<K∧HLI N M i a' b∧∃ d:Nat,c=((2147483648*d:Nat):Int)∧d≤1∧2*vl ((b.take M).drop (i+1).toNat)+d=vl ((a'.take M).drop (i+1).toNat)) (K - 1,0,a')
   ⟨by show -1≤K - 1;omega,by show K - 1<K;omega,⟨hn2.lb,hn2.len,rfl,rfl⟩,0,rfl,by decide,?_⟩ (.inl ⟨rfl,rfl⟩) ?_
 · show 2*vl ((a'.take M).drop (K - 1+1).toNat)+0=vl ((a'.take M).drop (K - 1+1).toNat)
   rw[List.drop_eq_nil_of_le (by rw[List.length_take];omega)];rfl
 intro ⟨i,c,b⟩ hJ X2 hY
 obtain ⟨hI1,hI2,hs,d,hcd,hd1,hI3⟩:=hJ
 obtain ⟨u,hu⟩:∃ u:Int,u=gt tW b i:=⟨_,rfl⟩
 have hu':u=b.getD i.toNat 0:=by rw[hu,r14];rfl
 have hset:∀ z:Int,up tW N b i z=b.set i.toNat z:=fun z=>by rw[r15];exact set_up hs.len _ _
 have hsub:0≤i→ar .sub .i64 i 1=i - 1:=fun h=>by rw[r1];exact wrap64 (n:=i - 1) (by omega) (by omega)
 cbv
 try simp only[nc_eq]at *
 rw[e1,hicN,←hu]
 refine BR.geq r0 (fun h3=>?_) (fun h3=>?_)
 · have hiK:INB i K:=⟨h3,hI2⟩
   have hiN:INB i N:=⟨h3,by omega⟩
   obtain ⟨z,d',q1,q2,q3,q4,q5⟩:=hs.step hN0 h3 (by omega) hn2.lb hal hd1 hI3
   rw[←hu']at q1 q2
   rw[hsub h3,hset,r1,hcd,q1,q2]
   refine ⟨hiK,hiN,⟨by decide⟩,⟨by decide⟩,hiK,hiN,NEXT.mk (hY (i - 1,_,_) _ _ ⟨by show -1≤i - 1;omega,by show i - 1<K;omega,q4,d',rfl,q3,q5⟩ (by show (i - 1+1).toNat<(i+1).toNat;omega) (.inl ⟨rfl,rfl⟩))⟩
 have hi1:i = -1:=by omega
 subst hi1
 have hI3':2*vl (b.take M)+d=w:=by
   have:=hI3
   rw[show ((-1:Int)+1).toNat=0 from rfl,List.drop_zero,List.drop_zero,hn2.v]at this;exact this
 obtain ⟨f1,f2⟩:=hs.fin hn1 hn2 hMn (by omega)
 refine TRK.mk ⟨f2.lb,f2.len,hN0,hN5⟩ ?_
 intro m hm
 rw[f2.v]at hm
 have hj1:ar .add .i64 j 1=j+1:=by rw[r1];exact wrap64 (n:=j+1) (by omega) (by omega)
 have hod:=od_even hw0 hw2
 rw[hod]at hjk how
 cbv
 rw[hj1]
 refine NEXT.mk (hX (w / 2,m,b,j+1) _ _ ⟨hm,f1,?_,by show 0≤j+1;omega,?_,how⟩ (by show w / 2<w;omega) (.inr ⟨[some 0,some 1],[],?_⟩))
 · have:=congrArg (List.drop (n - M)) hs.hi
   rw[List.drop_drop,List.drop_drop,show M+(n - M)=n by omega]at this
   rw[this,hdr]
 · show j+1+_=k
   rw[←hjk];simp only[nc_eq];omega
 · rw[SIM_iff];cbv
   try simp[nlLe_self]
structure HVK (N n:Nat) (a:List Int) (f:Nat→List Int→Int→Prop):Prop where
 pre:HLV N n a (vl (a.take n))
 h:∀ n' L,NUM N n' L (od (vl (a.take n))).1→n'=(lm (od (vl (a.take n))).1).length→f n' L ((od (vl (a.take n))).2:Nat)
def spHlv:OpsS→CallS:=fun _ _ ds st K=>match ds with
 | [.ms b 0 1 none n]=>bxAt st b fun N q a=>HVK N n a fun n' L k=>frS [b] [] [.ms 0 0 1 none n] ⟨[bxW N q a],[]⟩ (.tup [.ms 0 0 1 none n',.p (iv k)]) ⟨[bxW N q L],[]⟩ ds st K
 | _=>False
theorem od_le1 (v:Nat):(od v).1≤v:=by
 have h:=od_pow v
 have:0<2 ^ (od v).2:=Nat.two_pow_pos _
 have:=Nat.mul_le_mul_right (od v).1 this
 omega
theorem NUM.lt {N n:Nat} {a:List Int} {v:Nat} (h:NUM N n a v):v<4294967296 ^ n:=by
 have h1:=vl_lt (h.lb.take n)
 rw[List.length_take,h.len,Nat.min_eq_left h.le,h.v]at h1;exact h1
theorem cHlvT:∀ ds st K,spHlv OpsS.real 111 ds st K→FnS Tryz.prog 111 ds st K:=fun ds st K h=>by
 unfold spHlv at h
 split at h <;> first | exact h.elim | skip
 obtain ⟨N,q,a,h⟩:=bxAt_ex h
 have hn:=h.pre.num
 have h1:=hn.lt
 exact frS_ok (cHlvB q N _ _ a _ _ _ h.pre rfl rfl rfl) (h.h _ _ ((hn.pad (Nat.lt_of_le_of_lt (od_le1 _) h1)).trim rfl).1 rfl)
theorem FnS.weakA {P:Program} {f:FuncId} {ds ds':List DC} {st:StS} {K:DC→StS→Prop} (h:FnS P f ds st K) (hl:ds'.length=ds.length) (ha:∀ E i u,i<ds.length→RD E ((concL ds').getD i default) u→RD E ((concL ds).getD i default) u):FnS P f ds' st K:=by
 intro c
 obtain ⟨h1,h2⟩:=h c
 have e1:(concL ds).length=ds.length:=by rw[concL_eq,List.length_map]
 have e2:(concL ds').length=ds'.length:=by rw[concL_eq,List.length_map]
 exact ⟨h1,fun E w vs hw hgl hs hR=>h2 E w vs hw hgl (by omega) fun i hi=>ha E i _ (by omega) (hR i (by omega))⟩
theorem RP.nonnil {G:Mem} {nl:Option Bool} {n:Nat} {cells:List PD} {u:Value} (h:RP G (.sl nl n cells) u) (hn:0<n):RP G (.sl (some false) n cells) u:=by
 rcases h.sl_inv with ⟨_,h0,_⟩ | ⟨b,o,sp,cap,us,rfl,h1,h2,h3,h4,h5⟩
 ·omega
 ·exact .sl' _ _ _ b o cap us sp (by simp) h1 h3 h4 h5
theorem tl_nonnil {E:Em} {nl:Option Bool} {t:Ty} {l:List t.den} (hl:l≠[]) {u:Value} (h:RD E (DC.tl nl t l).conc u):RD E (DC.tl (some false) t l).conc u:=by
 simp only[DC.conc]at h ⊢
 exact .p _ _ (h.p_inv.nonnil (List.length_pos_iff.2 hl))
theorem cClnF (l:List Int) (n:Nat) (hn:n=l.length) (h:n≤100000):FnS Tryz.prog 110 ([injT tN (some false,l)]) (⟨[],[]⟩ ) fun x_ s_=>x_=(.ms 0 0 1 none n)∧s_=(⟨[bxW n true l],[]⟩):=by
 refine FnS.of (S:=[]) (T:=[]) (U:=[]) (tbl:=[]) (n:=8) hm31 cfg .nil .nil .nil .nil 0 Tryz.call110 Tryz.func110 (ac110_ok (some (0,0))) (by rw[Tryz.ntmps110];exact Nat.le_refl _) rfl _ _ _ (by rfl) ?_
 intro cmp ar cv tn ic ai mx an ad ml sb mn ln em gt up ap sc vw cp rp p1 p2 s1 s2 X Y hX hY r0 r1 r2 r3 r4 r5 r6 r7 r8 r9 r10 r11 r12 r13 r14 r15 r16 r17 r18 r19 r20 r21 r22 r23 r24
 cbv
 have hz:ad 0 (ln tW l)=n:=by rw[r8,r12,hn];exact Nat.zero_add _
 have hc:ap tW (vw tW 0 [] 0 0) l=l:=by rw[r16,r18];rfl
 rw[hz,hc]
 refine BR.mk (fun h=>by cases h) fun _=>⟨⟨Nat.le_refl _⟩,LIM_iff.2 ⟨by omega,by omega⟩,RET.mk ⟨[some 1],[],?_⟩⟩
 rw[SIM_iff];cbv
 try simp[nlLe_self]
structure CLK (nb:Option Bool) (l:List Int) (f:Nat→Prop):Prop where
 nn:nb=some false∨l≠[]
 big:l.length≤100000
 h:∀ n,n=l.length→f n
def spCln:OpsS→CallS:=fun _ _ ds st K=>match ds with
 | [d]=>(match getT tN d with
  | some (nb,l)=>CLK nb l fun n=>frS [] [] [injT tN (some false,l)] ⟨[],[]⟩ (.ms 0 0 1 none n) ⟨[bxW n true l],[]⟩ [injT tN (some false,l)] st K
  | none=>False)
 | _=>False
theorem cClnT:∀ ds st K,spCln OpsS.real 110 ds st K→FnS Tryz.prog 110 ds st K:=fun ds st K h=>by
 unfold spCln at h
 split at h <;> first | exact h.elim | skip
 split at h <;> first | exact h.elim | skip
 rename_i d _ nb l hd
 refine FnS.congA (ys:=[injT tN (nb,l)]) ?_ (by simp only[concL,getT_conc hd])
 have h1:=frS_ok (cClnF l _ rfl h.big) (h.h _ rfl)
 rcases h.nn with rfl | hne
 ·exact h1
 ·refine h1.weakA rfl fun E i u hi hr=>?_
  match i,hi with
  | 0,_=>exact tl_nonnil (nl:=nb) hne hr
end Go.Ab
