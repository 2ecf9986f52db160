/- Limbs: doubling in place. -/
import Derived.Test.YtlmdgmppeacobaaGreatLd
set_option linter.unusedSimpArgs false
set_option linter.unusedVariables false
set_option maxRecDepth 20000
set_option maxHeartbeats 4000000
namespace Go.Ab
open Go.Proofs
theorem or_add {i a b:Nat} (h:b<2 ^ i):(2 ^ i*a ||| b)=2 ^ i*a+b:=(Nat.two_pow_add_eq_or_of_lt h a).symm
theorem orW {x y:Nat} (hx:x<4294967296) (hy:y<4294967296):arR .or .u32 (x:Int) (y:Int)=((x ||| y:Nat):Int):=by
 have h:(x ||| y)<4294967296:=Nat.or_lt_two_pow (n:=32) hx hy
 show IntKind.wrap .u32 ((BitVec.ofInt 32 (x:Int) ||| BitVec.ofInt 32 (y:Int)).toNat:Int)=_
 have e:∀ z:Nat,z<4294967296→(BitVec.ofInt 32 (z:Int)).toNat=z:=fun z hz=>by rw[BitVec.toNat_ofInt];omega
 rw[wrapB,BitVec.toNat_or,e x hx,e y hy]
theorem dblW {x c:Nat} (hx:x<4294967296) (hc:c≤1):∃ y d:Nat,arR .or .u32 (arR .shl .u32 (x:Int) 1) (c:Int)=y∧arR .shr .u32 (x:Int) 31=d∧y<4294967296∧d≤1∧x+x+c=y+4294967296*d:=by
 refine ⟨2*(x % 2147483648)+c,x / 2147483648,?_,?_,by omega,by omega,by omega⟩
 ·have e:arR .shl .u32 (x:Int) 1=((2*(x % 2147483648):Nat):Int):=by
   show IntKind.wrap .u32 ((x:Int)*2 ^ 1)=_
   rw[wrap_u32];omega
  rw[e,orW (by omega) (by omega)]
  have:=or_add (i:=1) (a:=x % 2147483648) (b:=c) (by omega)
  rw[show (2:Nat) ^ 1=2 from rfl]at this
  rw[this]
 ·show Int.fdiv (x:Int) 2147483648=_
  rw[Int.fdiv_eq_ediv_of_nonneg _ (by decide)];omega
structure DBP (N n:Nat) (a:List Int) (v:Nat):Prop where
 num:NUM N n a v
 n5:n≤90000
def dbN (n v:Nat):Nat:=if v<4294967296 ^ n then n else n+1
def dbC (N n v:Nat):Nat:=if v<4294967296 ^ n then N else n+1
def dbL (n v:Nat) (a:List Int):List Int:=if v<4294967296 ^ n then pad n v ++ a.drop n else pad (n+1) v
structure DBI (N n i:Nat) (a a':List Int):Prop where
 lb:LB a'
 len:a'.length=N
 dr:a'.drop i=a.drop i
theorem DBI.drn {N n i:Nat} {a a':List Int} (h:DBI N n i a a') (hi:i≤n):a'.drop n=a.drop n:=by
 have:=congrArg (List.drop (n - i)) h.dr
 rw[List.drop_drop,List.drop_drop,show i+(n - i)=n by omega]at this;exact this
theorem getD_of_drop {a b:List Int} {i:Nat} (h:a.drop i=b.drop i):a.getD i 0=b.getD i 0:=by
 have:=congrArg (fun l=>l.getD 0 0) h
 simp only[List.getD_eq_getElem?_getD,List.getElem?_drop,Nat.add_zero]at this ⊢;exact this
theorem DBI.step {N n i:Nat} {a a':List Int} (h:DBI N n i a a') (hn:n≤N) (hi:i<n) (hla:LB a) {c:Nat} (hc:c≤1) :
  ∃ y d:Nat,arR .or .u32 (arR .shl .u32 (a'.getD i 0) 1) (c:Int)=y∧arR .shr .u32 (a'.getD i 0) 31=d∧d≤1∧DBI N n (i+1) a (a'.set i (y:Int)) ∧
   vl ((a'.set i (y:Int)).take n)+4294967296 ^ (i+1)*d=vl (a'.take n)+4294967296 ^ i*((a.getD i 0).toNat+c):=by
 have hg:=getD_of_drop h.dr
 have hb:=h.lb.getD i
 obtain ⟨x,hx⟩:∃ x:Nat,(x:Int)=a'.getD i 0:=⟨(a'.getD i 0).toNat,by omega⟩
 obtain ⟨y,d,h1,h2,h3,h4,h5⟩:=dblW (x:=x) (c:=c) (by omega) hc
 rw[←hx]
 refine ⟨y,d,h1,h2,h4,⟨h.lb.set i (by omega) (by omega),by rw[List.length_set];exact h.len,?_⟩,?_⟩
 ·rw[List.drop_set_of_lt (by omega)]
  have:=congrArg (List.drop 1) h.dr
  rw[List.drop_drop,List.drop_drop]at this;exact this
 ·have hlt:(a'.take n).length=n:=by rw[List.length_take,h.len];omega
  have e:(a'.take n).getD i 0=a'.getD i 0:=by rw[List.getD_eq_getElem?_getD,List.getElem?_take,if_pos hi,←List.getD_eq_getElem?_getD]
  rw[List.take_set]
  refine step_add (by omega) ?_
  rw[e,←hg];omega
theorem dbl_alg {v w x T d c y i z:Nat} (h1:v+4294967296 ^ (i+1)*d=w+4294967296 ^ i*(y+c)) (h2:w+4294967296 ^ i*c=x+T+z) :
  v+4294967296 ^ (i+1)*d=x+(T+4294967296 ^ i*y)+z:=by
 rw[Nat.mul_add]at h1
 omega
def deadW:BoxS:={ cells:=[],e:=117,fz:=true }
theorem cDblB (N n n' N':Nat) (a L:List Int) (v c0:Nat) (x:Int) (hx:x=c0) (hc:c0≤1) (h:DBP N n a v) (hn':n'=dbN n (2*v+c0)) (hN':N'=dbC N n (2*v+c0)) (hL:L=dbL n (2*v+c0) a):FnS Tryz.prog 114 ([.ms 0 0 1 none n,injT tW x]) (⟨[bxW N true a],[]⟩ ) fun x_ s_=>x_=(.ms 1 0 1 none n')∧s_=(⟨[deadW,bxW N' true L],[]⟩):=by
 refine FnS.of (S:=[]) (T:=[]) (U:=[]) (tbl:=[]) (n:=31) hm31 cfg .nil .nil .nil .nil 0 Tryz.call114 Tryz.func114 (ac114_ok (some (1,0))) (by rw[Tryz.ntmps114];exact Nat.le_refl _) rfl _ _ _ (by rfl) ?_
 intro cmp ar cv tn ic ai mx an ad ml sb mn ln em gt up ap sc vw cp rp p1 p2 s1 s2 X Y hX hY r0 r1 r2 r3 r4 r5 r6 r7 r8 r9 r10 r11 r12 r13 r14 r15 r16 r17 r18 r19 r20 r21 r22 r23 r24
 cbv
 obtain ⟨⟨hlen,hn,hbig,hlb,hv⟩,hn9⟩:=h
 obtain ⟨K,hK⟩:∃ K:Int,K=n:=⟨_,rfl⟩
 have e1:ic n=K:=by rw[r4,hK]
 have hicN:ic N=N:=by rw[r4]
 rw[e1]
 refine LOOP.ind (σ:=Int×Int×List Int) (fun (i,c,_)=>[(0,.ms 0 0 1 none n),(1,.p (uw c)),(7,.ms 0 0 1 none n),(8,.p (iv K)),(9,.p (iv i))])
  (fun (_,_,a')=>⟨[bxW N true a'],[]⟩)
  (fun (i,_,_)=>(K - i).toNat) (fun (i,c,a')=>0≤i∧i≤K∧∃ cn:Nat,c=cn∧cn≤1∧DBI N n i.toNat a a'∧vl (a'.take n)+4294967296 ^ i.toNat*cn=v+vl (a.take i.toNat)+c0) (0,x,a)
  ⟨by omega,by show (0:Int)≤K;omega,c0,hx,hc,⟨hlb,hlen,rfl⟩,by simp[vl,hv]⟩ (.inl ⟨rfl,rfl⟩) ?_
 intro ⟨i,c,a'⟩ hI X' hX
 obtain ⟨hI1,hI2,cn,hcn,hc1,hs,hI3⟩:=hI
 obtain ⟨xx,hxx⟩:∃ x:Int,x=gt tW a' i:=⟨_,rfl⟩
 have hx':xx=a'.getD i.toNat 0:=by rw[hxx,r14];rfl
 have hadd:i<K→ar .add .i64 i 1=i+1:=fun h=>by rw[r1];exact wrap64 (n:=i+1) (by omega) (by omega)
 have hset:∀ z:Int,up tW N a' i z=a'.set i.toNat z:=fun z=>by rw[r15];exact set_up hs.len _ _
 cbv
 try simp only[nc_eq]at *
 rw[e1,hicN,←hxx]
 refine BR.lss r0 (fun hlt=>?_) (fun hge=>?_)
 ·have hin:INB i K:=⟨hI1,hlt⟩
  have hiN:INB i N:=⟨hI1,by omega⟩
  obtain ⟨y,d,q1,q2,q3,q4,q5⟩:=hs.step hn (by omega) hlb hc1
  rw[←hx',←hcn]at q1
  rw[←hx']at q2
  rw[hadd hlt,hset,r1,q1,q2]
  refine ⟨hin,hiN,⟨by decide⟩,⟨by decide⟩,hin,hiN,NEXT.mk (hX (i+1,_,_) _ _ ⟨by omega,by omega,d,rfl,q3,by rw[show (i+1).toNat=i.toNat+1 by omega];exact q4,?_⟩ (by show (K - (i+1)).toNat<(K - i).toNat;omega) (.inl ⟨rfl,rfl⟩))⟩
  rw[show (i+1).toNat=i.toNat+1 by omega,vl_take_succ (by omega)]
  exact dbl_alg q5 hI3
 have hiK:i.toNat=n:=by omega
 rw[hiK,hv]at hI3
 have hdn:=hs.drn (n:=n) (by omega)
 have htl:(a'.take n).length=n:=by rw[List.length_take,hs.len];omega
 have hvl:=vl_lt (hs.lb.take n)
 rw[htl]at hvl
 refine BR.neq r0 (fun h1=>?_) (fun h1=>?_)
 ·have hc1':cn=1:=by omega
  subst hc1'
  rw[Nat.mul_one]at hI3
  have hnl:¬ 2*v+c0<4294967296 ^ n:=by omega
  have z1:n'=n+1:=by rw[hn'];unfold dbN;rw[if_neg hnl]
  have z2:N'=n+1:=by rw[hN'];unfold dbC;rw[if_neg hnl]
  have hc':c=1:=by omega
  have z3:L=a'.take n ++ [c]:=by
   have hlb1:LB (a'.take n ++ [1]):=(hs.lb.take n).app (.cons (by decide) (by decide) .nil)
   have h2:=pad_of hlb1
   rw[List.length_append,htl,vl_append,htl,show vl [1]=1 from rfl,Nat.mul_one,hI3]at h2
   rw[hL];unfold dbL;rw[if_neg hnl,hc',←h2,show v+v+c0=2*v+c0 by omega];rfl
  have z4:ad n (ln tW [c])=n+1:=by rw[r8,r12];rfl
  have z5:ap tW (vw tW N a' 0 n) [c]=a'.take n ++ [c]:=by
   rw[r16,r18];unfold vwR;rw[Ty.norm_eq tW hs.len,List.drop_zero]
  rw[z4,z5,←z3]
  subst z1 z2
  refine ⟨⟨hn⟩,⟨by omega,by simp only[maxLen];omega⟩,RET.mk ⟨[none,some 1],[],?_⟩⟩
  rw[SIM_iff];cbv
  try simp[nlLe_self]
 ·have hc0':cn=0:=by omega
  subst hc0'
  rw[Nat.mul_zero,Nat.add_zero]at hI3
  have hnl:2*v+c0<4294967296 ^ n:=by omega
  have z1:n'=n:=by rw[hn'];unfold dbN;rw[if_pos hnl]
  have z2:N'=N:=by rw[hN'];unfold dbC;rw[if_pos hnl]
  have z3:L=a':=by
   have h2:=pad_of (hs.lb.take n)
   rw[htl,hI3]at h2
   rw[hL];unfold dbL;rw[if_pos hnl,show 2*v+c0=v+v+c0 by omega,h2,←hdn,List.take_append_drop]
  subst z1 z2 z3
  refine RET.mk ⟨[none,some 0],[],?_⟩
  rw[SIM_iff];cbv
  try simp[nlLe_self]
theorem dbN_len {n v c:Nat} (hn:n=(lm v).length) (hc:c≤1):dbN n (2*v+c)=(lm (2*v+c)).length:=by
 have h1:v<4294967296 ^ n:=(lm_len v n).1 (by omega)
 have h2:=lm_len (2*v+c) n
 have h3:=lm_len (2*v+c) (n+1)
 have h5:2*v+c<4294967296 ^ (n+1):=by rw[Nat.pow_succ];omega
 have h6:=h3.2 h5
 unfold dbN
 by_cases h:2*v+c<4294967296 ^ n
 ·rw[if_pos h]
  have h7:=h2.2 h
  rcases Nat.lt_or_ge (lm (2*v+c)).length n with h8 | h8
  ·have h9:=(lm_len (2*v+c) (n - 1)).1 (by omega)
   have h10:=(lm_len v (n - 1)).2 (by omega)
   omega
  ·omega
 ·rw[if_neg h]
  rcases Nat.lt_or_ge n (lm (2*v+c)).length with h8 | h8
  ·omega
  ·exact absurd (h2.1 h8) h
theorem dbl_num {N n:Nat} {a:List Int} {v c:Nat} (h:DBP N n a v) (hc:c≤1):NUM (dbC N n (2*v+c)) (dbN n (2*v+c)) (dbL n (2*v+c) a) (2*v+c):=by
 have h1:=vl_lt (h.num.lb.take n)
 rw[h.num.v,List.length_take,h.num.len,Nat.min_eq_left h.num.le]at h1
 unfold dbC dbN dbL
 by_cases hw:2*v+c<4294967296 ^ n
 ·simp only[if_pos hw];exact h.num.pad hw
 ·simp only[if_neg hw]
  have h2:2*v+c<4294967296 ^ (n+1):=by rw[Nat.pow_succ];omega
  refine ⟨pad_len _ _,Nat.le_refl _,by have:=h.n5;omega,pad_lb _ _,?_⟩
  rw[List.take_of_length_le (by rw[pad_len];exact Nat.le_refl _),pad_vl h2]
theorem cDbl0  : FnS Tryz.prog 114 ([.tl (some true) tW [],injT tW 0]) (⟨[],[]⟩ ) fun x_ s_=>x_=(.tl (some true) tW [])∧s_=(⟨[],[]⟩):=by
 refine FnS.of (S:=[]) (T:=[]) (U:=[]) (tbl:=[]) (n:=31) hm31 cfg .nil .nil .nil .nil 0 Tryz.call114 Tryz.func114 (ac114_ok (some (0,0))) (by rw[Tryz.ntmps114];exact Nat.le_refl _) rfl _ _ _ (by rfl) ?_
 intro cmp ar cv tn ic ai mx an ad ml sb mn ln em gt up ap sc vw cp rp p1 p2 s1 s2 X Y hX hY r0 r1 r2 r3 r4 r5 r6 r7 r8 r9 r10 r11 r12 r13 r14 r15 r16 r17 r18 r19 r20 r21 r22 r23 r24
 cbv
 rw[show ic (ln tW [])=0 by rw[r4,r12];rfl]
 refine LOOP.ind (σ:=Unit) (fun _=>[(0,.tl (some true) tW []),(1,.p (uw 0)),(7,.tl (some true) tW []),(8,.p (iv 0)),(9,.p (iv 0))]) (fun _=>⟨[],[]⟩) (fun _=>0) (fun _=>True) () trivial (.inl ⟨rfl,rfl⟩) ?_
 intro _ _ X' hX
 cbv
 refine BR.lss r0 (fun h=>absurd h (by decide)) (fun _=>?_)
 refine BR.neq r0 (fun h=>absurd rfl h) (fun _=>?_)
 refine RET.mk ⟨[],[],?_⟩
 rw[SIM_iff];cbv;simp[nlLe_self]
theorem cDbl1  : FnS Tryz.prog 114 ([.tl (some true) tW [],injT tW 1]) (⟨[],[]⟩ ) fun x_ s_=>x_=(.ms 0 0 1 none 1)∧s_=(⟨[bxW 1 true [1]],[]⟩):=by
 refine FnS.of (S:=[]) (T:=[]) (U:=[]) (tbl:=[]) (n:=31) hm31 cfg .nil .nil .nil .nil 0 Tryz.call114 Tryz.func114 (ac114_ok (some (0,0))) (by rw[Tryz.ntmps114];exact Nat.le_refl _) rfl _ _ _ (by rfl) ?_
 intro cmp ar cv tn ic ai mx an ad ml sb mn ln em gt up ap sc vw cp rp p1 p2 s1 s2 X Y hX hY r0 r1 r2 r3 r4 r5 r6 r7 r8 r9 r10 r11 r12 r13 r14 r15 r16 r17 r18 r19 r20 r21 r22 r23 r24
 cbv
 rw[show ic (ln tW [])=0 by rw[r4,r12];rfl]
 refine LOOP.ind (σ:=Unit) (fun _=>[(0,.tl (some true) tW []),(1,.p (uw 1)),(7,.tl (some true) tW []),(8,.p (iv 0)),(9,.p (iv 0))]) (fun _=>⟨[],[]⟩) (fun _=>0) (fun _=>True) () trivial (.inl ⟨rfl,rfl⟩) ?_
 intro _ _ X' hX
 cbv
 refine BR.lss r0 (fun h=>absurd h (by decide)) (fun _=>?_)
 refine BR.neq r0 (fun _=>?_) (fun h=>absurd (by decide) h)
 rw[show ln tW [1]=1 by rw[r12];rfl]
 refine ⟨⟨by decide⟩,⟨by decide,by decide⟩,RET.mk ⟨[some 0],[],?_⟩⟩
 rw[SIM_iff];cbv
 try simp[nlLe_self]
structure DBK (N n:Nat) (q:Bool) (a:List Int) (x:Int) (f:Nat→Nat→List Int→Prop):Prop where
 pre:DBP N n a (vl (a.take n))
 q:q=true
 x0:0≤x
 x1:x≤1
 h:∀ n' N' L,NUM N' n' L (2*vl (a.take n)+x.toNat)→n'=dbN n (2*vl (a.take n)+x.toNat)→f n' N' L
structure DNK (x:Int) (A B:Prop):Prop where
 p:x=0∨x=1
 a:x=0→A
 b:x=1→B
def spDbl:OpsS→CallS:=fun _ _ ds st K=>match ds with
 | [.ms b 0 1 none n,.p (.v (.int .u32 x))]=>bxAt st b fun N q a=>DBK N n q a x fun n' N' L=>frS [b] [] [.ms 0 0 1 none n,injT tW x] ⟨[bxW N true a],[]⟩ (.ms 1 0 1 none n') ⟨[deadW,bxW N' true L],[]⟩ ds st K
 | [.tl nl t l,.p (.v (.int .u32 x))]=>nl=some true∧t=tW∧l.isEmpty=true∧DNK x (frS [] [] [.tl (some true) tW [],injT tW 0] ⟨[],[]⟩ (.tl (some true) tW []) ⟨[],[]⟩ [.tl (some true) tW [],injT tW 0] st K)
   (frS [] [] [.tl (some true) tW [],injT tW 1] ⟨[],[]⟩ (.ms 0 0 1 none 1) ⟨[bxW 1 true [1]],[]⟩ [.tl (some true) tW [],injT tW 1] st K)
 | _=>False
theorem cDblT:∀ ds st K,spDbl OpsS.real 114 ds st K→FnS Tryz.prog 114 ds st K:=fun ds st K h=>by
 unfold spDbl at h
 split at h <;> first | exact h.elim | skip
 ·obtain ⟨N,q,a,h⟩:=bxAt_ex h
  exact frS_ok (cDblB N _ _ _ a _ _ _ _ (by have:=h.x0;omega) (by have:=h.x1;omega) h.pre rfl rfl rfl) (h.h _ _ _ (dbl_num h.pre (by have:=h.x1;omega)) rfl)
 ·obtain ⟨rfl,rfl,hl,h⟩:=h
  obtain rfl:=List.isEmpty_iff.1 hl
  rcases h.p with hx | hx
  ·have:=h.a hx;subst hx
   exact frS_ok cDbl0 this
  ·have:=h.b hx;subst hx
   exact frS_ok cDbl1 this
end Go.Ab
