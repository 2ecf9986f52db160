/- Greatest common divisors. -/
import Derived.Test.YtlmdgmppeacobaaGreatLi
set_option linter.unusedSimpArgs false
set_option linter.unusedVariables false
set_option maxRecDepth 20000
set_option maxHeartbeats 4000000
namespace Go.Ab
open Go.Proofs
theorem od_odd1 {v:Nat} (h:v≠0):(od v).1 % 2=1:=by
 induction v using Nat.strongRecOn with
 | _ v ih=>
  by_cases h2:v % 2=0
  ·rw[od_even h h2];exact ih (v / 2) (by omega) (by omega)
  ·rw[od_odd h2];show v % 2=1;omega
theorem gcd_two {u v:Nat} (k:Nat) (hv:v % 2=1):Nat.gcd (2 ^ k*u) v=Nat.gcd u v:=by
 refine Nat.Coprime.gcd_mul_left_cancel u ?_
 refine Nat.Coprime.pow_left k ?_
 rw[Nat.Coprime,Nat.gcd_rec,hv];rfl
theorem gcd_od {x y:Nat} (hx:x≠0) (hy:y≠0):Nat.gcd x y=2 ^ min (od x).2 (od y).2*Nat.gcd (od x).1 (od y).1:=by
 have h1:=od_pow x
 have h2:=od_pow y
 have o1:=od_odd1 hx
 have o2:=od_odd1 hy
 obtain ⟨X,hX⟩:∃ X,X=(od x).1:=⟨_,rfl⟩
 obtain ⟨Y,hY⟩:∃ Y,Y=(od y).1:=⟨_,rfl⟩
 obtain ⟨i,hi⟩:∃ i,i=(od x).2:=⟨_,rfl⟩
 obtain ⟨j,hj⟩:∃ j,j=(od y).2:=⟨_,rfl⟩
 rw[←hX,←hi]at h1;rw[←hY,←hj]at h2;rw[←hX]at o1;rw[←hY]at o2
 rw[←hX,←hi,←hY,←hj,h1,h2]
 rcases Nat.le_total i j with h | h
 ·rw[Nat.min_eq_left h]
  have e:2 ^ j*Y=2 ^ i*(2 ^ (j - i)*Y):=by rw[←Nat.mul_assoc,←Nat.pow_add,show i+(j - i)=j by omega]
  rw[e,Nat.gcd_mul_left,Nat.gcd_comm X,gcd_two _ o1,Nat.gcd_comm]
 ·rw[Nat.min_eq_right h]
  have e:2 ^ i*X=2 ^ j*(2 ^ (i - j)*X):=by rw[←Nat.mul_assoc,←Nat.pow_add,show j+(i - j)=i by omega]
  rw[e,Nat.gcd_mul_left,gcd_two _ o2]
theorem gcd_sub {u v:Nat} (h:v≤u) (hv:v % 2=1):Nat.gcd (od (u - v)).1 v=Nat.gcd u v:=by
 have h1:=od_pow (u - v)
 have h2:Nat.gcd (u - v) v=Nat.gcd u v:=Nat.gcd_sub_self_left h
 rw[←h2]
 conv=>rhs;rw[h1]
 rw[gcd_two _ hv]
theorem vwR_num {N n:Nat} {A:List Int} {v:Nat} (h:NUM N n A v) (hn:n=(lm v).length):vwR tW N A 0 n=lm v:=by
 unfold vwR
 rw[Ty.norm_eq tW h.len,List.drop_zero];exact (h.trim hn).2.1
theorem lm_mono {u v:Nat} (h:u≤v):(lm u).length≤(lm v).length:=(lm_len u _).2 (Nat.lt_of_le_of_lt h ((lm_len v _).1 (Nat.le_refl _)))
structure GCP (a b:List Int):Prop where
 pa:NM a
 pb:NM b
 na:a≠[]
 nb:b≠[]
def gcdL (a b:List Int):List Int:=lm (Nat.gcd (vl a) (vl b))
theorem cBGCD (na:Option Bool) (a:List Int) (nb:Option Bool) (b:List Int) (h:GCP a b):PurS Tryz.prog 86 [injT tN (na,a),injT tN (nb,b)] (.tup [.tl none tW (gcdL a b),.p (iv 0)]):=by
 refine PurS.of (S:=[(109,_),(112,_)]) (T:=[(110,_),(111,_),(113,_),(114,_)]) (U:=[]) (tbl:=[]) (n:=63) hm31 cfg (.cons (spT2.ok (a:=(.sl (.int .u32))) (b:=(.sl (.int .u32))) fun x0 x1 h=>cBChk2 x0.1 x0.2 x1.1 x1.2 h) (.cons (spT2.ok (a:=(.sl (.int .u32))) (b:=(.sl (.int .u32))) fun x0 x1 h=>cOrder x0.1 x0.2 x1.1 x1.2 h) .nil)) (.cons cClnT (.cons cHlvT (.cons cSubtractT (.cons cDblT .nil)))) .nil .nil 0 Tryz.call86 Tryz.func86 (ac86_ok (some (0,0))) (by rw[Tryz.ntmps86];exact Nat.le_refl _) rfl ⟨_,rfl⟩ ?_
 intro cmp ar cv tn ic ai mx an ad ml sb mn ln em gt up ap sc vw cp rp p1 p2 s1 s2 X Y hX hY r0 r1 r2 r3 r4 r5 r6 r7 r8 r9 r10 r11 r12 r13 r14 r15 r16 r17 r18 r19 r20 r21 r22 r23 r24
 generalize hg0:bchk2=g0
 generalize hg1:ordL=g1
 generalize hg2:gcdL=g2
 cbv
 have hla:=h.pa.len
 have hlb:=h.pb.len
 have hg0':g0 a b=0:=by rw[←hg0];exact NM.chk2 h.pa h.pb
 have hca:ic (ln tW a)=(a.length:Int):=by rw[r4,r12]
 have hcb:ic (ln tW b)=(b.length:Int):=by rw[r4,r12]
 have hna:0<a.length:=List.length_pos_iff.2 h.na
 have hnb:0<b.length:=List.length_pos_iff.2 h.nb
 refine ⟨⟨h.pa.sh,h.pb.sh⟩,BR.neq r0 (fun h1=>absurd hg0' h1) (fun _=>CLK.mk (.inr h.na) (by omega) ?_)⟩
 intro n hn
 cbv
 try simp only[nc_eq]at *
 refine ⟨⟨⟨nlLe_self.2 trivial,trivial⟩,trivial⟩,CLK.mk (.inr h.nb) (by omega) ?_⟩
 intro m hm
 cbv
 try simp only[nc_eq]at *
 have hav:vl (a.take n)=vl a:=by rw[List.take_of_length_le (by omega)]
 have hbv:vl (b.take m)=vl b:=by rw[List.take_of_length_le (by omega)]
 have han:n=(lm (vl a)).length:=by rw[h.pa.cn.eq,hn]
 have hbm:m=(lm (vl b)).length:=by rw[h.pb.cn.eq,hm]
 have hav0:vl a≠0:=fun h0=>h.na (by rw[←h.pa.cn.eq,h0,lm_zero])
 have hbv0:vl b≠0:=fun h0=>h.nb (by rw[←h.pb.cn.eq,h0,lm_zero])
 have ha1:NUM n n a (vl a):=⟨hn.symm,Nat.le_refl _,by omega,h.pa.cn.lb,hav⟩
 have hb1:NUM m m b (vl b):=⟨hm.symm,Nat.le_refl _,by omega,h.pb.cn.lb,hbv⟩
 obtain ⟨x,hx⟩:∃ x,x=vl a:=⟨_,rfl⟩
 obtain ⟨y,hy⟩:∃ y,y=vl b:=⟨_,rfl⟩
 rw[←hx]at ha1 han hav0 hav
 rw[←hy]at hb1 hbm hbv0 hbv
 obtain ⟨ka,hka⟩:∃ k:Nat,k=(od x).2:=⟨_,rfl⟩
 obtain ⟨kb,hkb⟩:∃ k:Nat,k=(od y).2:=⟨_,rfl⟩
 obtain ⟨p,hp⟩:∃ p:Int,p=ka:=⟨_,rfl⟩
 obtain ⟨r,hr⟩:∃ r:Int,r=kb:=⟨_,rfl⟩
 have hic0:∀ k:Nat,0<k→¬ ic k=0:=fun k h=>by rw[r4];exact fun h0=>by have:(k:Int)=0:=h0;omega
 have hn0:0<n:=by omega
 have hm0:0<m:=by omega
 refine ⟨⟨⟨nlLe_self.2 trivial,trivial⟩,trivial⟩,BR.eql r0 (fun h0=>absurd h0 (hic0 _ hn0)) (fun _=>BR.eql r0 (fun h0=>absurd h0 (hic0 _ hm0)) (fun _=>HVK.mk ⟨by rw[hav];exact ha1,by rw[hav];exact han⟩ ?_))⟩
 intro n1 A1 hA1 hn1
 rw[hav]at hA1 hn1 ⊢
 rw[←hka,←hp]
 cbv
 try simp only[nc_eq]at *
 refine HVK.mk ⟨by rw[hbv];exact hb1,by rw[hbv];exact hbm⟩ ?_
 intro m1 B1 hB1 hm1
 rw[hbv]at hB1 hm1 ⊢
 rw[←hkb,←hr]
 cbv
 try simp only[nc_eq]at *
 refine LOOP.ind (σ:=(Nat×Nat×Nat×List Int)×(Nat×Nat×Nat×List Int)) (fun ((n,N,u,A),(m,M,v,B))=>[(0,.ms 0 0 1 none n),(1,.ms 1 0 1 none m),(7,.p (iv p)),(8,.p (iv r))])
  (fun ((n,N,u,A),(m,M,v,B))=>⟨[bxW N true A,bxW M true B],[]⟩)
  (fun ((n,N,u,A),(m,M,v,B))=>u+v) (fun ((n,N,u,A),(m,M,v,B))=>NUM N n A u∧n=(lm u).length∧NUM M m B v∧m=(lm v).length∧u % 2=1∧v % 2=1∧N≤512∧M≤512∧Nat.gcd u v=Nat.gcd (od x).1 (od y).1)
  ((n1,n,(od x).1,A1),(m1,m,(od y).1,B1)) ⟨hA1,hn1,hB1,hm1,od_odd1 hav0,od_odd1 hbv0,by omega,by omega,rfl⟩ (.inl ⟨rfl,rfl⟩) ?_
 intro ⟨⟨n2,N2,u,A2⟩,⟨m2,M2,v,B2⟩⟩ ⟨i1,i2,i3,i4,i5,i6,i7,i8,i9⟩ X' hX'
 cbv
 try simp only[nc_eq]at *
 have v1:vw tW N2 A2 0 n2=lm u:=by rw[r18];exact vwR_num i1 i2
 have v2:vw tW M2 B2 0 m2=lm v:=by rw[r18];exact vwR_num i3 i4
 have a1:ad 0 n2=n2:=by rw[r8];exact Nat.zero_add _
 have a2:ad 0 m2=m2:=by rw[r8];exact Nat.zero_add _
 have hg:g1 (lm u) (lm v)=cmpN u v:=by rw[←hg1];unfold ordL;rw[vl_lm,vl_lm]
 have l1:=i1.le
 have l2:=i3.le
 have hcn:CN2 (lm u) (lm v):=⟨CN_lm u,CN_lm v,by omega,by omega⟩
 rw[v1,v2,a1,a2]
 obtain ⟨U,hU⟩:∃ U,U=lm u:=⟨_,rfl⟩
 obtain ⟨V,hV⟩:∃ V,V=lm v:=⟨_,rfl⟩
 rw[←hU,←hV]at hg hcn ⊢
 refine ⟨⟨⟨l1⟩,⟨l2⟩,trivial⟩,hcn,BR.eql r0 (fun h1=>?_) (fun h1=>BR.eql r0 (fun h2=>?_) (fun h2=>?_))⟩
 ·have huv:u=v:=by
   rcases Nat.lt_trichotomy u v with h3 | h3 | h3
   ·rw[hg,cmpN_lt h3]at h1;exact absurd h1 (by decide)
   ·exact h3
   ·rw[hg,cmpN_gt h3]at h1;exact absurd h1 (by decide)
  have hG:Nat.gcd x y=2 ^ min ka kb*u:=by
   rw[gcd_od hav0 hbv0,←hka,←hkb,←i9,←huv,Nat.gcd_self]
  obtain ⟨G,hGd⟩:∃ G,G=Nat.gcd x y:=⟨_,rfl⟩
  have hGx:G≤x:=by rw[hGd];exact Nat.gcd_le_left _ (by omega)
  have hGl:(lm G).length≤512:=by have:=lm_mono hGx;omega
  obtain ⟨T,hT⟩:∃ T:Nat,T=min ka kb:=⟨_,rfl⟩
  have hmx:mx false p r=T:=by rw[r6,hp,hr,hT];unfold mxR;simp only[Bool.false_eq_true,if_false];split <;> omega
  rw[←hGd,←hT]at hG
  rw[hmx]
  refine LOOP.ind (σ:=Nat×Nat×Nat×List Int) (fun (i,n,N,A)=>[(0,.ms 0 0 1 none n),(56,.p (iv T)),(57,.p (iv i))])
   (fun (i,n,N,A)=>⟨[bxW N true A,bxW M2 true B2],[]⟩)
   (fun (i,n,N,A)=>T - i) (fun (i,n,N,A)=>i≤T∧NUM N n A (2 ^ i*u)∧n=(lm (2 ^ i*u)).length)
   (0,n2,N2,A2) ⟨Nat.zero_le _,by rw[Nat.pow_zero,Nat.one_mul];exact i1,by rw[Nat.pow_zero,Nat.one_mul];exact i2⟩ (.inl ⟨rfl,rfl⟩) ?_
  intro ⟨i,n3,N3,A3⟩ ⟨k1,k2,k3⟩ Y hY
  cbv
  try simp only[nc_eq]at *
  have hT5:T≤16384:=by
   have h3:=od_le (v:=x) (n:=n) ((lm_len x n).1 (by omega))
   have h4:T≤ka:=by rw[hT];exact Nat.min_le_left _ _
   omega
  have hle3:2 ^ i*u≤G:=by rw[hG];exact Nat.mul_le_mul_right u (Nat.pow_le_pow_right (by decide) k1)
  have hl3:=lm_mono hle3
  have w1:=k2.v
  have q1:=k2.le
  refine BR.lss r0 (fun h3=>?_) (fun h3=>?_)
  ·have h3':i<T:=Int.ofNat_lt.1 h3
   refine DBK.mk ⟨by rw[w1];exact k2,by omega⟩ rfl (by decide) (by decide) ?_
   intro n' N' L hL hn'
   rw[w1,show 2*(2 ^ i*u)+(0:Int).toNat=2*(2 ^ i*u)+0 from rfl]at hL hn'
   have hn'':=dbN_len (c:=0) k3 (by decide)
   rw[←hn',Nat.add_zero]at hn''
   rw[Nat.add_zero]at hL
   have hpw:2*(2 ^ i*u)=2 ^ (i+1)*u:=by rw[Nat.pow_succ,Nat.mul_comm (2 ^ i) 2,Nat.mul_assoc]
   rw[hpw]at hL hn''
   have hai:ar .add .i64 (Int.ofNat i) 1=Int.ofNat (i+1):=by rw[r1];exact wrap64 (n:=(i:Int)+1) (by omega) (by omega)
   clear hn'
   cbv
   try simp only[nc_eq]at *
   rw[hai]
   exact NEXT.mk (hY (i+1,n',N',L) _ _ ⟨by show i+1≤T;omega,hL,hn''⟩ (by show T - (i+1)<T - i;omega) (.inr ⟨[some 2,some 1],[],by rw[SIM_iff];cbv⟩))
  ·have h3':¬ i<T:=fun h4=>h3 (Int.ofNat_lt.2 h4)
   obtain rfl:i=T:=by omega
   have v3:vw tW N3 A3 0 n3=lm (2 ^ i*u):=by rw[r18];exact vwR_num k2 k3
   have a3:ad 0 n3=n3:=by rw[r8];exact Nat.zero_add _
   rw[v3,a3]
   exact ⟨⟨⟨q1⟩,trivial⟩,⟨nlLe_none.2 trivial,by rw[←hg2];unfold gcdL;rw[←hx,←hy,←hGd,hG]⟩,trivial⟩
 ·have huv:u<v:=cmpN_neg.1 (by rw[←hg,h2];decide)
  have hlm:=lm_mono (Nat.le_of_lt huv)
  have hAv:=i1.v
  have hBv:=i3.v
  refine ⟨⟨l1,i1.len,i1.big⟩,SBK.mk (by rw[hBv];exact i3) i1.lb (by omega) (by rw[hAv,hBv];omega) ?_⟩
  intro n3 L hL hn3
  rw[hAv,hBv]at hL hn3
  obtain ⟨t1,t2,t3⟩:=hL.trim hn3
  have t4:=t1.v
  cbv
  try simp only[nc_eq]at *
  refine HVK.mk ⟨by rw[t4];exact t1,by rw[t4];exact hn3⟩ ?_
  intro n4 L2 hL2 hn4
  rw[t4]at hL2 hn4 ⊢
  have hodd:=od_odd1 (v:=v - u) (by omega)
  have hle:=od_le1 (v - u)
  have hgs:=gcd_sub (Nat.le_of_lt huv) i5
  obtain ⟨w,hw⟩:∃ w,w=(od (v - u)).1:=⟨_,rfl⟩
  obtain ⟨c,hc⟩:∃ c:Int,c=((od (v - u)).2:Nat):=⟨_,rfl⟩
  rw[←hw]at hL2 hn4 hodd hle hgs
  rw[←hc]
  cbv
  try simp only[nc_eq]at *
  exact NEXT.mk (hX' ((n4,M2,w,L2),(n2,N2,u,A2)) _ _ ⟨hL2,hn4,i1,i2,hodd,i5,i8,i7,by show Nat.gcd w u=_;rw[hgs,Nat.gcd_comm,i9]⟩ (by show w+u<u+v;omega) (.inr ⟨[some 1,some 0],[],by rw[SIM_iff];cbv⟩))
 ·have huv:v<u:=by
   rcases Nat.lt_trichotomy u v with h3 | h3 | h3
   ·exact absurd (by rw[hg];exact cmpN_lt h3) h2
   ·exact absurd (by rw[hg,h3];exact cmpN_eq v) h1
   ·exact h3
  have hlm:=lm_mono (Nat.le_of_lt huv)
  have hAv:=i1.v
  have hBv:=i3.v
  refine ⟨⟨l2,i3.len,i3.big⟩,SBK.mk (by rw[hAv];exact i1) i3.lb (by omega) (by rw[hAv,hBv];omega) ?_⟩
  intro n3 L hL hn3
  rw[hAv,hBv]at hL hn3
  obtain ⟨t1,t2,t3⟩:=hL.trim hn3
  have t4:=t1.v
  cbv
  try simp only[nc_eq]at *
  refine HVK.mk ⟨by rw[t4];exact t1,by rw[t4];exact hn3⟩ ?_
  intro n4 L2 hL2 hn4
  rw[t4]at hL2 hn4 ⊢
  have hodd:=od_odd1 (v:=u - v) (by omega)
  have hle:=od_le1 (u - v)
  have hgs:=gcd_sub (Nat.le_of_lt huv) i6
  obtain ⟨w,hw⟩:∃ w,w=(od (u - v)).1:=⟨_,rfl⟩
  obtain ⟨c,hc⟩:∃ c:Int,c=((od (u - v)).2:Nat):=⟨_,rfl⟩
  rw[←hw]at hL2 hn4 hodd hle hgs
  rw[←hc]
  cbv
  try simp only[nc_eq]at *
  exact NEXT.mk (hX' ((n4,N2,w,L2),(m2,M2,v,B2)) _ _ ⟨hL2,hn4,i3,i4,hodd,i6,i7,i8,by show Nat.gcd w v=_;rw[hgs];exact i9⟩ (by show w+v<u+v;omega) (.inl ⟨rfl,rfl⟩))
end Go.Ab
