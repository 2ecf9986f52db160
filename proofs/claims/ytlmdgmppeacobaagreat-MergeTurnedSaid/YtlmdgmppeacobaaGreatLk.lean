/- Greatest common divisors. -/
import Derived.Test.YtlmdgmppeacobaaGreatLi
set_option linter.unusedSimpArgs false
set_option linter.unusedVariables false
set_option maxRecDepth 20000
set_option maxHeartbeats 4000000
namespace Go.Ab
open Go.Proofs
theorem od_odd1 {v:Nat} (h:v≠0):(od v).1 % 2=1:=by
 induction v using Nat.strongRecOn with
 | _ v ih=>
  by_cases h2:v % 2=0
  ·rw[od_even h h2];exact ih (v / 2) (by omega) (by omega)
  ·rw[od_odd h2];show v % 2=1;omega
theorem gcd_two {u v:Nat} (k:Nat) (hv:v % 2=1):Nat.gcd (2 ^ k*u) v=Nat.gcd u v:=by
 refine Nat.Coprime.gcd_mul_left_cancel u ?_
 refine Nat.Coprime.pow_left k ?_
 rw[Nat.Coprime,Nat.gcd_rec,hv];rfl
theorem gcd_od {x y:Nat} (hx:x≠0) (hy:y≠0):Nat.gcd x y=2 ^ min (od x).2 (od y).2*Nat.gcd (od x).1 (od y).1:=by
 have h1:=od_pow x
 have h2:=od_pow y
 have o1:=od_odd1 hx
 have o2:=od_odd1 hy
 obtain ⟨X,hX⟩:∃ X,X=(od x).1:=⟨_,rfl⟩
 obtain ⟨Y,hY⟩:∃ Y,Y=(od y).1:=⟨_,rfl⟩
 obtain ⟨i,hi⟩:∃ i,i=(od x).2:=⟨_,rfl⟩
 obtain ⟨j,hj⟩:∃ j,j=(od y).2:=⟨_,rfl⟩
 rw[←hX,←hi]at h1;rw[←hY,←hj]at h2;rw[←hX]at o1;rw[←hY]at o2
 rw[←hX,←hi,←hY,←hj,h1,h2]
 rcases Nat.le_total i j with h | h
 ·rw[Nat.min_eq_left h]
  have e:2 ^ j*Y=2 ^ i*(2 ^ (j - i)*Y):=by rw[←Nat.mul_assoc,←Nat.pow_add,show i+(j - i)=j by omega]
  rw[e,Nat.gcd_mul_left,Nat.gcd_comm X,gcd_two _ o1,Nat.gcd_comm]
 ·rw[Nat.min_eq_right h]
  have e:2 ^ i*X=2 ^ j*(2 ^ (i - j)*X):=by rw[←Nat.mul_assoc,←Nat.pow_add,show j+(i - j)=i by omega]
  rw[e,Nat.gcd_mul_left,gcd_two _ o2]
theorem gcd_sub {u v:Nat} (h:v≤u) (hv:v % 2=1):Nat.gcd (od (u - v)).1 v=Nat.gcd u v:=by
 have h1:=od_pow (u - v)
 have h2:Nat.gcd (u - v) v=Nat.gcd u v:=Nat.gcd_sub_self_left h
 rw[←h2]
 conv=>rhs;rw[h1]
 rw[gcd_two _ hv]
theorem vwR_num {N n:Nat} {A:List Int} {v:Nat} (h:NUM N n A v) (hn:n=(lm v).length):vwR tW N A 0 n=lm v:=by
 unfold vwR
 rw[Ty.norm_eq tW h.len,List.drop_zero];exact (h.trim hn).2.1
theorem lm_mono {u v:Nat} (h:u≤v):(lm u).length≤(lm v).length:=(lm_len u _).2 (Nat.lt_of_le_of_lt h ((lm_len v _).1 (Nat.le_refl _)))
structure GCP (a b:List Int):Prop where
 pa:NM a
 pb:NM b
 na:a≠[]
 nb:b≠[]
def gcdL (a b:List Int):List Int:=lm (Nat.gcd (vl a) (vl b))
theorem cBGCD (na:Option Bool) (a:List Int) (nb:Option Bool) (b:List Int) (h:GCP a b):PurS Tryz.prog 86 [injT tN (na,a),injT tN (nb,b)] (.tup [.tl none tW (gcdL a b),.p (iv 0)]):=by
 refine PurS.of (S:=[(109,_),(112,_)]) (T:=[(110,_),(111,_),(113,_),(114,_)]) (U:=[]) (tbl:=[]) (n:=63) hm31 cfg (.cons (spT2.ok (a:=(.sl (.int .u32))) (b:=(.sl (.int .u32))) fun x0 x1 h=>cBChk2 x0.1 x0.2 x1.1 x1.2 h) (.cons (spT2.ok (a:=(.sl (.int .u32))) (b:=(.sl (.int .u32))) fun x0 x1 h=>cOrder x0.1 x0.2 x1.1 x1.2 h) .nil)) (.cons cClnT (.cons cHlvT (.cons cSubtractT (.cons cDblT .nil)))) .nil .nil 0 Tryz.call86 Tryz.func86 (ac86_ok (some (0,0))) (by rw[Tryz.ntmps86];exact Nat.le_refl _) rfl ⟨_,rfl⟩ ?_
 intro cmp ar cv tn ic ai mx an ad ml sb mn ln em gt up ap sc vw cp rp p1 p2 s1 s2 X Y hX hY r0 r1 r2 r3 r4 r5 r6 r7 r8 r9 r10 r11 r12 r13 r14 r15 r16 r17 r18 r19 r20 r21 r22 r23 r24
 generalize hg0:bchk2=g0
 generalize hg1:ordL=g1
 generalize hg2:gcdL=g2
 cbv
 have hla:=h.pa.len
 have hlb:=h.pb.len
 have hg0':g0 a b=0:=by rw[←hg0];exact NM.chk2 h.pa h.pb
 have hca:ic (ln tW a)=(a.length:Int):=by rw[r4,r12]
 have hcb:ic (ln tW b)=(b.length:Int):=by rw[r4,r12]
 have hna:0<a.length:=List.length_pos_iff.2 h.na
 have hnb:0<b.length:=List.length_pos_iff.2 h.nb
 refine ⟨⟨h.pa.sh,h.pb.sh⟩,BR.neq r0 (fun h1=>absurd hg0' h1) (fun _=>CLK.mk (.inr h.na) (by omega) ?_)⟩
 intro n hn
 cbv
 try simp only[nc_eq]at *
 refine ⟨⟨⟨nlLe_self.2 trivial,trivial⟩,trivial⟩,CLK.mk (.inr h.nb) (by omega) ?_⟩
 intro m hm
 cbv
 try simp only[nc_eq]at *
 have hav:vl (a.take n)=vl a:=by rw[List.take_of_length_le (by omega)]
 have hbv:vl (b.take m)=vl b:=by rw[List.take_of_length_le (by omega)]
 have han:n=(lm (vl a)).length:=by rw[h.pa.cn.eq,hn]
 have hbm:m=(lm (vl b)).length:=by rw[h.pb.cn.eq,hm]
 have hav0:vl a≠0:=fun h0=>h.na (by rw[←h.pa.cn.eq,h0,lm_zero])
 have hbv0:vl b≠0:=fun h0=>h.nb (by rw[←h.pb.cn.eq,h0,lm_zero])
 have ha1:NUM n n a (vl a):=⟨hn.symm,Nat.le_refl _,by omega,h.pa.cn.lb,hav⟩
 have hb1:NUM m m b (vl b):=⟨hm.symm,Nat.le_refl _,by omega,h.pb.cn.lb,hbv⟩
 obtain ⟨x,hx⟩:∃ x,x=vl a:=⟨_,rfl⟩
 obtain ⟨y,hy⟩:∃ y,y=vl b:=⟨_,rfl⟩
 rw[←hx]at ha1 han hav0 hav
 rw[←hy]at hb1 hbm hbv0 hbv
 obtain ⟨ka,hka⟩:∃ k:Nat,k=(od x).2:=⟨_,rfl⟩
 obtain ⟨kb,hkb⟩:∃ k:Nat,k=(od y).2:=⟨_,rfl⟩
 obtain ⟨p,hp⟩:∃ p:Int,p=ka:=⟨_,rfl⟩
 obtain ⟨r,hr⟩:∃ r:Int,r=kb:=⟨_,rfl⟩
 have hic0:∀ k:Nat,0<k→¬ ic k=0:=fun k h=>by rw[r4];exact fun h0=>by have:(k:Int)=0:=h0;omega
 have hn0:0<n:=by omega
 have hm0:0<m:=by omega
 refine ⟨⟨⟨nlLe_self.2 trivial,trivial⟩,trivial⟩,BR.eql r0 (fun h0=>absurd h0 (hic0 _ hn0)) (fun _=>BR.eql r0 (fun h0=>absurd h0 (hic0 _ hm0)) (fun _=>HVK.mk ⟨by rw[hav];exact ha1,by rw[hav];exact han⟩ ?_))⟩
 intro n1 A1 hA1 hn1
 rw[hav]at hA1 hn1 ⊢
 rw[←hka,←hp]
 cbv
 try simp only[nc_eq]at *
 refine HVK.mk ⟨by rw[hbv];exact hb1,by rw[hbv];exact hbm⟩ ?_
 intro m1 B1 hB1 hm1
 rw[hbv]at hB1 hm1 ⊢
 rw[←hkb,←hr]
 cbv
 try simp only[nc_eq]at *
 refine LOOP.ind (σ:=(Nat×Nat×Nat×List Int)×(Nat×Nat×Nat×List Int)) (fun ((n,N,u,A),(m,M,v,B))=>[(0,.ms 0 0 1 none n),(1,.ms 1 0 1 none m),(7,.p (iv p)),(8,.p (iv r))])
  (fun ((n,N,u,A),(m,M,v,B))=>⟨[bxW N true A,bxW M true B],[]⟩)
  (fun ((n,N,u,A),(m,M,v,B))=>u+v) (fun ((n,N,u,A),(m,M,v,B))=>NUM N n A u∧n=(lm u).length∧NUM M m B v∧m=(lm v).length∧u % 2=1∧v % 2=1∧N≤512∧M≤512∧Nat.gcd u v=Nat.gcd (od x).1 (od y).1)
  ((n1,n,(od x).1,A1),(m1,m,(od y).1,B1)) ⟨hA1,hn1,hB1,hm1,od_odd1 hav0,od_odd1 hbv0,by omega,by omega,rfl⟩ (.inl ⟨rfl,rfl⟩) ?_
 intro ⟨⟨n2,N2,u,A2⟩,⟨m2,M2,v,B2⟩⟩ ⟨i1,i2,i3,i4,i5,i6,i7,i8,i9⟩ X' hX'
 cbv
 try simp only[nc_eq]at *
 have v1:vw tW N2 A2 0 n2=lm u:=by rw[r18];exact vwR_num i1 i2
 have v2:vw tW M2 B2 0 m2=lm v:=by rw[r18];exact vwR_num i3 i4
 have a1:ad 0 n2=n2:=by rw[r8];exact Nat.zero_add _
 have a2:ad 0 m2=m2:=by rw[r8];exact Nat.zero_add _
 have hg:g1 (lm u) (lm v)=cmpN u v:=by rw[←hg1];unfold ordL;rw[vl_lm,vl_lm]
 have l1:=i1.le
 have l2:=i3.le
 have hcn:CN2 (lm u) (lm v):=⟨CN_lm u,CN_lm v,by omega,by omega⟩
 rw[v1,v2,a1,a2]
 obtain ⟨U,hU⟩:∃ U,U=lm u:=⟨_,rfl⟩
 obtain ⟨V,hV⟩:∃ V,V=lm v:=⟨_,rfl⟩
 rw[←hU,←hV]at hg hcn ⊢
 refine ⟨⟨⟨l1⟩,⟨l2⟩,trivial⟩,hcn,BR.eql r0 (fun h1=>?_) (fun h1=>BR.eql r0 (fun h2=>?_) (fun h2=>?_))⟩
 ·have huv:u=v:=by
   rcases Nat.lt_trichotomy u v with h3 | h3 | h3
   ·rw[hg,cmpN_lt h3]at h1;exact absurd h1 (by decide)
   ·exact h3
   ·rw[hg,cmpN_gt h3]at h1;exact absurd h1 (by decide)
  have hG:Nat.gcd x y=2 ^ min ka kb*u:=by
   rw[gcd_od hav0 hbv0,←hka,←hkb,←i9,←huv,Nat.gcd_self]
  obtain ⟨G,hGd⟩:∃ G,G=Nat.gcd x y:=⟨_,rfl⟩
  have hGx:G≤x:=by rw[hGd];exact Nat.gcd_le_left _ (by omega)
  have hGl:(lm G).length≤512:=by have:=lm_mono hGx;omega
  obtain ⟨T,hT⟩:∃ T:Nat,T=min ka kb:=⟨_,rfl⟩
  have hmx:mx false p r=T:=by rw[r6,hp,hr,hT];unfold mxR;simp only[Bool.false_eq_true,if_false];split <;> omega
  rw[←hGd,←hT]at hG
  rw[hmx]
  refine LOOP.ind (σ:=Nat×Nat×Nat×List Int) (fun (i,n,N,A)=>[(0,.ms 0 0 1 none n),(56,.p (iv T)),(57,.p (iv i))])
   (fun (i,n,N,A)=>⟨[bxW N true A,bxW M2 true B2],[]⟩)
   (fun (i,n,N,A)=>T - i) (fun (i,n,N,A)=>i≤T∧NUM N n A (2 ^ i*u)∧n=(lm (2 ^ i*u)).length)
   (0,n2,N2,A2) ⟨Nat.zero_le _,by rw[Nat.pow_zero,Nat.one_mul];exact i1,by rw[Nat.pow_zero,Nat.one_mul];exact i2⟩ (.inl ⟨rfl,rfl⟩) ?_
  intro ⟨i,n3,N3,A3⟩ ⟨k1,k2,k3⟩ Y hY
  cbv
  try simp only[nc_eq]at *
  have hT5:T≤16384:=by
   have h3:=od_le (v:=x) (n:=n) ((lm_len x n).1 (by omega))
   have h4:T≤ka:=by rw[hT];exact Nat.min_le_left _ _
   omega
  have hle3:2 ^ i*u≤G:=by rw[hG];exact Nat.mul_le_mul_right u (Nat.pow_le_pow_right (by decide) k1)
  have hl3:=lm_mono hle3
  have w1:=k2.v
  have q1:=k2.le
  refine BR.lss r0 (fun h3=>?_) (fun h3=>?_)
  ·have h3':i<T:=Int.ofNat_lt.1 h3
   refine DBK.mk ⟨by rw[w1];exact k2,by omega⟩ rfl (by decide) (by decide) ?_
   intro n' N' L hL hn'
   rw[w1,show 2*(2 ^ i*u)+(0:Int).toNat=2*(2 ^ i*u)+0 from rfl]at hL hn'
   have hn'':=dbN_len (c:=0) k3 (by decide)
   rw[←hn',Nat.add_zero]at hn''
   rw[Nat.add_zero]at hL
   have hpw:2*(2 ^ i*u)=2 ^ (i+1)*u:=by rw[Nat.pow_succ,Nat.mul_comm (2 ^ i) 2,Nat.mul_assoc]
   rw[hpw]at hL hn''
   have hai:ar .add .i64 (Int.ofNat i) 1=Int.ofNat (i+1):=by rw[r1];exact wrap64 (n:=(i:Int)+1) (by omega) (by omega)
   clear hn'
   cbv
   try simp only[nc_eq]at *
   rw[hai]
   exact NEXT.mk (hY (i+1,n',N',L) _ _ ⟨by show i+1≤T;omega,hL,hn''⟩ (by show T - (i+1)<T - i;omega) (.inr ⟨[some 2,some 1],[],by rw[SIM_iff];cbv⟩))
  ·have h3':¬ i<T:=fun h4=>h3 (Int.ofNat_lt.2 h4)
   obtain rfl:i=T:=by omega
   have v3:vw tW N3 A3 0 n3=lm (2 ^ i*u):=by rw[r18];exact vwR_num k2 k3
   have a3:ad 0 n3=n3:=by rw[r8];exact Nat.zero_add _
   rw[v3,a3]
   exact ⟨⟨⟨q1⟩,trivial⟩,⟨nlLe_none.2 trivial,by rw[←hg2];unfold gcdL;rw[←hx,←hy,←hGd,hG]⟩,trivial⟩
 ·have huv:u<v:=cmpN_neg.1 (by rw[←hg,h2];decide)
  have hlm:=lm_mono (Nat.le_of_lt huv)
  have hAv:=i1.v
  have hBv:=i3.v
  refine ⟨⟨l1,i1.len,i1.big⟩,SBK.mk (by rw[hBv];exact i3) i1.lb (by omega) (by rw[hAv,hBv];omega) ?_⟩
  intro n3 L hL hn3
  rw[hAv,hBv]at hL hn3
  obtain ⟨t1,t2,t3⟩:=hL.trim hn3
  have t4:=t1.v
  cbv
  try simp only[nc_eq]at *
  refine HVK.mk ⟨by rw[t4];exact t1,by rw[t4];exact hn3⟩ ?_
  intro n4 L2 hL2 hn4
  rw[t4]at hL2 hn4 ⊢
  have hodd:=od_odd1 (v:=v - u) (by omega)
  have hle:=od_le1 (v - u)
  have hgs:=gcd_sub (Nat.le_of_lt huv) i5
  obtain ⟨w,hw⟩:∃ w,w=(od (v - u)).1:=⟨_,rfl⟩
  obtain ⟨c,hc⟩:∃ c:Int,c=((od (v - u)).2:Nat):=⟨_,rfl⟩
  rw[←hw]at hL2 hn4 hodd hle hgs
  rw[←hc]
  cbv
  try simp only[nc_eq]at *
  exact NEXT.mk (hX' ((n4,M2,w,L2),(n2,N2,u,A2)) _ _ ⟨hL2,hn4,i1,i2,hodd,i5,i8,i7,by show Nat.gcd w u=_;rw[hgs,Nat.gcd_comm,i9]⟩ (by show w+u<u+v;omega) (.inr ⟨[some 1,some 0],[],by rw[SIM_iff];cbv⟩))
 ·have huv:v<u:=by
   rcases Nat.lt_trichotomy u v with h3 | h3 | h3
   ·exact absurd (by rw[hg];exact cmpN_lt h3) h2
   ·exact absurd (by rw[hg,h3];exact cmpN_eq v) h1
   ·exact h3
  have hlm:=lm_mono (Nat.le_of_lt huv)
  have hAv:=i1.v
  have hBv:=i3.v
  refine ⟨⟨l2,i3.len,i3.big⟩,SBK.mk (by rw[hAv];exact i1) i3.lb (by omega) (by rw[hAv,hBv];omega) ?_⟩
  intro n3 L hL hn3
  rw[hAv,hBv]at hL hn3
  obtain ⟨t1,t2,t3⟩:=hL.trim hn3
  have t4:=t1.v
  cbv
  try simp only[nc_eq]at *
  refine HVK.mk ⟨by rw[t4];exact t1,by rw[t4];exact hn3⟩ ?_
  intro n4 L2 hL2 hn4
  rw[t4]at hL2 hn4 ⊢
  have hodd:=od_odd1 (v:=u - v) (by omega)
  have hle:=od_le1 (u - v)
  have hgs:=gcd_sub (Nat.le_of_lt huv) i6
  obtain ⟨w,hw⟩:∃ w,w=(od (u - v)).1:=⟨_,rfl⟩
  obtain ⟨c,hc⟩:∃ c:Int,c=((od (u - v)).2:Nat):=⟨_,rfl⟩
  rw[←hw]at hL2 hn4 hodd hle hgs
  rw[←hc]
  cbv
  try simp only[nc_eq]at *
  exact NEXT.mk (hX' ((n4,N2,w,L2),(m2,M2,v,B2)) _ _ ⟨hL2,hn4,i3,i4,hodd,i6,i7,i8,by show Nat.gcd w v=_;rw[hgs];exact i9⟩ (by show w+v<u+v;omega) (.inl ⟨rfl,rfl⟩))
end Go.Ab
namespace Go.Ab
open Go.Proofs
theorem cBDivMod (na:Option Bool) (a:List Int) (nb:Option Bool) (b:List Int) (h:DVP a b):PurS Tryz.prog 120 [injT tN (na,a),injT tN (nb,b)] (.tup [.tl (some false) tW (quoL a b),.tl none tW (remL a b),.p (iv 0)]):=by
 refine PurS.of (S:=[(109,_),(138,_)]) (T:=[]) (U:=[]) (tbl:=[]) (n:=27) hm31 cfg (.cons (spT2.ok (a:=(.sl (.int .u32))) (b:=(.sl (.int .u32))) fun x0 x1 h=>cBChk2 x0.1 x0.2 x1.1 x1.2 h) (.cons (spT2.ok (a:=(.sl (.int .u32))) (b:=(.sl (.int .u32))) fun x0 x1 h=>cDivide x0.1 x0.2 x1.1 x1.2 h) .nil)) .nil .nil .nil 0 Tryz.call120 Tryz.func120 (ac120_ok (some (0,0))) (by rw[Tryz.ntmps120];exact Nat.le_refl _) rfl ⟨_,rfl⟩ ?_
 intro cmp ar cv tn ic ai mx an ad ml sb mn ln em gt up ap sc vw cp rp p1 p2 s1 s2 X Y hX hY r0 r1 r2 r3 r4 r5 r6 r7 r8 r9 r10 r11 r12 r13 r14 r15 r16 r17 r18 r19 r20 r21 r22 r23 r24
 generalize hg0:bchk2=g0
 generalize hg1:quoL=g1
 generalize hg2:remL=g2
 cbv
 have hg0':g0 a b=0:=by rw[←hg0];exact NM.chk2 h.pa h.pb
 have hnb:0<b.length:=List.length_pos_iff.2 h.ne
 refine ⟨⟨h.pa.sh,h.pb.sh⟩,BR.neq r0 (fun h1=>absurd hg0' h1) (fun _=>BR.eql r0 (fun h0=>?_) (fun _=>⟨h,⟨nlLe_self.2 trivial,rfl⟩,⟨nlLe_none.2 trivial,rfl⟩,trivial⟩))⟩
 rw[r4,r12]at h0
 have h0':(b.length:Int)=0:=h0
 omega
theorem cRCut (nl:Option Bool) (l:List Int) (h:TRP l):PurS Tryz.prog 118 [injT tN (nl,l)] (.tl none tW (trm l)):=by
 refine PurS.of (S:=[]) (T:=[]) (U:=[]) (tbl:=[]) (n:=21) hm31 cfg .nil .nil .nil .nil 0 Tryz.call118 Tryz.func118 (ac118_ok (some (0,0))) (by rw[Tryz.ntmps118];exact Nat.le_refl _) rfl ⟨_,rfl⟩ ?_
 intro cmp ar cv tn ic ai mx an ad ml sb mn ln em gt up ap sc vw cp rp p1 p2 s1 s2 X Y hX hY r0 r1 r2 r3 r4 r5 r6 r7 r8 r9 r10 r11 r12 r13 r14 r15 r16 r17 r18 r19 r20 r21 r22 r23 r24
 generalize hg0:trm=g0
 cbv
 obtain ⟨hlb,hln⟩:=h
 refine LOOP.ind (σ:=List Int) (fun a=>[(0,.tl nl tW a)]) (fun _=>⟨[],[]⟩) (fun a=>a.length) (fun a=>∃ n,n≤l.length∧a=l.take n∧vl a=vl l) l ⟨l.length,Nat.le_refl _,by rw[List.take_length],rfl⟩ (.inl ⟨rfl,rfl⟩) ?_
 intro a hI X' hX
 obtain ⟨n,hn,ha,hv⟩:=hI
 have hal:a.length=n:=by rw[ha,List.length_take];omega
 obtain ⟨N,hN⟩:∃ N:Int,N=n:=⟨_,rfl⟩
 have hla:ic (ln tW a)=N:=by rw[r4,r12,hN,←hal]
 have hsub:0<N→ar .sub .i64 N 1=N - 1:=fun h=>by rw[r1];exact wrap64 (n:=N - 1) (by omega) (by omega)
 obtain ⟨M,hM⟩:∃ M,M=ar .sub .i64 N 1:=⟨_,rfl⟩
 obtain ⟨x,hx⟩:∃ x:Int,x=gt tW a M:=⟨_,rfl⟩
 obtain ⟨b,hb⟩:∃ b,b=sc tW a 0 M:=⟨_,rfl⟩
 have hx':0<N→x=l.getD (n - 1) 0:=fun h=>by
   rw[hx,r14,hM,hsub h,hN]
   show a.getD (n - 1:Int).toNat 0=_
   rw[show ((n:Int) - 1).toNat=n - 1 by omega,ha,List.getD_eq_getElem?_getD,List.getElem?_take,if_pos (by omega),←List.getD_eq_getElem?_getD]
 have hb':0<N→b=l.take (n - 1):=fun h=>by
   rw[hb,r17,hM,hsub h,hN]
   show (a.take ((n:Int) - 1).toNat).drop 0=_
   rw[List.drop_zero,show ((n:Int) - 1).toNat=n - 1 by omega,ha,List.take_take,Nat.min_eq_left (by omega)]
 have hres:(N≤0∨x≠0)→a=g0 l:=fun h=>by
   rw[←hg0,ha]
   exact trim_end hlb hn (ha ▸ hv) (by rcases h with h | h; · left; omega
                                       · by_cases h0:n=0;· exact .inl h0
                                         · right;rw[←hx' (by omega)];exact h)
 rw[←hM]at hsub
 cbv
 try simp only[nc_eq]at *
 rw[hla,←hM,←hx,←hb]
 refine BR.gtr r0 (fun h0=>?_) (fun h0=>⟨nlLe_none.2 trivial,hres (.inl (by omega))⟩)
 have hMN:=hsub h0
 have hi:INB M N:=⟨by omega,by omega⟩
 refine ⟨hi,hi,BR.eql r0 (fun h1=>⟨⟨by omega,by omega,by omega⟩,NEXT.mk (hX b _ _ ⟨n - 1,by omega,hb' h0,?_⟩ ?_ (.inl ⟨rfl,rfl⟩))⟩) (fun h1=>⟨nlLe_none.2 trivial,hres (.inr h1)⟩)⟩
 · have:=trim_step (l:=l) (n:=n - 1) (by omega) (by rw[←hx' h0];exact h1)
   rw[show n - 1+1=n by omega,←ha,hv]at this
   rw[hb' h0];exact this.symm
 · show b.length<a.length
   rw[hb' h0,List.length_take];omega
def limbI (a:List Int) (i:Int):Int:=a.getD i.toNat 0
structure LIP (a:List Int) (i:Int):Prop where
 i0:0≤i
 len:a.length≤1000000
 lb:LB a
theorem cLimb (na:Option Bool) (a:List Int) (i:Int) (h:LIP a i):PurS Tryz.prog 119 [injT tN (na,a),injT tI i] (.p (.v (.int .u64 (limbI a i)))):=by
 refine PurS.of (S:=[]) (T:=[]) (U:=[]) (tbl:=[]) (n:=14) hm31 cfg .nil .nil .nil .nil 0 Tryz.call119 Tryz.func119 (ac119_ok (some (0,0))) (by rw[Tryz.ntmps119];exact Nat.le_refl _) rfl ⟨_,rfl⟩ ?_
 intro cmp ar cv tn ic ai mx an ad ml sb mn ln em gt up ap sc vw cp rp p1 p2 s1 s2 X Y hX hY r0 r1 r2 r3 r4 r5 r6 r7 r8 r9 r10 r11 r12 r13 r14 r15 r16 r17 r18 r19 r20 r21 r22 r23 r24
 generalize hg0:limbI=g0
 cbv
 have h1:=h.i0
 have h2:=h.lb.getD i.toNat
 have hl:ic (ln tW a)=a.length:=by rw[r4,r12]
 obtain ⟨A,hA⟩:∃ A:Int,A=a.length:=⟨_,rfl⟩
 rw[hl,←hA]
 refine BR.lss r0 (fun h3=>⟨⟨h1,h3⟩,⟨h1,h3⟩,?_⟩) (fun h3=>?_)
 ·rw[←hg0,r2,r14];unfold limbI gtR
  show IntKind.wrap .u64 (a.getD i.toNat 0)=_
  exact wrap_u64 (by omega) (by omega)
 ·rw[←hg0];unfold limbI
  rw[List.getD_eq_getElem?_getD,List.getElem?_eq_none (by omega)];rfl
structure SM2 (a b:List Int):Prop where
 la:LB a
 lb:LB b
 na:a.length≤90000
 nb:b.length≤90000
def cmpL (a b:List Int):Int:=cmpN (vl a) (vl b)
theorem vl_drop_any (l:List Int) (i:Nat):vl (l.drop i)=(l.getD i 0).toNat+4294967296*vl (l.drop (i+1)):=by
 rcases Nat.lt_or_ge i l.length with h | h
 ·exact vl_drop_pred h
 ·rw[List.drop_eq_nil_of_le h,List.drop_eq_nil_of_le (by omega),List.getD_eq_getElem?_getD,List.getElem?_eq_none h];rfl
theorem vl_take_any (l:List Int) (i:Nat):vl (l.take (i+1))=vl (l.take i)+4294967296 ^ i*(l.getD i 0).toNat:=by
 rcases Nat.lt_or_ge i l.length with h | h
 ·exact vl_take_succ h
 ·rw[List.take_of_length_le h,List.take_of_length_le (by omega),List.getD_eq_getElem?_getD,List.getElem?_eq_none h];rfl
theorem vl_split_any (l:List Int) (k:Nat):vl l=vl (l.take k)+4294967296 ^ k*vl (l.drop k):=by
 rcases Nat.le_total k l.length with h | h
 ·exact vl_split l k h
 ·rw[List.take_of_length_le h,List.drop_eq_nil_of_le h];rfl
theorem vl_take_lt {l:List Int} (h:LB l) (k:Nat):vl (l.take k)<4294967296 ^ k:=by
 refine Nat.lt_of_lt_of_le (vl_lt (h.take k)) (Nat.pow_le_pow_right (by decide) ?_)
 rw[List.length_take];omega
theorem drop_lt {a b:List Int} {j:Nat} (ha:LB a) (h:vl (a.drop j)<vl (b.drop j)):vl a<vl b:=by
 have h1:=vl_split_any a j
 have h2:=vl_split_any b j
 have h3:=vl_take_lt ha j
 have h4:=Nat.mul_le_mul_left (4294967296 ^ j) (Nat.succ_le_of_lt h)
 rw[Nat.mul_succ]at h4
 omega
structure RSI (a b:List Int) (M:Int) (o:List Int) (c i:Int):Prop where
 i0:0≤i
 i1:i≤M+1
 c0:0≤c
 c1:c≤1
 e:i=M+1→c=0
 lb:LB o
 len:o.length=i.toNat
 v:vl o+4294967296 ^ i.toNat*c.toNat=vl (a.take i.toNat)+vl (b.take i.toNat)
theorem RSI.step {a b:List Int} {M:Int} {o:List Int} {c i A B S:Int} (h:RSI a b M o c i) (ha:LB a) (hb:LB b) (hA:A=a.length) (hB:B=b.length) (hi:i≤M) (hS:S=a.getD i.toNat 0+b.getD i.toNat 0+c) (hM:M=max A B:=by rfl) :
  RSI a b M (o ++ [S % 4294967296]) (S / 4294967296) (i+1):=by
 have hxa:=ha.getD i.toNat
 have hxb:=hb.getD i.toNat
 have i0:=h.i0
 have c0:=h.c0
 have c1:=h.c1
 have hv:=h.v
 refine ⟨by omega,by omega,by omega,by omega,fun he=>?_,h.lb.app (.cons (by omega) (by omega) .nil),?_,?_⟩
 ·rw[List.getD_eq_getElem?_getD,List.getD_eq_getElem?_getD,List.getElem?_eq_none (by omega),List.getElem?_eq_none (by omega)]at hS
  have:S=c:=by rw[hS];show (0:Int)+0+c=c;omega
  omega
 ·rw[List.length_append,h.len];show i.toNat+1=(i+1).toNat;omega
 ·rw[show (i+1).toNat=i.toNat+1 by omega,vl_take_any,vl_take_any,vl_append,h.len]
  have e1:vl [S % 4294967296]=(S % 4294967296).toNat:=rfl
  rw[e1,Nat.pow_succ,Nat.mul_assoc]
  obtain ⟨P,hP⟩:∃ P,P=4294967296 ^ i.toNat:=⟨_,rfl⟩
  rw[←hP]at hv ⊢
  have e2:(S % 4294967296).toNat+4294967296*(S / 4294967296).toNat=(a.getD i.toNat 0).toNat+(b.getD i.toNat 0).toNat+c.toNat:=by omega
  have e3:=congrArg (P * ·) e2
  simp only[Nat.mul_add]at e3
  omega
theorem cRSum (na:Option Bool) (a:List Int) (nb:Option Bool) (b:List Int) (h:SM2 a b):PurS Tryz.prog 95 [injT tN (na,a),injT tN (nb,b)] (.tl none tW (addL a b)):=by
 refine PurS.of (S:=[(119,_),(118,_)]) (T:=[]) (U:=[]) (tbl:=[]) (n:=44) hm31 cfg (.cons (spT2.ok (a:=(.sl (.int .u32))) (b:=(.int .i64)) fun x0 x1 h=>cLimb x0.1 x0.2 x1 h) (.cons (spT1.ok (a:=(.sl (.int .u32))) fun x0 h=>cRCut x0.1 x0.2 h) .nil)) .nil .nil .nil 0 Tryz.call95 Tryz.func95 (ac95_ok (some (0,0))) (by rw[Tryz.ntmps95];exact Nat.le_refl _) rfl ⟨_,rfl⟩ ?_
 intro cmp ar cv tn ic ai mx an ad ml sb mn ln em gt up ap sc vw cp rp p1 p2 s1 s2 X Y hX hY r0 r1 r2 r3 r4 r5 r6 r7 r8 r9 r10 r11 r12 r13 r14 r15 r16 r17 r18 r19 r20 r21 r22 r23 r24
 generalize hg0:limbI=g0
 generalize hg1:trm=g1
 generalize hg2:addL=g2
 cbv
 have hA:=h.na
 have hB:=h.nb
 obtain ⟨A,hAd⟩:∃ A:Int,A=a.length:=⟨_,rfl⟩
 obtain ⟨B,hBd⟩:∃ B:Int,B=b.length:=⟨_,rfl⟩
 have hla:ic (ln tW a)=A:=by rw[r4,r12,hAd]
 have hlb:ic (ln tW b)=B:=by rw[r4,r12,hBd]
 refine LOOP.ind (σ:=List Int×Int×Int) (fun (o,c,i)=>[(0,.tl na tW a),(1,.tl nb tW b),(5,.og 0 tW o),(6,.p (.v (.int .u64 c))),(7,.p (iv i))]) (fun (o,_,_)=>⟨[],[(ml (ln tW o) 1,117)]⟩)
  (fun (_,c,i)=>(max A B+1 - i).toNat) (fun (o,c,i)=>RSI a b (max A B) o c i)
  ([],0,0) ⟨by omega,by omega,by omega,by omega,fun _=>rfl,.nil,rfl,rfl⟩ (.inr ⟨[],[none],?_⟩) ?_
 ·rw[SIM_iff];cbv;simp[nlLe_self,lstEq]
 intro ⟨o,c,i⟩ hI X' hX'
 have i0:=hI.i0
 have i1:=hI.i1
 have ie:=hI.e
 have il:=hI.len
 have hia:LIP a i↔True:=⟨fun h=>trivial,fun h0=>⟨i0,by omega,h.la⟩⟩
 have hib:LIP b i↔True:=⟨fun h=>trivial,fun h0=>⟨i0,by omega,h.lb⟩⟩
 have hxa:=h.la.getD i.toNat
 have hxb:=h.lb.getD i.toNat
 have hga:g0 a i=a.getD i.toNat 0:=by rw[←hg0];rfl
 have hgb:g0 b i=b.getD i.toNat 0:=by rw[←hg0];rfl
 have c0:=hI.c0
 have c1:=hI.c1
 obtain ⟨S,hS⟩:∃ S,S=a.getD i.toNat 0+b.getD i.toNat 0+c:=⟨_,rfl⟩
 have hS1:ar .add .u64 (ar .add .u64 (g0 a i) (g0 b i)) c=S:=by
  rw[hga,hgb,r1]
  show IntKind.wrap .u64 (IntKind.wrap .u64 (_+_)+c)=S
  have hw1:=wrap_u64 (x:=a.getD i.toNat 0+b.getD i.toNat 0) (by omega) (by omega)
  have hw2:=wrap_u64 (x:=a.getD i.toNat 0+b.getD i.toNat 0+c) (by omega) (by omega)
  rw[hw1,hw2,hS]
 have hw:cv .u32 (ar .rem .u64 S 4294967296)=S % 4294967296:=by
  rw[r2,r1]
  show IntKind.wrap .u32 (Int.tmod S 4294967296)=_
  rw[Int.tmod_eq_emod_of_nonneg (by omega),wrap_u32,Int.emod_emod]
 have hd:ar .quo .u64 S 4294967296=S / 4294967296:=by
  rw[r1]
  show IntKind.wrap .u64 (Int.tdiv S 4294967296)=_
  rw[Int.tdiv_eq_ediv_of_nonneg (by omega),wrap_u64 (by omega) (by omega)]
 have hi1:ar .add .i64 i 1=i+1:=by rw[r1];exact wrap64 (n:=i+1) (by omega) (by omega)
 have hstep:i≤max A B→RSI a b (max A B) (o ++ [S % 4294967296]) (S / 4294967296) (i+1):=fun hi=>hI.step h.la h.lb hAd hBd hi hS
 have hap:ap tW o [S % 4294967296]=o ++ [S % 4294967296]:=by rw[r16]
 have hLIM:LIM (ad (ln tW o) (ln tW [S % 4294967296])) 4:=by
  rw[r8,r12];exact LIM_iff.2 ⟨by show (o.length+1)*4≤_;omega,by show o.length+1≤_;omega⟩
 have hEQ:EQN (ml (ln tW o) 1) (ml (ln tW o) 1):=⟨rfl⟩
 have hNZ:NZ 4294967296:=⟨by decide⟩
 cbv
 try simp only[nc_eq]at *
 rw[hla,hlb,hia,hib,hS1,hw,hd,hi1,hap]
 have hnext:i≤max A B→NEXT X' [(0,DC.tl na tW a),(1,DC.tl nb tW b),(5,.og 0 tW (o ++ [S % 4294967296])),(6,.p (.v (.int .u64 (S / 4294967296)))),(7,.p (iv (i+1)))] ⟨[],[(ml (ln tW (o ++ [S % 4294967296])) 1,117)]⟩:=fun hi=>
  NEXT.mk (hX' (o ++ [S % 4294967296],S / 4294967296,i+1) _ _ (hstep hi) (by show (max A B+1 - (i+1)).toNat<(max A B+1 - i).toNat;omega) (.inl ⟨rfl,rfl⟩))
 have hall:i≤max A B→True∧True∧NZ 4294967296∧EQN (ml (ln tW o) 1) (ml (ln tW o) 1)∧LIM (ad (ln tW o) (ln tW [S % 4294967296])) 4∧NZ 4294967296∧NEXT X' [(0,DC.tl na tW a),(1,DC.tl nb tW b),(5,.og 0 tW (o ++ [S % 4294967296])),(6,.p (.v (.int .u64 (S / 4294967296)))),(7,.p (iv (i+1)))] ⟨[],[(ml (ln tW (o ++ [S % 4294967296])) 1,117)]⟩:=fun hi=>⟨trivial,trivial,hNZ,hEQ,hLIM,hNZ,hnext hi⟩
 refine BR.lss r0 (fun h1=>hall (by omega)) (fun h1=>BR.lss r0 (fun h2=>hall (by omega)) (fun h2=>BR.gtr r0 (fun h3=>hall ?_) (fun h3=>?_)))
 ·rcases Int.lt_or_le (max A B) i with h4 | h4
  ·have:=ie (by omega);omega
  ·exact h4
 ·have hv:=hI.v
  obtain rfl:c=0:=by omega
  rw[List.take_of_length_le (by omega),List.take_of_length_le (by omega)]at hv
  have hv':vl o=vl a+vl b:=hv
  exact ⟨⟨hI.lb,by omega⟩,nlLe_none.2 trivial,by rw[←hg1,←hg2];unfold trm addL;rw[hv']⟩
theorem cROrder (na:Option Bool) (a:List Int) (nb:Option Bool) (b:List Int) (h:SM2 a b):PurS Tryz.prog 96 [injT tN (na,a),injT tN (nb,b)] (.p (iv (cmpL a b))):=by
 refine PurS.of (S:=[(119,_)]) (T:=[]) (U:=[]) (tbl:=[]) (n:=30) hm31 cfg (.cons (spT2.ok (a:=(.sl (.int .u32))) (b:=(.int .i64)) fun x0 x1 h=>cLimb x0.1 x0.2 x1 h) .nil) .nil .nil .nil 0 Tryz.call96 Tryz.func96 (ac96_ok (some (0,0))) (by rw[Tryz.ntmps96];exact Nat.le_refl _) rfl ⟨_,rfl⟩ ?_
 intro cmp ar cv tn ic ai mx an ad ml sb mn ln em gt up ap sc vw cp rp p1 p2 s1 s2 X Y hX hY r0 r1 r2 r3 r4 r5 r6 r7 r8 r9 r10 r11 r12 r13 r14 r15 r16 r17 r18 r19 r20 r21 r22 r23 r24
 generalize hg0:limbI=g0
 generalize hg1:cmpL=g1
 cbv
 have hA:=h.na
 have hB:=h.nb
 obtain ⟨A,hAd⟩:∃ A:Int,A=a.length:=⟨_,rfl⟩
 obtain ⟨B,hBd⟩:∃ B:Int,B=b.length:=⟨_,rfl⟩
 have hla:ic (ln tW a)=A:=by rw[r4,r12,hAd]
 have hlb:ic (ln tW b)=B:=by rw[r4,r12,hBd]
 obtain ⟨M,hM⟩:∃ M:Int,M=max A B:=⟨_,rfl⟩
 have hmx:mx true A B=M:=by rw[r6,hM];unfold mxR;simp only[if_true];split <;> omega
 have hM1:ar .sub .i64 M 1=M - 1:=by rw[r1];exact wrap64 (n:=M - 1) (by omega) (by omega)
 rw[hla,hlb,hmx,hM1]
 refine LOOP.ind (σ:=Int) (fun i=>[(0,.tl na tW a),(1,.tl nb tW b),(5,.p (iv i))]) (fun _=>⟨[],[]⟩)
  (fun i=>(i+1).toNat) (fun i=>-1≤i∧i<M∧vl (a.drop (i+1).toNat)=vl (b.drop (i+1).toNat))
  (M - 1) ⟨by omega,by omega,by rw[List.drop_eq_nil_of_le (by omega),List.drop_eq_nil_of_le (by omega)]⟩ (.inl ⟨rfl,rfl⟩) ?_
 intro i ⟨i1,i2,i3⟩ X' hX'
 have hia:LIP a i↔0≤i:=⟨fun h=>h.i0,fun h0=>⟨h0,by omega,h.la⟩⟩
 have hib:LIP b i↔0≤i:=⟨fun h=>h.i0,fun h0=>⟨h0,by omega,h.lb⟩⟩
 have hxa:=h.la.getD i.toNat
 have hxb:=h.lb.getD i.toNat
 have hga:g0 a i=a.getD i.toNat 0:=by rw[←hg0];rfl
 have hgb:g0 b i=b.getD i.toNat 0:=by rw[←hg0];rfl
 have hs:0≤i→ar .sub .i64 i 1=i - 1:=fun h=>by rw[r1];exact wrap64 (n:=i - 1) (by omega) (by omega)
 have da:=vl_drop_any a i.toNat
 have db:=vl_drop_any b i.toNat
 rw[←hga]at hxa da
 rw[←hgb]at hxb db
 cbv
 try simp only[nc_eq]at *
 rw[hia,hib]
 refine BR.geq r0 (fun h0=>⟨h0,h0,BR.lss r0 (fun h1=>?_) (fun h1=>⟨h0,h0,BR.gtr r0 (fun h2=>?_) (fun h2=>?_)⟩)⟩) (fun h0=>?_)
 ·rw[show (i+1).toNat=i.toNat+1 by omega]at i3
  rw[←hg1];unfold cmpL;rw[cmpN_lt (drop_lt (j:=i.toNat) h.la (by omega))]
 ·rw[show (i+1).toNat=i.toNat+1 by omega]at i3
  rw[←hg1];unfold cmpL;rw[cmpN_gt (drop_lt (j:=i.toNat) h.lb (by omega))]
 ·rw[hs h0]
  rw[show (i+1).toNat=i.toNat+1 by omega]at i3
  exact NEXT.mk (hX' (i - 1) _ _ ⟨by omega,by omega,by rw[show (i - 1+1).toNat=i.toNat by omega];omega⟩ (by show (i - 1+1).toNat<(i+1).toNat;omega) (.inl ⟨rfl,rfl⟩))
 ·obtain rfl:i = -1:=by omega
  have i4:vl a=vl b:=i3
  rw[←hg1];unfold cmpL;rw[i4,cmpN_eq]
end Go.Ab
