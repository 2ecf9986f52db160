/- Limbs: leading zeros and differences in place. -/
import Derived.Test.YtlmdgmppeacobaaGreatLc
set_option linter.unusedSimpArgs false
set_option linter.unusedVariables false
set_option maxRecDepth 20000
set_option maxHeartbeats 4000000
namespace Go.Ab
open Go.Proofs
structure TRB (N n:Nat) (a:List Int):Prop where
 lb:LB a
 len:a.length=N
 le:n≤N
 big:N≤100000
theorem cTrimB (aq:Bool) (N n m:Nat) (a:List Int) (h:TRB N n a) (hm:m=(lm (vl (a.take n))).length):FnS Tryz.prog 132 ([.ms 0 0 1 none n]) (⟨[bxW N aq a],[]⟩ ) fun x_ s_=>x_=(.ms 0 0 1 none m)∧s_=(⟨[bxW N aq a],[]⟩):=by
 refine FnS.of (S:=[]) (T:=[]) (U:=[]) (tbl:=[]) (n:=21) hm31 cfg .nil .nil .nil .nil 0 Tryz.call132 Tryz.func132 (ac132_ok (some (1,0))) (by rw[Tryz.ntmps132];exact Nat.le_refl _) rfl _ _ _ (by rfl) ?_
 intro cmp ar cv tn ic ai mx an ad ml sb mn ln em gt up ap sc vw cp rp p1 p2 s1 s2 X Y hX hY r0 r1 r2 r3 r4 r5 r6 r7 r8 r9 r10 r11 r12 r13 r14 r15 r16 r17 r18 r19 r20 r21 r22 r23 r24
 cbv
 obtain ⟨hlb,hlen,hn,hbig⟩:=h
 refine LOOP.ind (σ:=Nat) (fun k=>[(0,.ms 0 0 1 none k)]) (fun _=>⟨[bxW N aq a],[]⟩) (fun k=>k) (fun k=>k≤n∧vl (a.take k)=vl (a.take n)) n ⟨Nat.le_refl _,rfl⟩ (.inl ⟨rfl,rfl⟩) ?_
 intro k hI X' hX
 obtain ⟨hk,hv⟩:=hI
 obtain ⟨K,hK⟩:∃ K:Int,K=k:=⟨_,rfl⟩
 have hla:ic k=K:=by rw[r4,hK]
 have hicN:ic N=N:=by rw[r4]
 obtain ⟨M,hM⟩:∃ M,M=ar .sub .i64 K 1:=⟨_,rfl⟩
 have hsub:0<K→M=K - 1:=fun h=>by rw[hM,r1];exact wrap64 (n:=K - 1) (by omega) (by omega)
 obtain ⟨x,hx⟩:∃ x:Int,x=gt tW a M:=⟨_,rfl⟩
 have hx':0<K→x=a.getD (k - 1) 0:=fun h=>by
  rw[hx,r14,hsub h,hK]
  show a.getD (k - 1:Int).toNat 0=_
  rw[show ((k:Int) - 1).toNat=k - 1 by omega]
 have hres:(K≤0∨x≠0)→k=m:=fun h=>by
  have h1:=trim_end (l:=a.take n) (hlb.take n) (n:=k) (by rw[List.length_take];omega) (by rw[List.take_take,Nat.min_eq_left hk];exact hv) (by
   rcases h with h | h
   ·left;omega
   ·by_cases h0:k=0
    ·exact .inl h0
    ·right
     rw[hx' (by omega)]at h
     rw[List.getD_eq_getElem?_getD,List.getElem?_take,if_pos (by omega),←List.getD_eq_getElem?_getD];exact h)
  rw[hm,←h1,List.length_take,List.length_take];omega
 cbv
 try simp only[nc_eq]at *
 rw[hla,←hM,hicN,←hx]
 have ret:k=m→RET 1 0 (.ms 0 0 1 none k) ⟨[bxW N aq a],[]⟩ (.ms 0 0 1 none m) ⟨[bxW N aq a],[]⟩:=fun h=>by
  refine RET.mk ⟨[some 0],[],?_⟩
  rw[SIM_iff];cbv;simp[nlLe_self,h]
 refine BR.gtr r0 (fun h0=>?_) (fun h0=>ret (hres (.inl (by omega))))
 have hMK:=hsub h0
 have htn:tn M=k - 1:=by rw[r3];show M.toNat=_;omega
 refine ⟨⟨by omega,by omega⟩,⟨by omega,by omega⟩,BR.eql r0 (fun h1=>⟨⟨by omega,by omega,by omega⟩,NEXT.mk (hX (tn M) _ _ ⟨by omega,?_⟩ (by show tn M<k;omega) (.inl ⟨rfl,rfl⟩))⟩) (fun h1=>ret (hres (.inr h1)))⟩
 have:=trim_step (l:=a) (n:=k - 1) (by omega) (by rw[←hx' h0];exact h1)
 rw[show k - 1+1=k by omega,hv]at this
 rw[htn];exact this.symm
structure TRK (N n:Nat) (a:List Int) (k:Nat→Prop):Prop where
 pre:TRB N n a
 h:∀ m,m=(lm (vl (a.take n))).length→k m
def bxAt (st:StS) (b:Nat) (f:Nat→Bool→List Int→Prop):Prop:=match nthD st.box b with
 | some B=>(match B.cells with
  | [.arr N t l]=>(match castL tW t l with | some l=>f N B.ap l | none=>False)
  | _=>False)
 | none=>False
theorem bxAt_ex {st:StS} {b:Nat} {f:Nat→Bool→List Int→Prop} (h:bxAt st b f):∃ N q l,f N q l:=by
 unfold bxAt at h
 split at h <;> first | exact h.elim | skip
 split at h <;> first | exact h.elim | skip
 split at h <;> first | exact h.elim | skip
 exact ⟨_,_,_,h⟩
def spTrim:OpsS→CallS:=fun _ _ ds st K=>match ds with
 | [.ms b 0 1 none n]=>bxAt st b fun N q a=>TRK N n a fun m=>frS [b] [] [.ms 0 0 1 none n] ⟨[bxW N q a],[]⟩ (.ms 0 0 1 none m) ⟨[bxW N q a],[]⟩ ds st K
 | _=>False
theorem cTrimT:∀ ds st K,spTrim OpsS.real 132 ds st K→FnS Tryz.prog 132 ds st K:=fun ds st K h=>by
 unfold spTrim at h
 split at h <;> first | exact h.elim | skip
 obtain ⟨N,q,a,h⟩:=bxAt_ex h
 exact frS_ok (cTrimB q N _ _ a h.pre rfl) (h.h _ rfl)
structure NUM (N n:Nat) (a:List Int) (v:Nat):Prop where
 len:a.length=N
 le:n≤N
 big:N≤100000
 lb:LB a
 v:vl (a.take n)=v
theorem brw_01 (x y c:Int):0≤brw32 x y c∧brw32 x y c≤1:=by unfold brw32;split <;> omega
theorem subStep {a:List Int} (h:LB a) {j:Nat} (hj:j<a.length) {x c:Int} (x0:0≤x) (x1:x<4294967296) (c0:0≤c) (c1:c≤1) :
  LB (a.set j (sub32 (a.getD j 0) x c))∧vl (a.set j (sub32 (a.getD j 0) x c))+4294967296 ^ j*(x.toNat+c.toNat)=vl a+4294967296 ^ (j+1)*(brw32 (a.getD j 0) x c).toNat:=by
 obtain ⟨h0,h1⟩:=h.getD j
 obtain ⟨z,hz⟩:∃ z:Nat,(z:Int)=sub32 (a.getD j 0) x c:=⟨(sub32 (a.getD j 0) x c).toNat,by unfold sub32;omega⟩
 have e:sub32 (a.getD j 0) x c=(a.getD j 0 - x - c) % 4294967296:=rfl
 have e2:brw32 (a.getD j 0) x c=if a.getD j 0<x+c then 1 else 0:=rfl
 refine ⟨h.set j (by omega) (by omega),?_⟩
 rw[←hz]
 refine step_sub hj ?_
 rw[e2]
 split <;> omega
structure SUBI (N n:Nat) (a a':List Int):Prop where
 lb:LB a'
 len:a'.length=N
 dr:a'.drop n=a.drop n
theorem SUBI.step {N n:Nat} {a a':List Int} (h:SUBI N n a a') (hn:n≤N) {j:Nat} (hj:j<n) {x c:Int} (x0:0≤x) (x1:x<4294967296) (c0:0≤c) (c1:c≤1) :
  SUBI N n a (a'.set j (sub32 (a'.getD j 0) x c))∧0≤brw32 (a'.getD j 0) x c∧brw32 (a'.getD j 0) x c≤1 ∧
  vl ((a'.set j (sub32 (a'.getD j 0) x c)).take n)+4294967296 ^ j*(x.toNat+c.toNat)=vl (a'.take n)+4294967296 ^ (j+1)*(brw32 (a'.getD j 0) x c).toNat:=by
 have hlt:(a'.take n).length=n:=by rw[List.length_take,h.len];omega
 have e:(a'.take n).getD j 0=a'.getD j 0:=by rw[List.getD_eq_getElem?_getD,List.getElem?_take,if_pos hj,←List.getD_eq_getElem?_getD]
 have h1:=subStep (h.lb.take n) (j:=j) (by omega) x0 x1 c0 c1
 have h2:=subStep h.lb (j:=j) (by have:=h.len;omega) x0 x1 c0 c1
 rw[e]at h1
 refine ⟨⟨h2.1,by rw[List.length_set];exact h.len,by rw[List.drop_set_of_lt hj];exact h.dr⟩,(brw_01 _ _ _).1,(brw_01 _ _ _).2,?_⟩
 rw[List.take_set];exact h1.2
theorem sub_alg {v w x T d c y i:Nat} (h1:v+4294967296 ^ i*(y+c)=w+4294967296 ^ (i+1)*d) (h2:w+T=x+4294967296 ^ i*c) :
  v+(T+4294967296 ^ i*y)=x+4294967296 ^ (i+1)*d:=by
 rw[Nat.mul_add]at h1
 omega
theorem cSubT (aq:Bool) (N n m:Nat) (a L:List Int) (nb:Option Bool) (b:List Int) (k:Nat) (hk:k=b.length) (x y:Nat) (hb:LB b) (ha:NUM N n a x) (hy:y=vl (b.take k)) (hkn:k≤n) (hyx:y≤x) (hL:L=pad n (x - y) ++ a.drop n) (hm:m=(lm (x - y)).length):FnS Tryz.prog 113 ([.ms 0 0 1 none n,injT tN (nb,b)]) (⟨[bxW N aq a],[]⟩ ) fun x_ s_=>x_=(.ms 0 0 1 none m)∧s_=(⟨[bxW N aq L],[]⟩):=by
 refine FnS.of (S:=[(135,_)]) (T:=[(132,_)]) (U:=[]) (tbl:=[]) (n:=50) hm31 cfg (.cons (spT3.ok (a:=(.int .u32)) (b:=(.int .u32)) (c:=(.int .u32)) fun x0 x1 x2 h=>cSub32 x0 x1 x2 h) .nil) (.cons cTrimT .nil) .nil .nil 0 Tryz.call113 Tryz.func113 (ac113_ok (some (1,0))) (by rw[Tryz.ntmps113];exact Nat.le_refl _) rfl _ _ _ (by rfl) ?_
 intro cmp ar cv tn ic ai mx an ad ml sb mn ln em gt up ap sc vw cp rp p1 p2 s1 s2 X Y hX hY r0 r1 r2 r3 r4 r5 r6 r7 r8 r9 r10 r11 r12 r13 r14 r15 r16 r17 r18 r19 r20 r21 r22 r23 r24
 generalize hg0:sub32=g0
 generalize hg1:brw32=g1
 cbv
 obtain ⟨hlen,hn,hbig,hlb,hv⟩:=ha
 have hkb:k≤b.length:=by omega
 obtain ⟨B,hB⟩:∃ B:Int,B=k:=⟨_,rfl⟩
 have e1:ic (ln tW b)=B:=by rw[r4,r12,hB,hk]
 rw[e1]
 have hicN:ic N=N:=by rw[r4]
 have hicn:ic n=n:=by rw[r4]
 refine LOOP.ind (σ:=Int×Int×List Int) (fun (i,c,_)=>[(0,.ms 0 0 1 none n),(1,.tl nb tW b),(5,.p (uw c)),(9,.tl nb tW b),(10,.p (iv B)),(11,.p (iv i))])
  (fun (_,_,a')=>⟨[bxW N aq a'],[]⟩)
  (fun (i,_,_)=>(B - i).toNat) (fun (i,c,a')=>0≤i∧i≤B∧0≤c∧c≤1∧SUBI N n a a'∧vl (a'.take n)+vl (b.take i.toNat)=x+4294967296 ^ i.toNat*c.toNat) (0,0,a)
  ⟨by omega,by show (0:Int)≤B;omega,by decide,by decide,⟨hlb,hlen,rfl⟩,by simp[vl,hv]⟩ (.inl ⟨rfl,rfl⟩) ?_
 intro ⟨i,c,a'⟩ hI X' hX
 obtain ⟨hI1,hI2,hc0,hc1,hs,hI3⟩:=hI
 obtain ⟨yy,hyy⟩:∃ y:Int,y=gt tW b i:=⟨_,rfl⟩
 obtain ⟨xx,hxx⟩:∃ x:Int,x=gt tW a' i:=⟨_,rfl⟩
 have hy':yy=b.getD i.toNat 0:=by rw[hyy,r14];rfl
 have hx':xx=a'.getD i.toNat 0:=by rw[hxx,r14];rfl
 have hyb:=hb.getD i.toNat
 have hxb:=hs.lb.getD i.toNat
 have hadd:i<B→ar .add .i64 i 1=i+1:=fun h=>by rw[r1];exact wrap64 (n:=i+1) (by omega) (by omega)
 have hset:∀ z:Int,up tW N a' i z=a'.set i.toNat z:=fun z=>by rw[r15];exact set_up hs.len _ _
 cbv
 try simp only[nc_eq]at *
 rw[e1,hicN,hicn,←hxx,←hyy]
 refine BR.lss r0 (fun hc=>?_) (fun hc=>?_)
 ·have hib:INB i B:=⟨hI1,hc⟩
  have hin:INB i n:=⟨hI1,by omega⟩
  have hiN:INB i N:=⟨hI1,by omega⟩
  obtain ⟨q1,q2,q3,q4⟩:=hs.step hn (j:=i.toNat) (by omega) (x:=yy) (c:=c) (by omega) (by omega) hc0 hc1
  rw[←hx',hg0,hg1]at *
  rw[hadd hc,hset]
  refine ⟨hib,hib,hin,hiN,⟨by omega,by omega,by omega,by omega,hc0,hc1⟩,hin,hiN,NEXT.mk (hX (i+1,_,_) _ _ ⟨by omega,by omega,q2,q3,q1,?_⟩ (by show (B - (i+1)).toNat<(B - i).toNat;omega) (.inl ⟨rfl,rfl⟩))⟩
  rw[show (i+1).toNat=i.toNat+1 by omega,vl_take_succ (by omega),←hy']
  exact sub_alg q4 hI3
 have hiB:i=B:=by omega
 subst hiB
 have hT:vl (a'.take n)+y=x+4294967296 ^ i.toNat*c.toNat:=by rw[hy,←hI3,show k=i.toNat by omega]
 refine LOOP.ind (σ:=Int×Int×List Int) (fun (i,c,_)=>[(0,.ms 0 0 1 none n),(5,.p (uw c)),(8,.p (iv i))])
  (fun (_,_,a')=>⟨[bxW N aq a'],[]⟩)
  (fun (i,_,_)=>((n:Int) - i).toNat) (fun (i,c,a')=>0≤i∧i≤n∧0≤c∧c≤1∧SUBI N n a a'∧vl (a'.take n)+y=x+4294967296 ^ i.toNat*c.toNat) (i,c,a')
  ⟨hI1,by show i≤(n:Int);omega,hc0,hc1,hs,hT⟩ (.inl ⟨rfl,rfl⟩) ?_
 clear hX hI3 hT hset hx' hxb hs hxx hyy hy' hyb hadd
 clear hI1 hI2 hc0 hc1 c a' xx yy
 intro ⟨j,c,a'⟩ hI X2 hY
 obtain ⟨hI1,hI2,hc0,hc1,hs,hI3⟩:=hI
 obtain ⟨xx,hxx⟩:∃ x:Int,x=gt tW a' j:=⟨_,rfl⟩
 have hx':xx=a'.getD j.toNat 0:=by rw[hxx,r14];rfl
 have hxb:=hs.lb.getD j.toNat
 have hset:∀ z:Int,up tW N a' j z=a'.set j.toNat z:=fun z=>by rw[r15];exact set_up hs.len _ _
 have htl:=vl_lt (hs.lb.take n)
 rw[List.length_take,hs.len,Nat.min_eq_left hn]at htl
 have hkN:c≠0→j<n:=fun h=>by
  have h1:c=1:=by omega
  subst h1
  have:4294967296 ^ j.toNat<4294967296 ^ n:=by
   have:(1:Int).toNat=1:=rfl
   rw[this,Nat.mul_one]at hI3
   omega
  have:=pow_lt_iff.1 this
  omega
 have hadd:j<n→ar .add .i64 j 1=j+1:=fun h=>by rw[r1];exact wrap64 (n:=j+1) (by omega) (by omega)
 have hend:¬ c≠0→a'=L∧TRB N n a'∧vl (a'.take n)=x - y:=fun h=>by
  have h1:c=0:=Classical.not_not.1 h
  subst h1
  have:(0:Int).toNat=0:=rfl
  rw[this,Nat.mul_zero,Nat.add_zero]at hI3
  have e:vl (a'.take n)=x - y:=by omega
  refine ⟨?_,⟨hs.lb,hs.len,hn,hbig⟩,e⟩
  have h2:=pad_of (hs.lb.take n)
  rw[List.length_take,hs.len,Nat.min_eq_left hn,e]at h2
  rw[hL,h2,←hs.dr,List.take_append_drop]
 cbv
 try simp only[nc_eq]at *
 rw[hicN,hicn,←hxx]
 refine BR.neq r0 (fun hc=>?_) (fun hc=>?_)
 ·have hk:=hkN hc
  have hkb:INB j N:=⟨hI1,by omega⟩
  have hkn:INB j n:=⟨hI1,hk⟩
  obtain ⟨q1,q2,q3,q4⟩:=hs.step hn (j:=j.toNat) (by omega) (x:=0) (c:=c) (by omega) (by omega) hc0 hc1
  rw[←hx',hg0,hg1]at *
  rw[hadd hk,hset]
  refine ⟨hkn,hkb,⟨by omega,by omega,by omega,by omega,hc0,hc1⟩,hkn,hkb,NEXT.mk (hY (j+1,_,_) _ _ ⟨by omega,by omega,q2,q3,q1,?_⟩ (by show ((n:Int) - (j+1)).toNat<((n:Int) - j).toNat;omega) (.inl ⟨rfl,rfl⟩))⟩
  rw[show (j+1).toNat=j.toNat+1 by omega]
  dsimp only
  rw[show (0:Int).toNat=0 from rfl,Nat.zero_add]at q4
  omega
 ·obtain ⟨z1,z2,z3⟩:=hend hc
  refine TRK.mk z2 ?_
  intro m' hm'
  rw[z3]at hm'
  cbv
  refine RET.mk ⟨[some 0],[],?_⟩
  rw[SIM_iff];cbv;simp[nlLe_self,z1,hm',hm]
theorem cSubB (aq:Bool) (N n m:Nat) (a L:List Int) (bq:Bool) (M k:Nat) (b:List Int) (hkM:k≤M) (hbM:b.length=M) (hM5:M≤100000) (x y:Nat) (hb:LB b) (ha:NUM N n a x) (hy:y=vl (b.take k)) (hkn:k≤n) (hyx:y≤x) (hL:L=pad n (x - y) ++ a.drop n) (hm:m=(lm (x - y)).length):FnS Tryz.prog 113 ([.ms 0 0 1 none n,.ms 1 0 1 none k]) (⟨[bxW N aq a,bxW M bq b],[]⟩ ) fun x_ s_=>x_=(.ms 0 0 1 none m)∧s_=(⟨[bxW N aq L,bxW M bq b],[]⟩):=by
 refine FnS.of (S:=[(135,_)]) (T:=[(132,_)]) (U:=[]) (tbl:=[]) (n:=50) hm31 cfg (.cons (spT3.ok (a:=(.int .u32)) (b:=(.int .u32)) (c:=(.int .u32)) fun x0 x1 x2 h=>cSub32 x0 x1 x2 h) .nil) (.cons cTrimT .nil) .nil .nil 0 Tryz.call113 Tryz.func113 (ac113_ok (some (2,0))) (by rw[Tryz.ntmps113];exact Nat.le_refl _) rfl _ _ _ (by rfl) ?_
 intro cmp ar cv tn ic ai mx an ad ml sb mn ln em gt up ap sc vw cp rp p1 p2 s1 s2 X Y hX hY r0 r1 r2 r3 r4 r5 r6 r7 r8 r9 r10 r11 r12 r13 r14 r15 r16 r17 r18 r19 r20 r21 r22 r23 r24
 generalize hg0:sub32=g0
 generalize hg1:brw32=g1
 cbv
 obtain ⟨hlen,hn,hbig,hlb,hv⟩:=ha
 have hkb:k≤b.length:=by omega
 obtain ⟨B,hB⟩:∃ B:Int,B=k:=⟨_,rfl⟩
 have e1:ic k=B:=by rw[r4,hB]
 rw[e1]
 have eM:ic M=M:=by rw[r4]
 have hicN:ic N=N:=by rw[r4]
 have hicn:ic n=n:=by rw[r4]
 refine LOOP.ind (σ:=Int×Int×List Int) (fun (i,c,_)=>[(0,.ms 0 0 1 none n),(1,.ms 1 0 1 none k),(5,.p (uw c)),(9,.ms 1 0 1 none k),(10,.p (iv B)),(11,.p (iv i))])
  (fun (_,_,a')=>⟨[bxW N aq a',bxW M bq b],[]⟩)
  (fun (i,_,_)=>(B - i).toNat) (fun (i,c,a')=>0≤i∧i≤B∧0≤c∧c≤1∧SUBI N n a a'∧vl (a'.take n)+vl (b.take i.toNat)=x+4294967296 ^ i.toNat*c.toNat) (0,0,a)
  ⟨by omega,by show (0:Int)≤B;omega,by decide,by decide,⟨hlb,hlen,rfl⟩,by simp[vl,hv]⟩ (.inl ⟨rfl,rfl⟩) ?_
 intro ⟨i,c,a'⟩ hI X' hX
 obtain ⟨hI1,hI2,hc0,hc1,hs,hI3⟩:=hI
 obtain ⟨yy,hyy⟩:∃ y:Int,y=gt tW b i:=⟨_,rfl⟩
 obtain ⟨xx,hxx⟩:∃ x:Int,x=gt tW a' i:=⟨_,rfl⟩
 have hy':yy=b.getD i.toNat 0:=by rw[hyy,r14];rfl
 have hx':xx=a'.getD i.toNat 0:=by rw[hxx,r14];rfl
 have hyb:=hb.getD i.toNat
 have hxb:=hs.lb.getD i.toNat
 have hadd:i<B→ar .add .i64 i 1=i+1:=fun h=>by rw[r1];exact wrap64 (n:=i+1) (by omega) (by omega)
 have hset:∀ z:Int,up tW N a' i z=a'.set i.toNat z:=fun z=>by rw[r15];exact set_up hs.len _ _
 cbv
 try simp only[nc_eq]at *
 rw[e1,hicN,hicn,←hxx,←hyy,eM]
 refine BR.lss r0 (fun hc=>?_) (fun hc=>?_)
 ·have hib:INB i B:=⟨hI1,hc⟩
  have hiM:INB i M:=⟨hI1,by omega⟩
  have hin:INB i n:=⟨hI1,by omega⟩
  have hiN:INB i N:=⟨hI1,by omega⟩
  obtain ⟨q1,q2,q3,q4⟩:=hs.step hn (j:=i.toNat) (by omega) (x:=yy) (c:=c) (by omega) (by omega) hc0 hc1
  rw[←hx',hg0,hg1]at *
  rw[hadd hc,hset]
  refine ⟨hib,hiM,hin,hiN,⟨by omega,by omega,by omega,by omega,hc0,hc1⟩,hin,hiN,NEXT.mk (hX (i+1,_,_) _ _ ⟨by omega,by omega,q2,q3,q1,?_⟩ (by show (B - (i+1)).toNat<(B - i).toNat;omega) (.inl ⟨rfl,rfl⟩))⟩
  rw[show (i+1).toNat=i.toNat+1 by omega,vl_take_succ (by omega),←hy']
  exact sub_alg q4 hI3
 have hiB:i=B:=by omega
 subst hiB
 have hT:vl (a'.take n)+y=x+4294967296 ^ i.toNat*c.toNat:=by rw[hy,←hI3,show k=i.toNat by omega]
 refine LOOP.ind (σ:=Int×Int×List Int) (fun (i,c,_)=>[(0,.ms 0 0 1 none n),(5,.p (uw c)),(8,.p (iv i))])
  (fun (_,_,a')=>⟨[bxW N aq a',bxW M bq b],[]⟩)
  (fun (i,_,_)=>((n:Int) - i).toNat) (fun (i,c,a')=>0≤i∧i≤n∧0≤c∧c≤1∧SUBI N n a a'∧vl (a'.take n)+y=x+4294967296 ^ i.toNat*c.toNat) (i,c,a')
  ⟨hI1,by show i≤(n:Int);omega,hc0,hc1,hs,hT⟩ (.inl ⟨rfl,rfl⟩) ?_
 clear hX hI3 hT hset hx' hxb hs hxx hyy hy' hyb hadd
 clear hI1 hI2 hc0 hc1 c a' xx yy
 intro ⟨j,c,a'⟩ hI X2 hY
 obtain ⟨hI1,hI2,hc0,hc1,hs,hI3⟩:=hI
 obtain ⟨xx,hxx⟩:∃ x:Int,x=gt tW a' j:=⟨_,rfl⟩
 have hx':xx=a'.getD j.toNat 0:=by rw[hxx,r14];rfl
 have hxb:=hs.lb.getD j.toNat
 have hset:∀ z:Int,up tW N a' j z=a'.set j.toNat z:=fun z=>by rw[r15];exact set_up hs.len _ _
 have htl:=vl_lt (hs.lb.take n)
 rw[List.length_take,hs.len,Nat.min_eq_left hn]at htl
 have hkN:c≠0→j<n:=fun h=>by
  have h1:c=1:=by omega
  subst h1
  have:4294967296 ^ j.toNat<4294967296 ^ n:=by
   have:(1:Int).toNat=1:=rfl
   rw[this,Nat.mul_one]at hI3
   omega
  have:=pow_lt_iff.1 this
  omega
 have hadd:j<n→ar .add .i64 j 1=j+1:=fun h=>by rw[r1];exact wrap64 (n:=j+1) (by omega) (by omega)
 have hend:¬ c≠0→a'=L∧TRB N n a'∧vl (a'.take n)=x - y:=fun h=>by
  have h1:c=0:=Classical.not_not.1 h
  subst h1
  have:(0:Int).toNat=0:=rfl
  rw[this,Nat.mul_zero,Nat.add_zero]at hI3
  have e:vl (a'.take n)=x - y:=by omega
  refine ⟨?_,⟨hs.lb,hs.len,hn,hbig⟩,e⟩
  have h2:=pad_of (hs.lb.take n)
  rw[List.length_take,hs.len,Nat.min_eq_left hn,e]at h2
  rw[hL,h2,←hs.dr,List.take_append_drop]
 cbv
 try simp only[nc_eq]at *
 rw[hicN,hicn,←hxx]
 refine BR.neq r0 (fun hc=>?_) (fun hc=>?_)
 ·have hk:=hkN hc
  have hkb:INB j N:=⟨hI1,by omega⟩
  have hkn:INB j n:=⟨hI1,hk⟩
  obtain ⟨q1,q2,q3,q4⟩:=hs.step hn (j:=j.toNat) (by omega) (x:=0) (c:=c) (by omega) (by omega) hc0 hc1
  rw[←hx',hg0,hg1]at *
  rw[hadd hk,hset]
  refine ⟨hkn,hkb,⟨by omega,by omega,by omega,by omega,hc0,hc1⟩,hkn,hkb,NEXT.mk (hY (j+1,_,_) _ _ ⟨by omega,by omega,q2,q3,q1,?_⟩ (by show ((n:Int) - (j+1)).toNat<((n:Int) - j).toNat;omega) (.inl ⟨rfl,rfl⟩))⟩
  rw[show (j+1).toNat=j.toNat+1 by omega]
  dsimp only
  rw[show (0:Int).toNat=0 from rfl,Nat.zero_add]at q4
  omega
 ·obtain ⟨z1,z2,z3⟩:=hend hc
  refine TRK.mk z2 ?_
  intro m' hm'
  rw[z3]at hm'
  cbv
  refine RET.mk ⟨[some 0,some 1],[],?_⟩
  rw[SIM_iff];cbv;simp[nlLe_self,z1,hm',hm]
theorem NUM.trim {N n m:Nat} {a:List Int} {v:Nat} (h:NUM N n a v) (hm:m=(lm v).length):NUM N m a v∧a.take m=lm v∧m≤n:=by
 have h1:=vl_lt (h.lb.take n)
 rw[h.v,List.length_take,h.len,Nat.min_eq_left h.le]at h1
 have hmn:m≤n:=by rw[hm];exact (lm_len v n).2 h1
 have h2:=vl_split (a.take n) m (by rw[List.length_take,h.len];have:=h.le;omega)
 have h3:v<4294967296 ^ m:=(lm_len v m).1 (by rw[hm];exact Nat.le_refl _)
 rw[h.v,List.take_take,Nat.min_eq_left hmn]at h2
 have h4:vl ((a.take n).drop m)=0:=by
  rcases Nat.eq_zero_or_pos (vl ((a.take n).drop m)) with h | h
  ·exact h
  ·have:=Nat.mul_le_mul_left (4294967296 ^ m) h
   omega
 rw[h4,Nat.mul_zero,Nat.add_zero]at h2
 have hle:=h.le
 refine ⟨⟨h.len,by omega,h.big,h.lb,h2.symm⟩,?_,hmn⟩
 exact vl_inj (h.lb.take m) (LB_lm v) (by rw[List.length_take,h.len,hm];omega) (by rw[←h2,vl_lm])
theorem NUM.pad {N n:Nat} {a:List Int} {v w:Nat} (h:NUM N n a v) (hw:w<4294967296 ^ n):NUM N n (Ab.pad n w ++ a.drop n) w:=by
 have hl:=h.len
 have hn:=h.le
 refine ⟨by rw[List.length_append,pad_len,List.length_drop];omega,hn,h.big,(pad_lb _ _).app (h.lb.drop n),?_⟩
 rw[List.take_left' (pad_len _ _),pad_vl hw]
structure SBK (N n k:Nat) (a b:List Int) (f:Nat→List Int→Prop):Prop where
 na:NUM N n a (vl (a.take n))
 lb:LB b
 kn:k≤n
 le:vl (b.take k)≤vl (a.take n)
 h:∀ m L,NUM N n L (vl (a.take n) - vl (b.take k))→m=(lm (vl (a.take n) - vl (b.take k))).length→f m L
structure SBT (N n:Nat) (a b:List Int) (f:Nat→List Int→Prop):Prop where
 na:NUM N n a (vl (a.take n))
 lb:LB b
 kn:b.length≤n
 le:vl b≤vl (a.take n)
 h:∀ m L,NUM N n L (vl (a.take n) - vl b)→m=(lm (vl (a.take n) - vl b)).length→f m L
structure SBM (k M:Nat) (b:List Int):Prop where
 le:k≤M
 len:b.length=M
 big:M≤100000
def spSub:OpsS→CallS:=fun _ _ ds st K=>match ds with
 | [.ms b0 0 1 none n,.ms b1 0 1 none k]=>bxAt st b0 fun N q a=>bxAt st b1 fun M r b=>SBM k M b∧SBK N n k a b fun m L=>frS [b0,b1] [] [.ms 0 0 1 none n,.ms 1 0 1 none k] ⟨[bxW N q a,bxW M r b],[]⟩ (.ms 0 0 1 none m) ⟨[bxW N q L,bxW M r b],[]⟩ ds st K
 | [.ms b0 0 1 none n,d]=>(match getT tN d with
  | some b=>bxAt st b0 fun N q a=>SBT N n a b.2 fun m L=>frS [b0] [] [.ms 0 0 1 none n,injT tN b] ⟨[bxW N q a],[]⟩ (.ms 0 0 1 none m) ⟨[bxW N q L],[]⟩ [.ms b0 0 1 none n,injT tN b] st K
  | none=>False)
 | _=>False
theorem FnS.congA {P:Program} {f:FuncId} {xs ys:List DC} {st:StS} {K:DC→StS→Prop} (h:FnS P f ys st K) (he:concL xs=concL ys):FnS P f xs st K:=by
 unfold FnS;rw[he];exact h
theorem SBK.lt {N n k:Nat} {a b:List Int} {f:Nat→List Int→Prop} (h:SBK N n k a b f):vl (a.take n) - vl (b.take k)<4294967296 ^ n:=by
 have h1:=vl_lt (h.na.lb.take n)
 rw[List.length_take,h.na.len,Nat.min_eq_left h.na.le]at h1
 omega
theorem SBT.lt {N n:Nat} {a b:List Int} {f:Nat→List Int→Prop} (h:SBT N n a b f):vl (a.take n) - vl b<4294967296 ^ n:=by
 have h1:=vl_lt (h.na.lb.take n)
 rw[List.length_take,h.na.len,Nat.min_eq_left h.na.le]at h1
 omega
theorem cSubtractT:∀ ds st K,spSub OpsS.real 113 ds st K→FnS Tryz.prog 113 ds st K:=fun ds st K h=>by
 unfold spSub at h
 split at h <;> first | exact h.elim | skip
 ·obtain ⟨N,q,a,h⟩:=bxAt_ex h
  obtain ⟨M,r,b,h1,h⟩:=bxAt_ex h
  exact frS_ok (cSubB q N _ _ a _ r M _ b h1.le h1.len h1.big _ _ h.lb h.na rfl h.kn h.le rfl rfl) (h.h _ _ (h.na.pad h.lt) rfl)
 ·split at h <;> first | exact h.elim | skip
  rename_i b hd
  obtain ⟨N,q,a,h⟩:=bxAt_ex h
  exact FnS.congA (frS_ok (cSubT q N _ _ a _ b.1 b.2 _ rfl _ (vl b.2) h.lb h.na (by rw[List.take_length]) h.kn h.le rfl rfl) (h.h _ _ (h.na.pad h.lt) rfl)) (by simp only[concL,getT_conc hd])
end Go.Ab
