/- Limbs: sums in place. -/
import Derived.Test.YtlmdgmppeacobaaGreatLb
set_option linter.unusedSimpArgs false
set_option linter.unusedVariables false
set_option maxRecDepth 20000
set_option maxHeartbeats 4000000
namespace Go.Ab
open Go.Proofs
def bxW (N:Nat) (ap:Bool) (l:List Int):BoxS:={ cells:=[.arr N tW l],e:=117,fz:=false,ap:=ap }
theorem set_up {N:Nat} {l:List Int} (h:l.length=N) (k x:Int):upR tW N l k x=l.set k.toNat x:=by unfold upR;rw[Ty.norm_eq tW h]
theorem addStep {a:List Int} (h:LB a) {j:Nat} (hj:j<a.length) {x c:Int} (x0:0≤x) (x1:x<4294967296) (c0:0≤c) (c1:c≤1) :
  LB (a.set j (add32 (a.getD j 0) x c))∧0≤cry32 (a.getD j 0) x c∧cry32 (a.getD j 0) x c≤1 ∧
  vl (a.set j (add32 (a.getD j 0) x c))+4294967296 ^ (j+1)*(cry32 (a.getD j 0) x c).toNat=vl a+4294967296 ^ j*(x.toNat+c.toNat):=by
 obtain ⟨h0,h1⟩:=h.getD j
 obtain ⟨z,hz⟩:∃ z:Nat,(z:Int)=add32 (a.getD j 0) x c:=⟨(add32 (a.getD j 0) x c).toNat,by unfold add32;omega⟩
 have e:add32 (a.getD j 0) x c=(a.getD j 0+x+c) % 4294967296:=rfl
 have e2:cry32 (a.getD j 0) x c=(a.getD j 0+x+c) / 4294967296:=rfl
 refine ⟨h.set j (by omega) (by omega),by omega,by omega,?_⟩
 rw[←hz]
 exact step_add hj (by omega)
theorem add_alg {v w a T d c y i s:Nat} (h1:v+4294967296 ^ (i+s+1)*d=w+4294967296 ^ (i+s)*(y+c)) (h2:w+4294967296 ^ (i+s)*c=a+4294967296 ^ s*T) :
  v+4294967296 ^ (i+s+1)*d=a+4294967296 ^ s*(T+4294967296 ^ i*y):=by
 have e:4294967296 ^ s*(4294967296 ^ i*y)=4294967296 ^ (i+s)*y:=by rw[←Nat.mul_assoc,←Nat.pow_add,Nat.add_comm s i]
 rw[Nat.mul_add,e]
 rw[Nat.mul_add]at h1
 omega
structure ADDP (N:Nat) (a b:List Int) (s:Int):Prop where
 la:LB a
 lb:LB b
 len:a.length=N
 s0:0≤s
 fit:s+b.length≤N
 big:N≤100000
 v:vl a+4294967296 ^ s.toNat*vl b<4294967296 ^ N
theorem cAddT (aq:Bool) (N:Nat) (a L:List Int) (nb:Option Bool) (b:List Int) (s:Int) (h:ADDP N a b s) (hL:L=pad N (vl a+4294967296 ^ s.toNat*vl b)):FnS Tryz.prog 136 ([.ms 0 0 1 none N,injT tN (nb,b),injT tI s]) (⟨[bxW N aq a],[]⟩ ) fun x_ s_=>x_=(.tup [])∧s_=(⟨[bxW N aq L],[]⟩):=by
 refine FnS.of (S:=[(148,_)]) (T:=[]) (U:=[]) (tbl:=[(147,ac147 none,[],19)]) (n:=37) hm31 cfg (.cons (spT3.ok (a:=(.int .u32)) (b:=(.int .u32)) (c:=(.int .u32)) fun x0 x1 x2 h=>cAdd32 x0 x1 x2 h) .nil) .nil .nil (.cons Tryz.call147 Tryz.func147 (ac147_ok none) (by rw[Tryz.ntmps147];exact Nat.le_refl _) .nil) 6 Tryz.call136 Tryz.func136 (ac136_ok (some (1,0))) (by rw[Tryz.ntmps136];exact Nat.le_refl _) rfl _ _ _ (by rfl) ?_
 intro cmp ar cv tn ic ai mx an ad ml sb mn ln em gt up ap sc vw cp rp p1 p2 s1 s2 X Y hX hY r0 r1 r2 r3 r4 r5 r6 r7 r8 r9 r10 r11 r12 r13 r14 r15 r16 r17 r18 r19 r20 r21 r22 r23 r24
 generalize hg0:add32=g0
 generalize hg1:cry32=g1
 cbv
 obtain ⟨hla,hlb,hlen,hs0,hfit,hbig,hv⟩:=h
 obtain ⟨B,hB⟩:∃ B:Int,B=b.length:=⟨_,rfl⟩
 have e1:ic (ln tW b)=B:=by rw[r4,r12,hB]
 rw[e1]
 obtain ⟨V,hV⟩:∃ V,V=vl a+4294967296 ^ s.toNat*vl b:=⟨_,rfl⟩
 rw[←hV]at hL hv
 refine LOOP.ind (σ:=Int×Int×List Int) (fun (i,_,_)=>[(1,.tl nb tW b),(2,.p (iv s)),(6,.ptr 2 0),(7,.fn (.func 147) [] [.ptr 1 0,.ptr 2 0]),(12,.tl nb tW b),(13,.p (iv B)),(14,.p (iv i))])
  (fun (_,c,a')=>⟨[bxW N aq a',{ cells:=[.ms 0 0 1 none N],e:=47,fz:=false },{ cells:=[.p (uw c)],e:=117,fz:=false }],[]⟩)
  (fun (i,_,_)=>(B - i).toNat) (fun (i,c,a')=>0≤i∧i≤B∧0≤c∧c≤1∧LB a'∧a'.length=N∧vl a'+4294967296 ^ (i+s).toNat*c.toNat=vl a+4294967296 ^ s.toNat*vl (b.take i.toNat)) (0,0,a)
  ⟨by omega,by show (0:Int)≤B;omega,by decide,by decide,hla,hlen,by simp[vl]⟩ (.inl ⟨rfl,rfl⟩) ?_
 intro ⟨i,c,a'⟩ hI X' hX
 obtain ⟨hI1,hI2,hc0,hc1,hl',hn',hI3⟩:=hI
 obtain ⟨y,hy⟩:∃ y:Int,y=gt tW b i:=⟨_,rfl⟩
 obtain ⟨j,hj⟩:∃ j,j=ar .add .i64 i s:=⟨_,rfl⟩
 obtain ⟨x,hx⟩:∃ x:Int,x=gt tW a' j:=⟨_,rfl⟩
 have hjv:i≤B→j=i+s:=fun h=>by rw[hj,r1];exact wrap64 (n:=i+s) (by omega) (by omega)
 have hy':y=b.getD i.toNat 0:=by rw[hy,r14];rfl
 have hx':x=a'.getD j.toNat 0:=by rw[hx,r14];rfl
 have hyb:=hlb.getD i.toNat
 have hxb:=hl'.getD j.toNat
 have hadd:i<B→ar .add .i64 i 1=i+1:=fun h=>by rw[r1];exact wrap64 (n:=i+1) (by omega) (by omega)
 have hicN:ic N=N:=by rw[r4]
 cbv
 try simp only[nc_eq]at *
 rw[e1,hicN,←hj,←hx,←hy]
 have hset:∀ z:Int,up tW N a' j z=a'.set j.toNat z:=fun z=>by rw[r15];exact set_up hn' _ _
 refine BR.lss r0 (fun hc=>?_) (fun hc=>?_)
 ·have hjv':=hjv (by omega)
  have hjb:INB j N:=⟨by omega,by omega⟩
  have hib:INB i B:=⟨hI1,hc⟩
  obtain ⟨q1,q2,q3,q4⟩:=addStep hl' (j:=j.toNat) (by omega) (x:=y) (c:=c) (by omega) (by omega) hc0 hc1
  rw[←hx',hg0,hg1]at *
  rw[hadd hc,hset]
  refine ⟨hib,hib,hjb,hjb,⟨by omega,by omega,by omega,by omega,hc0,hc1⟩,hjb,hjb,NEXT.mk (hX (i+1,_,_) _ _ ⟨by omega,by omega,q2,q3,q1,by rw[List.length_set];exact hn',?_⟩ (by show (B - (i+1)).toNat<(B - i).toNat;omega) (.inl ⟨rfl,rfl⟩))⟩
  rw[show (i+1).toNat=i.toNat+1 by omega,vl_take_succ (by omega),←hy',show (i+1+s).toNat=i.toNat+s.toNat+1 by omega]
  have hji:j.toNat=i.toNat+s.toNat:=by omega
  dsimp only
  rw[hji]at q4 ⊢
  rw[show (i+s).toNat=i.toNat+s.toNat by omega]at hI3
  exact add_alg q4 hI3
 have hiB:i=B:=by omega
 subst hiB
 have hT:vl a'+4294967296 ^ (i+s).toNat*c.toNat=V:=by rw[hI3,hV,List.take_of_length_le (by omega)]
 obtain ⟨k0,hk0⟩:∃ k0,k0=ar .add .i64 i s:=⟨_,rfl⟩
 rw[←hk0]
 have hk0v:k0=i+s:=by rw[hk0,←hj];exact hjv (Int.le_refl _)
 refine LOOP.ind (σ:=Int×Int×List Int) (fun (k,_,_)=>[(6,.ptr 2 0),(7,.fn (.func 147) [] [.ptr 1 0,.ptr 2 0]),(10,.p (iv k))])
  (fun (_,c,a')=>⟨[bxW N aq a',{ cells:=[.ms 0 0 1 none N],e:=47,fz:=false },{ cells:=[.p (uw c)],e:=117,fz:=false }],[]⟩)
  (fun (k,_,_)=>(N - k).toNat) (fun (k,c,a')=>0≤k∧k≤N∧0≤c∧c≤1∧LB a'∧a'.length=N∧vl a'+4294967296 ^ k.toNat*c.toNat=V) (k0,c,a')
  ⟨by omega,by show k0≤(N:Int);omega,hc0,hc1,hl',hn',by rw[hk0v];exact hT⟩ (.inl ⟨rfl,rfl⟩) ?_
 clear hX hI3 hT hset hx' hxb hl' hn' hx hy hy' hyb hj hjv hadd
 intro ⟨k,c,a'⟩ hI X2 hY
 obtain ⟨hI1,hI2,hc0,hc1,hl',hn',hI3⟩:=hI
 obtain ⟨x,hx⟩:∃ x:Int,x=gt tW a' k:=⟨_,rfl⟩
 have hx':x=a'.getD k.toNat 0:=by rw[hx,r14];rfl
 have hxb:=hl'.getD k.toNat
 have hset:∀ z:Int,up tW N a' k z=a'.set k.toNat z:=fun z=>by rw[r15];exact set_up hn' _ _
 have hkN:c≠0→k<N:=fun h=>by
  have h1:c=1:=by omega
  subst h1
  have:4294967296 ^ k.toNat<4294967296 ^ N:=by
   have:(1:Int).toNat=1:=rfl
   rw[this,Nat.mul_one]at hI3
   omega
  have:=pow_lt_iff.1 this
  omega
 have hadd:k<N→ar .add .i64 k 1=k+1:=fun h=>by rw[r1];exact wrap64 (n:=k+1) (by omega) (by omega)
 have hend:¬ c≠0→a'=L:=fun h=>by
  have h1:c=0:=Classical.not_not.1 h
  subst h1
  have:(0:Int).toNat=0:=rfl
  rw[this,Nat.mul_zero,Nat.add_zero]at hI3
  rw[hL,←hI3,←hn',pad_of hl']
 cbv
 try simp only[nc_eq]at *
 rw[hicN,←hx]
 refine BR.neq r0 (fun hc=>?_) (fun hc=>?_)
 ·have hk:=hkN hc
  have hkb:INB k N:=⟨hI1,hk⟩
  obtain ⟨q1,q2,q3,q4⟩:=addStep hl' (j:=k.toNat) (by omega) (x:=0) (c:=c) (by omega) (by omega) hc0 hc1
  rw[←hx',hg0,hg1]at *
  rw[hadd hk,hset]
  refine ⟨hkb,hkb,⟨by omega,by omega,by omega,by omega,hc0,hc1⟩,hkb,hkb,NEXT.mk (hY (k+1,_,_) _ _ ⟨by omega,by omega,q2,q3,q1,by rw[List.length_set];exact hn',?_⟩ (by show ((N:Int) - (k+1)).toNat<((N:Int) - k).toNat;omega) (.inl ⟨rfl,rfl⟩))⟩
  rw[show (k+1).toNat=k.toNat+1 by omega]
  dsimp only
  rw[q4,show (0:Int).toNat=0 from rfl,Nat.zero_add];exact hI3
 ·refine RET.mk ⟨[some 0],[],?_⟩
  rw[SIM_iff];cbv;simp[nlLe_self,hend hc]
end Go.Ab
