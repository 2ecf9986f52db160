/- The reference's limbs: differences,products. -/
import Derived.Test.YtlmdgmppeacobaaGreatLk
set_option linter.unusedSimpArgs false
set_option linter.unusedVariables false
set_option maxRecDepth 20000
set_option maxHeartbeats 4000000
namespace Go.Ab
open Go.Proofs
structure DFP (a b:List Int):Prop where
 la:LB a
 lb:LB b
 na:a.length≤100000
 nb:b.length≤100000
 le:vl b≤vl a
def difL (a b:List Int):List Int:=lm (vl a - vl b)
structure RDI (a b:List Int) (o:List Int) (c i:Int):Prop where
 i0:0≤i
 i1:i≤a.length
 c0:0≤c
 c1:c≤1
 lb:LB o
 len:o.length=i.toNat
 v:vl o+vl (b.take i.toNat)=vl (a.take i.toNat)+4294967296 ^ i.toNat*c.toNat
theorem RDI.step {a b:List Int} {o:List Int} {c i S:Int} (h:RDI a b o c i) (ha:LB a) (hb:LB b) (hi:i<a.length) (hS:S=4294967296+a.getD i.toNat 0 - b.getD i.toNat 0 - c) :
  RDI a b (o ++ [S % 4294967296]) (1 - S / 4294967296) (i+1):=by
 have hxa:=ha.getD i.toNat
 have hxb:=hb.getD i.toNat
 have i0:=h.i0
 have c0:=h.c0
 have c1:=h.c1
 have hv:=h.v
 refine ⟨by omega,by omega,by omega,by omega,h.lb.app (.cons (by omega) (by omega) .nil),?_,?_⟩
 ·rw[List.length_append,h.len];show i.toNat+1=(i+1).toNat;omega
 ·rw[show (i+1).toNat=i.toNat+1 by omega,vl_take_any,vl_take_any,vl_append,h.len]
  have e1:vl [S % 4294967296]=(S % 4294967296).toNat:=rfl
  rw[e1,Nat.pow_succ,Nat.mul_assoc]
  obtain ⟨P,hP⟩:∃ P,P=4294967296 ^ i.toNat:=⟨_,rfl⟩
  rw[←hP]at hv ⊢
  have e2:(S % 4294967296).toNat+(b.getD i.toNat 0).toNat+c.toNat=(a.getD i.toNat 0).toNat+4294967296*(1 - S / 4294967296).toNat:=by omega
  have e3:=congrArg (P * ·) e2
  simp only[Nat.mul_add]at e3
  omega
theorem RDI.fin {a b o:List Int} {c i:Int} (h:RDI a b o c i) (ha:LB a) (hb:LB b) (hi:¬ i<a.length) (hle:vl b≤vl a):vl o=vl a - vl b:=by
 have hv:=h.v
 have e:i.toNat=a.length:=by have:=h.i0;have:=h.i1;omega
 have h1:=vl_split_any b a.length
 have h2:=vl_lt ha
 have h3:=vl_lt h.lb
 rw[h.len,e]at h3
 rw[e,List.take_of_length_le (Nat.le_refl _)]at hv
 obtain ⟨P,hP⟩:∃ P,P=4294967296 ^ a.length:=⟨_,rfl⟩
 rw[←hP]at h1 h2 h3 hv
 have h4:vl (b.drop a.length)=0:=by
  rcases Nat.eq_zero_or_pos (vl (b.drop a.length)) with h0 | h0
  ·exact h0
  ·have:=Nat.mul_le_mul_left P h0;omega
 rw[h4,Nat.mul_zero]at h1
 have h5:c.toNat=0:=by
  rcases Nat.eq_zero_or_pos c.toNat with h0 | h0
  ·exact h0
  ·have:=Nat.mul_le_mul_left P h0;omega
 rw[h5,Nat.mul_zero]at hv
 omega
theorem cRDif (na:Option Bool) (a:List Int) (nb:Option Bool) (b:List Int) (h:DFP a b):PurS Tryz.prog 97 [injT tN (na,a),injT tN (nb,b)] (.tl none tW (difL a b)):=by
 refine PurS.of (S:=[(119,_),(118,_)]) (T:=[]) (U:=[]) (tbl:=[]) (n:=36) hm31 cfg (.cons (spT2.ok (a:=(.sl (.int .u32))) (b:=(.int .i64)) fun x0 x1 h=>cLimb x0.1 x0.2 x1 h) (.cons (spT1.ok (a:=(.sl (.int .u32))) fun x0 h=>cRCut x0.1 x0.2 h) .nil)) .nil .nil .nil 0 Tryz.call97 Tryz.func97 (ac97_ok (some (0,0))) (by rw[Tryz.ntmps97];exact Nat.le_refl _) rfl ⟨_,rfl⟩ ?_
 intro cmp ar cv tn ic ai mx an ad ml sb mn ln em gt up ap sc vw cp rp p1 p2 s1 s2 X Y hX hY r0 r1 r2 r3 r4 r5 r6 r7 r8 r9 r10 r11 r12 r13 r14 r15 r16 r17 r18 r19 r20 r21 r22 r23 r24
 generalize hg0:limbI=g0
 generalize hg1:trm=g1
 generalize hg2:difL=g2
 cbv
 have hA:=h.na
 have hB:=h.nb
 obtain ⟨A,hAd⟩:∃ A:Int,A=a.length:=⟨_,rfl⟩
 have hla:ic (ln tW a)=A:=by rw[r4,r12,hAd]
 refine LOOP.ind (σ:=List Int×Int×Int) (fun (o,c,i)=>[(0,.tl na tW a),(1,.tl nb tW b),(5,.og 0 tW o),(6,.p (.v (.int .u64 c))),(7,.p (iv i))]) (fun (o,_,_)=>⟨[],[(ml (ln tW o) 1,117)]⟩)
  (fun (_,c,i)=>(A - i).toNat) (fun (o,c,i)=>RDI a b o c i)
  ([],0,0) ⟨by omega,by omega,by omega,by omega,.nil,rfl,rfl⟩ (.inr ⟨[],[none],?_⟩) ?_
 ·rw[SIM_iff];cbv;simp[nlLe_self,lstEq]
 intro ⟨o,c,i⟩ hI X' hX'
 have i0:=hI.i0
 have i1:=hI.i1
 have il:=hI.len
 have hia:LIP a i↔True:=⟨fun h=>trivial,fun h0=>⟨i0,by omega,h.la⟩⟩
 have hib:LIP b i↔True:=⟨fun h=>trivial,fun h0=>⟨i0,by omega,h.lb⟩⟩
 have hxa:=h.la.getD i.toNat
 have hxb:=h.lb.getD i.toNat
 have hga:g0 a i=a.getD i.toNat 0:=by rw[←hg0];rfl
 have hgb:g0 b i=b.getD i.toNat 0:=by rw[←hg0];rfl
 have c0:=hI.c0
 have c1:=hI.c1
 obtain ⟨S,hS⟩:∃ S,S=4294967296+a.getD i.toNat 0 - b.getD i.toNat 0 - c:=⟨_,rfl⟩
 have hS1:ar .sub .u64 (ar .sub .u64 (ar .add .u64 4294967296 (g0 a i)) (g0 b i)) c=S:=by
  rw[hga,hgb,r1]
  show IntKind.wrap .u64 (IntKind.wrap .u64 (IntKind.wrap .u64 (4294967296+_) - _) - c)=S
  have hw0:=wrap_u64 (x:=4294967296+a.getD i.toNat 0) (by omega) (by omega)
  have hw1:=wrap_u64 (x:=4294967296+a.getD i.toNat 0 - b.getD i.toNat 0) (by omega) (by omega)
  have hw2:=wrap_u64 (x:=4294967296+a.getD i.toNat 0 - b.getD i.toNat 0 - c) (by omega) (by omega)
  rw[hw0,hw1,hw2,hS]
 have hw:cv .u32 (ar .rem .u64 S 4294967296)=S % 4294967296:=by
  rw[r2,r1]
  show IntKind.wrap .u32 (Int.tmod S 4294967296)=_
  rw[Int.tmod_eq_emod_of_nonneg (by omega),wrap_u32,Int.emod_emod]
 have hd:ar .sub .u64 1 (ar .quo .u64 S 4294967296)=1 - S / 4294967296:=by
  rw[r1]
  show IntKind.wrap .u64 (1 - IntKind.wrap .u64 (Int.tdiv S 4294967296))=_
  rw[Int.tdiv_eq_ediv_of_nonneg (by omega),wrap_u64 (x:=S / 4294967296) (by omega) (by omega),wrap_u64 (by omega) (by omega)]
 have hi1:ar .add .i64 i 1=i+1:=by rw[r1];exact wrap64 (n:=i+1) (by omega) (by omega)
 have hstep:i<a.length→RDI a b (o ++ [S % 4294967296]) (1 - S / 4294967296) (i+1):=fun hi=>hI.step h.la h.lb hi hS
 have hap:ap tW o [S % 4294967296]=o ++ [S % 4294967296]:=by rw[r16]
 have hLIM:LIM (ad (ln tW o) (ln tW [S % 4294967296])) 4:=by
  rw[r8,r12];exact LIM_iff.2 ⟨by show (o.length+1)*4≤_;omega,by show o.length+1≤_;omega⟩
 have hEQ:EQN (ml (ln tW o) 1) (ml (ln tW o) 1):=⟨rfl⟩
 have hNZ:NZ 4294967296:=⟨by decide⟩
 cbv
 try simp only[nc_eq]at *
 rw[hla,hia,hib,hS1,hw,hd,hi1,hap]
 refine BR.lss r0 (fun h1=>⟨trivial,trivial,hNZ,hEQ,hLIM,hNZ,NEXT.mk (hX' (o ++ [S % 4294967296],1 - S / 4294967296,i+1) _ _ (hstep (by omega)) (by show (A - (i+1)).toNat<(A - i).toNat;omega) (.inl ⟨rfl,rfl⟩))⟩) (fun h1=>⟨⟨hI.lb,by omega⟩,nlLe_none.2 trivial,?_⟩)
 rw[←hg1,←hg2];unfold trm difL;rw[hI.fin h.la h.lb (by omega) h.le]
structure MP2 (a b:List Int):Prop where
 la:LB a
 lb:LB b
 na:a.length≤1000
 nb:b.length≤1000
structure RPI (a b:List Int) (o:List Int) (i:Int):Prop where
 i0:0≤i
 i1:i≤a.length
 lb:LB o
 len:o.length=a.length+b.length
 z:∀ j,i.toNat+b.length≤j→o.getD j 0=0
 v:vl o=vl (a.take i.toNat)*vl b
structure RPK (a b:List Int) (i:Int) (o:List Int) (c k:Int):Prop where
 k0:0≤k
 k1:k≤b.length
 c0:0≤c
 c1:c<4294967296
 lb:LB o
 len:o.length=a.length+b.length
 z:∀ j,i.toNat+b.length≤j→o.getD j 0=0
 v:vl o+4294967296 ^ (i.toNat+k.toNat)*c.toNat=vl (a.take i.toNat)*vl b+4294967296 ^ i.toNat*((a.getD i.toNat 0).toNat*vl (b.take k.toNat))
end Go.Ab
namespace Go.Ab
open Go.Proofs
theorem digit2 {l:List Int} (h:LB l) {i:Nat} (hi:i / 32<l.length):arR .rem .u32 (arR .shr .u32 (l.getD (i / 32) 0) ((i % 32:Nat):Int)) 2=((vl l / 2 ^ i % 2:Nat):Int):=by
 have hb:=h.getD (i / 32)
 have he:=bit_eq h hi
 obtain ⟨x,hx⟩:∃ x:Nat,(x:Int)=l.getD (i / 32) 0:=⟨(l.getD (i / 32) 0).toNat,by omega⟩
 rw[←hx,Int.toNat_natCast]at he
 have hk:i % 32<32:=Nat.mod_lt _ (by decide)
 rw[←hx,shrW hk,←he]
 show Int.tmod ((x / 2 ^ (i % 32):Nat):Int) ((2:Nat):Int)=_
 rw[Int.tmod_eq_emod_of_nonneg (Int.natCast_nonneg _)];exact (Int.natCast_emod _ _).symm
structure RDP (a b:List Int):Prop where
 pa:CN a
 pb:CN b
 na:a.length≤1000
 nb:b.length≤1000
 ne:b≠[]
theorem cRDiv (na:Option Bool) (a:List Int) (nb:Option Bool) (b:List Int) (h:RDP a b):PurS Tryz.prog 107 [injT tN (na,a),injT tN (nb,b)] (.tup [.tl none tW (quoL a b),.tl none tW (remL a b)]):=by
 refine PurS.of (S:=[(118,_),(95,_),(96,_),(97,_)]) (T:=[]) (U:=[]) (tbl:=[]) (n:=75) hm31 cfg (.cons (spT1.ok (a:=(.sl (.int .u32))) fun x0 h=>cRCut x0.1 x0.2 h) (.cons (spT2.ok (a:=(.sl (.int .u32))) (b:=(.sl (.int .u32))) fun x0 x1 h=>cRSum x0.1 x0.2 x1.1 x1.2 h) (.cons (spT2.ok (a:=(.sl (.int .u32))) (b:=(.sl (.int .u32))) fun x0 x1 h=>cROrder x0.1 x0.2 x1.1 x1.2 h) (.cons (spT2.ok (a:=(.sl (.int .u32))) (b:=(.sl (.int .u32))) fun x0 x1 h=>cRDif x0.1 x0.2 x1.1 x1.2 h) .nil)))) .nil .nil .nil 0 Tryz.call107 Tryz.func107 (ac107_ok (some (0,0))) (by rw[Tryz.ntmps107];exact Nat.le_refl _) rfl ⟨_,rfl⟩ ?_
 intro cmp ar cv tn ic ai mx an ad ml sb mn ln em gt up ap sc vw cp rp p1 p2 s1 s2 X Y hX hY r0 r1 r2 r3 r4 r5 r6 r7 r8 r9 r10 r11 r12 r13 r14 r15 r16 r17 r18 r19 r20 r21 r22 r23 r24
 generalize hg0:trm=g0
 generalize hg1:addL=g1
 generalize hg2:cmpL=g2
 generalize hg3:difL=g3
 generalize hg4:quoL=g4
 generalize hg5:remL=g5
 cbv
 have hA:=h.na
 have hB:=h.nb
 have hnb:0<b.length:=List.length_pos_iff.2 h.ne
 have hbge:=h.pb.ge h.ne
 have hyv:0<vl b:=Nat.lt_of_lt_of_le (pow_pos _) hbge
 obtain ⟨A,hAd⟩:∃ A:Int,A=a.length:=⟨_,rfl⟩
 obtain ⟨B,hBd⟩:∃ B:Int,B=b.length:=⟨_,rfl⟩
 have hla:ic (ln tW a)=A:=by rw[r4,r12,hAd]
 have hlb:ic (ln tW b)=B:=by rw[r4,r12,hBd]
 obtain ⟨K,hK⟩:∃ K:Int,K=A - B+1:=⟨_,rfl⟩
 have hK1:ar .add .i64 (ar .sub .i64 A B) 1=K:=by
  rw[r1];show IntKind.wrap .i64 (IntKind.wrap .i64 (A - B)+1)=K
  have w1:IntKind.wrap .i64 (A - B)=A - B:=wrap64 (by omega) (by omega)
  rw[w1,hK];exact wrap64 (by omega) (by omega)
 have hln:LIM (ln tW a) 4:=by rw[r12];exact LIM_iff.2 ⟨by show a.length*4≤_;omega,by show a.length≤_;omega⟩
 rw[hla,hlb,hK1]
 refine BR.leq r0 (fun h0=>?_) (fun h0=>?_)
 ·have hlt:=h.pa.len_lt h.pb (by omega)
  refine ⟨hln,⟨nlLe_none.2 trivial,?_⟩,⟨nlLe_none.2 trivial,?_⟩,trivial⟩
  ·rw[←hg4];unfold quoL;rw[Nat.div_eq_of_lt hlt,lm_zero]
  ·rw[←hg5];unfold remL;rw[Nat.mod_eq_of_lt hlt,h.pa.eq]
 obtain ⟨n,hn⟩:∃ n:Nat,(n:Int)=K:=⟨K.toNat,by omega⟩
 have hsc:sc tW a K A=a.drop n:=by
  rw[r17];show (a.take A.toNat).drop K.toNat=_
  rw[List.take_of_length_le (by omega),show K.toNat=n by omega]
 obtain ⟨H,hH⟩:∃ H,H=a.drop n:=⟨_,rfl⟩
 have hHl:H.length=a.length - n:=by rw[hH,List.length_drop]
 have hHlim:LIM (ln tW H) 4:=by rw[r12];exact LIM_iff.2 ⟨by show H.length*4≤_;omega,by show H.length≤_;omega⟩
 have hHb:LB H:=by rw[hH];exact h.pa.lb.drop n
 have hHy:vl H<vl b:=by
  refine Nat.lt_of_lt_of_le (vl_lt hHb) ?_
  rw[hHl,show a.length - n=b.length - 1 by omega];exact hbge
 have e3:tn K=n:=by rw[r3];show K.toNat=n;omega
 obtain ⟨Z,hZ⟩:∃ Z,Z=rp tW n 0:=⟨_,rfl⟩
 have hZv:Z=List.replicate n 0:=by rw[hZ,r20]
 have hmk:MK K K 4:=⟨by omega,Int.le_refl _,by omega,by simp only[maxLen];omega⟩
 obtain ⟨R0,hR0⟩:∃ R0,R0=g0 H:=⟨_,rfl⟩
 have hR0':R0=lm (vl H):=by rw[hR0,←hg0];rfl
 have h32:ar .sub .i64 (ar .mul .i64 32 K) 1=32*K - 1:=by
  rw[r1];show IntKind.wrap .i64 (IntKind.wrap .i64 (32*K) - 1)=_
  have w1:IntKind.wrap .i64 (32*K)=32*K:=wrap64 (by omega) (by omega)
  rw[w1];exact wrap64 (by omega) (by omega)
 have hdv:vl a / 2 ^ (32*n)=vl H:=by
  have h1:=vl_split_any a n
  rw[←hH]at h1
  rw[Nat.pow_mul,show (2:Nat) ^ 32=4294967296 from rfl,h1,Nat.add_mul_div_left _ _ (pow_pos n),Nat.div_eq_of_lt (vl_take_lt h.pa.lb n),Nat.zero_add]
 rw[hsc,←hH,e3,←hZ,h32,←hR0]
 refine ⟨hmk,⟨by omega,by omega,by omega⟩,hHlim,⟨hHb,by omega⟩,?_⟩
 refine LOOP.ind (σ:=Int×List Int×List Int) (fun (i,q,r)=>[(0,.tl na tW a),(1,.tl nb tW b),(7,.ms 0 0 1 none n),(8,.tl none tW r),(9,.p (iv i))])
  (fun (i,q,r)=>⟨[bxW n true q],[]⟩)
  (fun (i,_,_)=>(i+1).toNat) (fun (i,q,r)=>-1≤i∧i<32*K∧NUM n n q (vl a / 2 ^ (i+1).toNat / vl b*2 ^ (i+1).toNat)∧r=lm (vl a / 2 ^ (i+1).toNat % vl b)) (32*K - 1,Z,R0)
  ⟨by omega,by omega,?_,?_⟩ (.inr ⟨[some 0],[],?_⟩) ?_
 ·rw[show (32*K - 1+1).toNat=32*n by omega,hdv,Nat.div_eq_of_lt hHy,Nat.zero_mul,hZv]
  exact ⟨by rw[List.length_replicate],Nat.le_refl _,by omega,.rep _,by rw[List.take_of_length_le (by rw[List.length_replicate];exact Nat.le_refl _),vl_rep]⟩
 ·rw[show (32*K - 1+1).toNat=32*n by omega,hdv,Nat.mod_eq_of_lt hHy];exact hR0'
 ·rw[SIM_iff];cbv;simp[nlLe_self]
 intro ⟨i,q,r⟩ ⟨i0,i1,hq,hr⟩ X' hX'
 obtain ⟨J,hJ⟩:∃ J,J=ar .quo .i64 i 32:=⟨_,rfl⟩
 obtain ⟨T,hT⟩:∃ T,T=cv .u64 (ar .rem .i64 i 32):=⟨_,rfl⟩
 obtain ⟨d,hd⟩:∃ d:Int,d=ar .rem .u32 (ar .shr .u32 (gt tW a J) T) 2:=⟨_,rfl⟩
 obtain ⟨ρ,hρ⟩:∃ ρ,ρ=vl a / 2 ^ (i+1).toNat % vl b:=⟨_,rfl⟩
 obtain ⟨D,hD⟩:∃ D,D=vl a / 2 ^ i.toNat % 2:=⟨_,rfl⟩
 have hd':0≤i→J=((i.toNat / 32:Nat):Int)∧T=((i.toNat % 32:Nat):Int)∧i.toNat / 32<n∧d=D:=fun h0=>by
  obtain ⟨j,rfl⟩:∃ j:Nat,i=j:=⟨i.toNat,by omega⟩
  have h1:J=((j / 32:Nat):Int):=by rw[hJ,r1];exact quo32 (by omega)
  have h2:T=((j % 32:Nat):Int):=by rw[hT,r1,r2,rem32];exact wrap_u64 (by omega) (by omega)
  refine ⟨h1,h2,by omega,?_⟩
  rw[hd,r14,h1,h2,r1,hD]
  exact digit2 h.pa.lb (by omega)
 have hD2:D≤1:=by omega
 have hρy:ρ<vl b:=by rw[hρ];exact Nat.mod_lt _ hyv
 obtain ⟨Lq,hLq⟩:∃ Lq,Lq=up tW n q J (ar .or .u32 (gt tW q J) (ar .shl .u32 1 T)):=⟨_,rfl⟩
 have hsub:0≤i→ar .sub .i64 i 1=i - 1:=fun h=>by rw[r1];exact wrap64 (n:=i - 1) (by omega) (by omega)
 have hX:0≤i→2*(vl a / 2 ^ (i+1).toNat)+D=vl a / 2 ^ i.toNat:=fun h0=>by
  rw[hD,show (i+1).toNat=i.toNat+1 by omega,Nat.pow_succ,←Nat.div_div_eq_div_mul];omega
 have hds:0≤i→if vl b≤2*ρ+D then vl a / 2 ^ i.toNat / vl b=2*(vl a / 2 ^ (i+1).toNat / vl b)+1∧vl a / 2 ^ i.toNat % vl b=2*ρ+D - vl b else vl a / 2 ^ i.toNat / vl b=2*(vl a / 2 ^ (i+1).toNat / vl b)∧vl a / 2 ^ i.toNat % vl b=2*ρ+D:=fun h0=>by
  have:=div_step (X:=vl a / 2 ^ (i+1).toNat) hyv hD2
  rw[hX h0,←hρ]at this;exact this
 have hno:0≤i→¬ vl b≤2*ρ+D→NUM n n q (vl a / 2 ^ (i - 1+1).toNat / vl b*2 ^ (i - 1+1).toNat)∧vl a / 2 ^ (i - 1+1).toNat % vl b=2*ρ+D:=fun h0 h1=>by
  have h2:=hds h0
  rw[if_neg h1]at h2
  rw[show (i - 1+1).toNat=i.toNat by omega,h2.1,h2.2]
  rw[show (i+1).toNat=i.toNat+1 by omega,Nat.pow_succ]at hq
  refine ⟨?_,rfl⟩
  rw[show 2*(vl a / 2 ^ (i+1).toNat / vl b)*2 ^ i.toNat=vl a / 2 ^ (i+1).toNat / vl b*(2 ^ i.toNat*2) by rw[Nat.mul_comm 2 _,Nat.mul_assoc,Nat.mul_comm 2],show (i+1).toNat=i.toNat+1 by omega,Nat.pow_succ]
  exact hq
 have hyes:0≤i→vl b≤2*ρ+D→NUM n n Lq (vl a / 2 ^ (i - 1+1).toNat / vl b*2 ^ (i - 1+1).toNat)∧vl a / 2 ^ (i - 1+1).toNat % vl b=2*ρ+D - vl b:=fun h0 h1=>by
  have h2:=hds h0
  rw[if_pos h1]at h2
  obtain ⟨j1,j2,j3,_⟩:=hd' h0
  rw[show (i - 1+1).toNat=i.toNat by omega,h2.1,h2.2]
  rw[show (i+1).toNat=i.toNat+1 by omega]at hq
  obtain ⟨z,z1,z2⟩:=quo_set hq (by omega)
  refine ⟨?_,rfl⟩
  have e:Lq=q.set (i.toNat / 32) z:=by
   rw[hLq,r15,set_up hq.len,r14,j1,j2,r1,shl1W (Nat.mod_lt _ (by decide)),Int.toNat_natCast]
   show q.set (i.toNat / 32) (arR .or .u32 (q.getD (i.toNat / 32) 0) _)=_
   rw[z1]
  rw[e,show (i+1).toNat=i.toNat+1 by omega];exact z2
 have hend:¬ 0≤i→NUM n n q (vl a / vl b)∧ρ=vl a % vl b:=fun h0=>by
  have:i = -1:=by omega
  subst this
  rw[show ((-1:Int)+1).toNat=0 from rfl,Nat.pow_zero,Nat.div_one]at hq hρ
  rw[Nat.mul_one]at hq
  exact ⟨hq,hρ⟩
 rw[←hρ]at hr
 have hNZ:NZ 32:=⟨by decide⟩
 have hNZ2:NZ 2:=⟨by decide⟩
 have hρl:(lm ρ).length≤1000:=by have:=lm_mono (Nat.le_of_lt hρy);rw[h.pb.eq]at this;omega
 have hρl2:(lm (2*ρ+D)).length≤1001:=by
  have h1:=(lm_len ρ 1000).1 hρl
  have h2:∀ K,K=1001→2*ρ+D<4294967296 ^ K:=fun K hK=>dbl_powW h1 (by omega) hK
  exact (lm_len _ 1001).2 (h2 1001 rfl)
 have hρl3:(lm (2*ρ)).length≤1001:=Nat.le_trans (lm_mono (by omega)) hρl2
 have hsr:SM2 r r:=⟨by rw[hr];exact LB_lm _,by rw[hr];exact LB_lm _,by rw[hr];omega,by rw[hr];omega⟩
 have hg1r:g1 r r=lm (2*ρ):=by rw[←hg1,hr];unfold addL;rw[vl_lm,Nat.two_mul]
 have hg1s:g1 (g1 r r) [1]=lm (2*ρ+1):=by rw[hg1r,←hg1];unfold addL;rw[vl_lm];rfl
 have key:∀ V,V=lm (2*ρ+D)→0≤i→SM2 V b∧BR (cmp .geq (g2 V b) 0)
   (DFP V b∧NZ 32∧NZ 32∧INB J K∧INB J K∧NZ 32∧NN T∧INB J K∧INB J K ∧
    NEXT X' [(0,.tl na tW a),(1,.tl nb tW b),(7,.ms 0 0 1 none n),(8,.tl none tW (g3 V b)),(9,.p (iv (i - 1)))] ⟨[bxW n true Lq],[]⟩)
   (NEXT X' [(0,.tl na tW a),(1,.tl nb tW b),(7,.ms 0 0 1 none n),(8,.tl none tW V),(9,.p (iv (i - 1)))] ⟨[bxW n true q],[]⟩):=fun V hV h0=>by
  obtain ⟨j1,j2,j3,j4⟩:=hd' h0
  have hVl:V.length≤1001:=by rw[hV];exact hρl2
  have hJK:INB J K:=⟨by omega,by omega⟩
  have hgc:g2 V b≥0↔vl b≤2*ρ+D:=by
   rw[←hg2];unfold cmpL;rw[hV,vl_lm];exact cmpN_nonneg
  refine ⟨⟨by rw[hV];exact LB_lm _,h.pb.lb,by omega,by omega⟩,BR.geq r0 (fun h1=>?_) (fun h1=>?_)⟩
  ·have h2:=hgc.1 h1
   obtain ⟨f1,f2⟩:=hyes h0 h2
   refine ⟨⟨by rw[hV];exact LB_lm _,h.pb.lb,by omega,by omega,by rw[hV,vl_lm];exact h2⟩,hNZ,hNZ,hJK,hJK,hNZ,⟨by omega⟩,hJK,hJK,NEXT.mk (hX' (i - 1,Lq,g3 V b) _ _ ⟨by show -1≤i - 1;omega,by show i - 1<32*K;omega,f1,?_⟩ (by show (i - 1+1).toNat<(i+1).toNat;omega) (.inl ⟨rfl,rfl⟩))⟩
   show g3 V b=lm (vl a / 2 ^ (i - 1+1).toNat % vl b)
   rw[f2,←hg3];unfold difL;rw[hV,vl_lm]
  ·obtain ⟨f1,f2⟩:=hno h0 (fun h2=>h1 (hgc.2 h2))
   refine NEXT.mk (hX' (i - 1,q,V) _ _ ⟨by show -1≤i - 1;omega,by show i - 1<32*K;omega,f1,?_⟩ (by show (i - 1+1).toNat<(i+1).toNat;omega) (.inl ⟨rfl,rfl⟩))
   show V=lm (vl a / 2 ^ (i - 1+1).toNat % vl b)
   rw[f2,hV]
 have hicn:ic n=K:=by rw[r4];exact hn
 cbv
 try simp only[nc_eq]at *
 rw[hla,hicn,←hJ,←hT,←hd,←hLq]
 refine BR.geq r0 (fun h0=>?_) (fun h0=>?_)
 ·obtain ⟨j1,j2,j3,j4⟩:=hd' h0
  have hJA:INB J A:=⟨by omega,by omega⟩
  rw[hsub h0]
  refine ⟨hsr,hNZ,hJA,hJA,hNZ,⟨by omega⟩,hNZ2,BR.eql r0 (fun h1=>⟨⟨by rw[hg1r];exact LB_lm _,.cons (by decide) (by decide) .nil,by rw[hg1r];omega,by decide⟩,key _ (by rw[hg1s,show D=1 by omega]) h0⟩) (fun h1=>key _ (by rw[hg1r,show D=0 by omega];rfl) h0)⟩
 ·obtain ⟨f1,f2⟩:=hend h0
  have v3:vw tW n q 0 n=q:=by
   rw[r18];unfold vwR;rw[Ty.norm_eq tW f1.len,List.drop_zero,List.take_of_length_le (by rw[f1.len];exact Nat.le_refl _)]
  rw[v3]
  have fv:=f1.v
  rw[List.take_of_length_le (by rw[f1.len];exact Nat.le_refl _)]at fv
  refine ⟨⟨Nat.le_refl _⟩,⟨f1.lb,by rw[f1.len];omega⟩,⟨nlLe_none.2 trivial,?_⟩,⟨nlLe_none.2 trivial,?_⟩,trivial⟩
  ·rw[←hg0,←hg4];unfold trm quoL;rw[fv]
  ·rw[hr,←hg5];unfold remL;rw[f2]
structure RCP (a b:List Int):Prop where
 pa:CN a
 pb:CN b
 na:a.length≤1000
 nb:b.length≤1000
theorem cRCom (na:Option Bool) (a:List Int) (nb:Option Bool) (b:List Int) (h:RCP a b):PurS Tryz.prog 92 [injT tN (na,a),injT tN (nb,b)] (.tl none tW (gcdL a b)):=by
 refine PurS.of (S:=[(107,_)]) (T:=[]) (U:=[]) (tbl:=[]) (n:=20) hm31 cfg (.cons (spT2.ok (a:=(.sl (.int .u32))) (b:=(.sl (.int .u32))) fun x0 x1 h=>cRDiv x0.1 x0.2 x1.1 x1.2 h) .nil) .nil .nil .nil 0 Tryz.call92 Tryz.func92 (ac92_ok (some (0,0))) (by rw[Tryz.ntmps92];exact Nat.le_refl _) rfl ⟨_,rfl⟩ ?_
 intro cmp ar cv tn ic ai mx an ad ml sb mn ln em gt up ap sc vw cp rp p1 p2 s1 s2 X Y hX hY r0 r1 r2 r3 r4 r5 r6 r7 r8 r9 r10 r11 r12 r13 r14 r15 r16 r17 r18 r19 r20 r21 r22 r23 r24
 generalize hg0:quoL=g0
 generalize hg1:remL=g1
 generalize hg2:gcdL=g2
 cbv
 refine LOOP.ind (σ:=List Int×List Int×Option Bool×Option Bool) (fun (a,b,na,nb)=>[(0,.tl na tW a),(1,.tl nb tW b)]) (fun _=>⟨[],[]⟩)
  (fun (a,b,_,_)=>vl b) (fun (a',b',_,_)=>RCP a' b'∧Nat.gcd (vl a') (vl b')=Nat.gcd (vl a) (vl b)) (a,b,na,nb) ⟨h,rfl⟩ (.inl ⟨rfl,rfl⟩) ?_
 intro ⟨x,y,nx,ny⟩ ⟨hp,hG⟩ X' hX'
 have hxl:=hp.na
 have hyl:=hp.nb
 have hly:ic (ln tW y)=y.length:=by rw[r4,r12]
 cbv
 try simp only[nc_eq]at *
 rw[hly]
 refine BR.gtr r0 (fun h0=>?_) (fun h0=>?_)
 ·have hne:y≠[]:=fun h1=>by rw[h1]at h0;exact absurd h0 (by decide)
  have hyv:0<vl y:=Nat.lt_of_lt_of_le (pow_pos _) (hp.pb.ge hne)
  have hm:vl x % vl y<vl y:=Nat.mod_lt _ hyv
  have e:g1 x y=lm (vl x % vl y):=by rw[←hg1];rfl
  have hl:(lm (vl x % vl y)).length≤1000:=by have:=lm_mono (Nat.le_of_lt hm);rw[hp.pb.eq]at this;omega
  refine ⟨⟨hp.pa,hp.pb,hxl,hyl,hne⟩,NEXT.mk (hX' (y,g1 x y,ny,none) _ _ ⟨⟨hp.pb,by rw[e];exact CN_lm _,hyl,by rw[e];exact hl⟩,?_⟩ (by show vl (g1 x y)<vl y;rw[e,vl_lm];exact hm) (.inl ⟨rfl,rfl⟩))⟩
  show Nat.gcd (vl y) (vl (g1 x y))=_
  rw[e,vl_lm,Nat.gcd_comm,←Nat.gcd_rec,Nat.gcd_comm];exact hG
 ·have hye:y=[]:=List.length_eq_zero_iff.1 (by omega)
  have hlim:LIM (ln tW x) 4:=by rw[r12];exact LIM_iff.2 ⟨by show x.length*4≤_;omega,by show x.length≤_;omega⟩
  refine ⟨hlim,nlLe_none.2 trivial,?_⟩
  rw[←hg2];unfold gcdL
  rw[←hG,hye,show vl []=0 from rfl,Nat.gcd_zero_right,hp.pa.eq]
end Go.Ab
namespace Go.Ab
open Go.Proofs
def eqI (a b:List Int):Bool:=decide (a=b)
theorem cEqLimbs (na:Option Bool) (a:List Int) (nb:Option Bool) (b:List Int) (h:Short 2000 a):PurS Tryz.prog 105 [injT tN (na,a),injT tN (nb,b)] (.sb (eqI a b)):=by
 refine PurS.of (S:=[]) (T:=[]) (U:=[]) (tbl:=[]) (n:=26) hm31 cfg .nil .nil .nil .nil 0 Tryz.call105 Tryz.func105 (ac105_ok (some (0,0))) (by rw[Tryz.ntmps105];exact Nat.le_refl _) rfl ⟨_,rfl⟩ ?_
 intro cmp ar cv tn ic ai mx an ad ml sb mn ln em gt up ap sc vw cp rp p1 p2 s1 s2 X Y hX hY r0 r1 r2 r3 r4 r5 r6 r7 r8 r9 r10 r11 r12 r13 r14 r15 r16 r17 r18 r19 r20 r21 r22 r23 r24
 generalize hg0:eqI=g0
 cbv
 refine BR.mk ?_ ?_ <;> intro hc
 ·subst_vars
  simp only[Short_iff,cmpR,arR,mxR,INB_iff,SLB_iff,SLM_iff,NZ_iff,NN_iff,EQN_iff,LEN_iff,LIM_iff,MK_iff,decide_eq_true_eq,decide_eq_false_iff_not,ne_eq,Bool.and_eq_true,nc_eq]at *
  grind [eqI]
 ·refine LOOP.ind (σ:=Int) (fun i=>[(0,.tl na tW a),(1,.tl nb tW b),(5,.p (iv i))]) (fun _=>⟨[],[]⟩) (fun i=>(a.length - i).toNat) (fun i=>0≤i∧i≤a.length∧(a.drop i.toNat=b.drop i.toNat↔a=b)) 0 (by simp) (.inl ⟨rfl,rfl⟩) ?_
  intro i hI X' hX
  have hd:=drop_eq (t:=tW) (a:=a) (b:=b) (i:=i)
  have he:=gtR_end (l:=a) (i:=i)
  have he':=gtR_end (l:=b) (i:=i)
  have h:=h.h
  cbv
  repeat' (first | exact True.intro | refine And.intro ?_ ?_ | (refine BR.mk ?_ ?_ <;> intro _) | (refine CASE.mk ?_;intro _) | refine NEXT.mk (hX _ _ _ ?_ ?_ (.inl ⟨rfl,rfl⟩)))
  all_goals clear hX
  all_goals subst_vars
  all_goals try simp only[Short_iff,cmpR,arR,mxR,INB_iff,SLB_iff,SLM_iff,NZ_iff,NN_iff,EQN_iff,LEN_iff,LIM_iff,MK_iff,decide_eq_true_eq,decide_eq_false_iff_not,ne_eq,Bool.and_eq_true]at *
  all_goals try dsimp only[Ty.den]at *
  all_goals try simp only[nc_eq]at *
  all_goals try (simp (disch:=omega) only[wrap64]at *)
  all_goals grind [eqI]
theorem cEqNat (na:Option Bool) (a:List Int) (nb:Option Bool) (b:List Int) (h:Short 2000 a):PurS Tryz.prog 79 [injT tN (na,a),injT tN (nb,b)] (.sb (eqI a b)):=by
 refine PurS.of (S:=[(105,_)]) (T:=[]) (U:=[]) (tbl:=[]) (n:=8) hm31 cfg (.cons (spT2.ok (a:=(.sl (.int .u32))) (b:=(.sl (.int .u32))) fun x0 x1 h=>cEqLimbs x0.1 x0.2 x1.1 x1.2 h) .nil) .nil .nil .nil 0 Tryz.call79 Tryz.func79 (ac79_ok (some (0,0))) (by rw[Tryz.ntmps79];exact Nat.le_refl _) rfl ⟨_,rfl⟩ ?_
 intro cmp ar cv tn ic ai mx an ad ml sb mn ln em gt up ap sc vw cp rp p1 p2 s1 s2 X Y hX hY r0 r1 r2 r3 r4 r5 r6 r7 r8 r9 r10 r11 r12 r13 r14 r15 r16 r17 r18 r19 r20 r21 r22 r23 r24
 generalize hg0:eqI=g0
 cbv
 refine ⟨h,BR.mk (fun h=>h.symm) (fun h=>h.symm)⟩
def eqR (s:Bool) (a b:List Int) (s':Bool) (a' b':List Int):Bool:=decide (s=s') && eqI a a' && eqI b b'
theorem cEqR (s:Bool) (na:Option Bool) (a:List Int) (nb:Option Bool) (b:List Int) (s':Bool) (na':Option Bool) (a':List Int) (nb':Option Bool) (b':List Int) (ha:Short 2000 a) (hb:Short 2000 b):PurS Tryz.prog 46 [injT tR (s,(na,a),(nb,b)),injT tR (s',(na',a'),(nb',b'))] (.sb (eqR s a b s' a' b')):=by
 refine PurS.of (S:=[(79,_)]) (T:=[]) (U:=[]) (tbl:=[]) (n:=24) hm31 cfg (.cons (spT2.ok (a:=(.sl (.int .u32))) (b:=(.sl (.int .u32))) fun x0 x1 h=>cEqNat x0.1 x0.2 x1.1 x1.2 h) .nil) .nil .nil .nil 0 Tryz.call46 Tryz.func46 (ac46_ok (some (0,0))) (by rw[Tryz.ntmps46];exact Nat.le_refl _) rfl ⟨_,rfl⟩ ?_
 intro cmp ar cv tn ic ai mx an ad ml sb mn ln em gt up ap sc vw cp rp p1 p2 s1 s2 X Y hX hY r0 r1 r2 r3 r4 r5 r6 r7 r8 r9 r10 r11 r12 r13 r14 r15 r16 r17 r18 r19 r20 r21 r22 r23 r24
 generalize hg0:eqI=g0
 generalize hg1:eqR=g1
 cbv
 have e:g1 s a b s' a' b'=(decide (s=s') && g0 a a' && g0 b b'):=by rw[←hg0,←hg1];rfl
 have k1:∀ t:Bool,s=t→s'=t→Short 2000 a∧BR (g0 a a') (Short 2000 b∧BR (g0 b b') (true=g1 s a b s' a' b') (false=g1 s a b s' a' b')) (false=g1 s a b s' a' b'):=fun t h1 h2=>by
  refine ⟨ha,BR.mk (fun h3=>⟨hb,BR.mk (fun h4=>?_) (fun h4=>?_)⟩) (fun h3=>?_)⟩
  ·rw[e,h1,h2,h3,h4];simp
  ·rw[e,h1,h2,h3,h4];simp
  ·rw[e,h1,h2,h3];simp
 refine BR.mk (fun h1=>BR.mk (fun h2=>k1 true h1 h2) (fun h2=>?_)) (fun h1=>BR.mk (fun h2=>?_) (fun h2=>k1 false h1 h2))
 ·rw[e,h1,h2];simp
 ·rw[e,h1,h2];simp
def rnum (s:Bool) (n d:Nat):Rat:=mkRat (if s then -(n:Int) else n) d
def qS (q:Rat):Bool:=decide (q.num<0)
def qN (q:Rat):List Int:=lm q.num.natAbs
def qD (q:Rat):List Int:=if q.den=1 then [] else lm q.den
def dn (l:List Int):Nat:=if l=[] then 1 else vl l
def rv (s:Bool) (a b:List Int):Rat:=rnum s (vl a) (dn b)
theorem rnum_low {s:Bool} {n d:Nat} (h:d≠0):(rnum s n d).num=(if s then -((n / Nat.gcd n d:Nat):Int) else ((n / Nat.gcd n d:Nat):Int))∧(rnum s n d).den=d / Nat.gcd n d:=by
 have e:(if s then -(n:Int) else n).natAbs=n:=by split <;> simp
 have hg:((Nat.gcd n d:Nat):Int) ∣ (n:Int):=Int.natCast_dvd_natCast.2 (Nat.gcd_dvd_left n d)
 unfold rnum
 rw[Rat.mkRat_def,dif_neg h,Rat.normalize_eq]
 simp only[e]
 refine ⟨?_,trivial⟩
 cases s
 ·simp only[Bool.false_eq_true,if_false];exact (Int.natCast_ediv _ _).symm
 ·simp only[if_true];rw[Int.neg_ediv_of_dvd hg,Int.natCast_ediv]
def unB (l:List Int):Bool:=decide (l=[1])
def rchk (s:Bool) (a b:List Int):Int:=
 if a.length>128∨b.length>128 then 4
 else if bchk a≠0∨bchk b≠0∨b=[1]∨(a=[]∧(s=true∨b≠[])) then 2
 else if b≠[]∧gcdL a b≠[1] then 2 else 0
structure RK (s:Bool) (a b:List Int):Prop where
 ca:CN a
 cb:CN b
 la:a.length≤128
 lb:b.length≤128
 b1:b≠[1]
 z:a=[]→s=false∧b=[]
 g:b≠[]→Nat.gcd (vl a) (vl b)=1
theorem bchk_cn {l:List Int} (h:LB l) (hc:bchk l=0):CN l:=by
 refine CN.of_last h fun hne h0=>?_
 have hl:=List.length_pos_iff.2 hne
 unfold bchk endB at hc
 split at hc
 ·exact absurd hc (by decide)
 ·split at hc
  ·exact absurd hc (by decide)
  ·rename_i h2
   exact h2 (by simp only[decide_eq_true_eq];exact ⟨hl,h0⟩)
theorem lm_one {n:Nat}:lm n=[1]↔n=1:=⟨fun h=>by have:=vl_lm n;rw[h]at this;exact this.symm,fun h=>by subst h;rw[lm_pos (by decide),show 1 / 4294967296=0 from rfl,lm_zero];rfl⟩
theorem rchk_ok {s:Bool} {a b:List Int} (ha:LB a) (hb:LB b):rchk s a b=0↔RK s a b:=by
 unfold rchk gcdL
 constructor
 ·intro h
  split at h
  ·exact absurd h (by decide)
  ·split at h
   ·exact absurd h (by decide)
   ·rename_i h1 h2
    split at h
    ·exact absurd h (by decide)
    ·rename_i h3
     refine ⟨bchk_cn ha ?_,bchk_cn hb ?_,by omega,by omega,fun h4=>h2 (.inr (.inr (.inl h4))),fun h4=>?_,fun h4=>?_⟩
     ·exact Classical.byContradiction fun h4=>h2 (.inl h4)
     ·exact Classical.byContradiction fun h4=>h2 (.inr (.inl h4))
     ·have h5:¬ (s=true∨b≠[]):=fun h5=>h2 (.inr (.inr (.inr ⟨h4,h5⟩)))
      refine ⟨?_,Classical.byContradiction fun h6=>h5 (.inr h6)⟩
      cases s
      ·rfl
      ·exact absurd (.inl rfl) h5
     ·exact lm_one.1 (Classical.byContradiction fun h5=>h3 ⟨h4,h5⟩)
 ·intro h
  have la:=h.la
  have lb:=h.lb
  rw[if_neg (by omega),if_neg,if_neg]
  ·rintro ⟨h1,h2⟩;exact h2 (lm_one.2 (h.g h1))
  ·rintro (h1 | h1 | h1 | ⟨h1,h2⟩)
   ·exact h1 (NM.chk ⟨h.ca,by omega⟩)
   ·exact h1 (NM.chk ⟨h.cb,by omega⟩)
   ·exact h.b1 h1
   ·obtain ⟨h3,h4⟩:=h.z h1
    rcases h2 with h2 | h2
    ·rw[h3]at h2;exact absurd h2 (by decide)
    ·exact h2 h4
theorem RK.dn0 {s:Bool} {a b:List Int} (h:RK s a b):dn b≠0∧Nat.gcd (vl a) (dn b)=1:=by
 unfold dn
 split
 ·exact ⟨by decide,Nat.gcd_one_right _⟩
 ·rename_i hb
  refine ⟨fun h0=>hb ?_,h.g hb⟩
  rw[←h.cb.eq,h0,lm_zero]
theorem RK.rv {s:Bool} {a b:List Int} (h:RK s a b):(rv s a b).num=(if s then -(vl a:Int) else vl a)∧(rv s a b).den=dn b:=by
 obtain ⟨h0,h1⟩:=h.dn0
 have:=rnum_low (s:=s) (n:=vl a) h0
 rw[h1,Nat.div_one,Nat.div_one]at this
 exact this
theorem RK.back {s:Bool} {a b:List Int} (h:RK s a b):qS (Ab.rv s a b)=s∧qN (Ab.rv s a b)=a∧qD (Ab.rv s a b)=b:=by
 obtain ⟨h1,h2⟩:=h.rv
 unfold qS qN qD
 rw[h1,h2]
 refine ⟨?_,?_,?_⟩
 ·cases s
  ·simp only[Bool.false_eq_true,if_false];exact decide_eq_false (by omega)
  ·simp only[if_true]
   have:vl a≠0:=fun h0=>by
    have:a=[]:=by rw[←h.ca.eq,h0,lm_zero]
    exact absurd (h.z this).1 (by decide)
   exact decide_eq_true (by omega)
 ·have e:(if s then -(vl a:Int) else (vl a:Int)).natAbs=vl a:=by split <;> simp
  rw[e];exact h.ca.eq
 ·unfold dn
  by_cases hb:b=[]
  ·rw[if_pos hb,if_pos rfl,hb]
  ·rw[if_neg hb,if_neg,h.cb.eq]
   intro h3
   exact h.b1 (by rw[←h.cb.eq,h3];exact lm_one.2 rfl)
end Go.Ab
