/- The reference's limbs: differences,products. -/
import Derived.Test.YtlmdgmppeacobaaGreatLk
set_option linter.unusedSimpArgs false
set_option linter.unusedVariables false
set_option maxRecDepth 20000
set_option maxHeartbeats 4000000
namespace Go.Ab
open Go.Proofs
structure DFP (a b:List Int):Prop where
 la:LB a
 lb:LB b
 na:a.length≤100000
 nb:b.length≤100000
 le:vl b≤vl a
def difL (a b:List Int):List Int:=lm (vl a - vl b)
structure RDI (a b:List Int) (o:List Int) (c i:Int):Prop where
 i0:0≤i
 i1:i≤a.length
 c0:0≤c
 c1:c≤1
 lb:LB o
 len:o.length=i.toNat
 v:vl o+vl (b.take i.toNat)=vl (a.take i.toNat)+4294967296 ^ i.toNat*c.toNat
theorem RDI.step {a b:List Int} {o:List Int} {c i S:Int} (h:RDI a b o c i) (ha:LB a) (hb:LB b) (hi:i<a.length) (hS:S=4294967296+a.getD i.toNat 0 - b.getD i.toNat 0 - c) :
  RDI a b (o ++ [S % 4294967296]) (1 - S / 4294967296) (i+1):=by
 have hxa:=ha.getD i.toNat
 have hxb:=hb.getD i.toNat
 have i0:=h.i0
 have c0:=h.c0
 have c1:=h.c1
 have hv:=h.v
 refine ⟨by omega,by omega,by omega,by omega,h.lb.app (.cons (by omega) (by omega) .nil),?_,?_⟩
 ·rw[List.length_append,h.len];show i.toNat+1=(i+1).toNat;omega
 ·rw[show (i+1).toNat=i.toNat+1 by omega,vl_take_any,vl_take_any,vl_append,h.len]
  have e1:vl [S % 4294967296]=(S % 4294967296).toNat:=rfl
  rw[e1,Nat.pow_succ,Nat.mul_assoc]
  obtain ⟨P,hP⟩:∃ P,P=4294967296 ^ i.toNat:=⟨_,rfl⟩
  rw[←hP]at hv ⊢
  have e2:(S % 4294967296).toNat+(b.getD i.toNat 0).toNat+c.toNat=(a.getD i.toNat 0).toNat+4294967296*(1 - S / 4294967296).toNat:=by omega
  have e3:=congrArg (P * ·) e2
  simp only[Nat.mul_add]at e3
  omega
theorem RDI.fin {a b o:List Int} {c i:Int} (h:RDI a b o c i) (ha:LB a) (hb:LB b) (hi:¬ i<a.length) (hle:vl b≤vl a):vl o=vl a - vl b:=by
 have hv:=h.v
 have e:i.toNat=a.length:=by have:=h.i0;have:=h.i1;omega
 have h1:=vl_split_any b a.length
 have h2:=vl_lt ha
 have h3:=vl_lt h.lb
 rw[h.len,e]at h3
 rw[e,List.take_of_length_le (Nat.le_refl _)]at hv
 obtain ⟨P,hP⟩:∃ P,P=4294967296 ^ a.length:=⟨_,rfl⟩
 rw[←hP]at h1 h2 h3 hv
 have h4:vl (b.drop a.length)=0:=by
  rcases Nat.eq_zero_or_pos (vl (b.drop a.length)) with h0 | h0
  ·exact h0
  ·have:=Nat.mul_le_mul_left P h0;omega
 rw[h4,Nat.mul_zero]at h1
 have h5:c.toNat=0:=by
  rcases Nat.eq_zero_or_pos c.toNat with h0 | h0
  ·exact h0
  ·have:=Nat.mul_le_mul_left P h0;omega
 rw[h5,Nat.mul_zero]at hv
 omega
theorem cRDif (na:Option Bool) (a:List Int) (nb:Option Bool) (b:List Int) (h:DFP a b):PurS Tryz.prog 97 [injT tN (na,a),injT tN (nb,b)] (.tl none tW (difL a b)):=by
 refine PurS.of (S:=[(119,_),(118,_)]) (T:=[]) (U:=[]) (tbl:=[]) (n:=36) hm31 cfg (.cons (spT2.ok (a:=(.sl (.int .u32))) (b:=(.int .i64)) fun x0 x1 h=>cLimb x0.1 x0.2 x1 h) (.cons (spT1.ok (a:=(.sl (.int .u32))) fun x0 h=>cRCut x0.1 x0.2 h) .nil)) .nil .nil .nil 0 Tryz.call97 Tryz.func97 (ac97_ok (some (0,0))) (by rw[Tryz.ntmps97];exact Nat.le_refl _) rfl ⟨_,rfl⟩ ?_
 intro cmp ar cv tn ic ai mx an ad ml sb mn ln em gt up ap sc vw cp rp p1 p2 s1 s2 X Y hX hY r0 r1 r2 r3 r4 r5 r6 r7 r8 r9 r10 r11 r12 r13 r14 r15 r16 r17 r18 r19 r20 r21 r22 r23 r24
 generalize hg0:limbI=g0
 generalize hg1:trm=g1
 generalize hg2:difL=g2
 cbv
 have hA:=h.na
 have hB:=h.nb
 obtain ⟨A,hAd⟩:∃ A:Int,A=a.length:=⟨_,rfl⟩
 have hla:ic (ln tW a)=A:=by rw[r4,r12,hAd]
 refine LOOP.ind (σ:=List Int×Int×Int) (fun (o,c,i)=>[(0,.tl na tW a),(1,.tl nb tW b),(5,.og 0 tW o),(6,.p (.v (.int .u64 c))),(7,.p (iv i))]) (fun (o,_,_)=>⟨[],[(ml (ln tW o) 1,117)]⟩)
  (fun (_,c,i)=>(A - i).toNat) (fun (o,c,i)=>RDI a b o c i)
  ([],0,0) ⟨by omega,by omega,by omega,by omega,.nil,rfl,rfl⟩ (.inr ⟨[],[none],?_⟩) ?_
 ·rw[SIM_iff];cbv;simp[nlLe_self,lstEq]
 intro ⟨o,c,i⟩ hI X' hX'
 have i0:=hI.i0
 have i1:=hI.i1
 have il:=hI.len
 have hia:LIP a i↔True:=⟨fun h=>trivial,fun h0=>⟨i0,by omega,h.la⟩⟩
 have hib:LIP b i↔True:=⟨fun h=>trivial,fun h0=>⟨i0,by omega,h.lb⟩⟩
 have hxa:=h.la.getD i.toNat
 have hxb:=h.lb.getD i.toNat
 have hga:g0 a i=a.getD i.toNat 0:=by rw[←hg0];rfl
 have hgb:g0 b i=b.getD i.toNat 0:=by rw[←hg0];rfl
 have c0:=hI.c0
 have c1:=hI.c1
 obtain ⟨S,hS⟩:∃ S,S=4294967296+a.getD i.toNat 0 - b.getD i.toNat 0 - c:=⟨_,rfl⟩
 have hS1:ar .sub .u64 (ar .sub .u64 (ar .add .u64 4294967296 (g0 a i)) (g0 b i)) c=S:=by
  rw[hga,hgb,r1]
  show IntKind.wrap .u64 (IntKind.wrap .u64 (IntKind.wrap .u64 (4294967296+_) - _) - c)=S
  have hw0:=wrap_u64 (x:=4294967296+a.getD i.toNat 0) (by omega) (by omega)
  have hw1:=wrap_u64 (x:=4294967296+a.getD i.toNat 0 - b.getD i.toNat 0) (by omega) (by omega)
  have hw2:=wrap_u64 (x:=4294967296+a.getD i.toNat 0 - b.getD i.toNat 0 - c) (by omega) (by omega)
  rw[hw0,hw1,hw2,hS]
 have hw:cv .u32 (ar .rem .u64 S 4294967296)=S % 4294967296:=by
  rw[r2,r1]
  show IntKind.wrap .u32 (Int.tmod S 4294967296)=_
  rw[Int.tmod_eq_emod_of_nonneg (by omega),wrap_u32,Int.emod_emod]
 have hd:ar .sub .u64 1 (ar .quo .u64 S 4294967296)=1 - S / 4294967296:=by
  rw[r1]
  show IntKind.wrap .u64 (1 - IntKind.wrap .u64 (Int.tdiv S 4294967296))=_
  rw[Int.tdiv_eq_ediv_of_nonneg (by omega),wrap_u64 (x:=S / 4294967296) (by omega) (by omega),wrap_u64 (by omega) (by omega)]
 have hi1:ar .add .i64 i 1=i+1:=by rw[r1];exact wrap64 (n:=i+1) (by omega) (by omega)
 have hstep:i<a.length→RDI a b (o ++ [S % 4294967296]) (1 - S / 4294967296) (i+1):=fun hi=>hI.step h.la h.lb hi hS
 have hap:ap tW o [S % 4294967296]=o ++ [S % 4294967296]:=by rw[r16]
 have hLIM:LIM (ad (ln tW o) (ln tW [S % 4294967296])) 4:=by
  rw[r8,r12];exact LIM_iff.2 ⟨by show (o.length+1)*4≤_;omega,by show o.length+1≤_;omega⟩
 have hEQ:EQN (ml (ln tW o) 1) (ml (ln tW o) 1):=⟨rfl⟩
 have hNZ:NZ 4294967296:=⟨by decide⟩
 cbv
 try simp only[nc_eq]at *
 rw[hla,hia,hib,hS1,hw,hd,hi1,hap]
 refine BR.lss r0 (fun h1=>⟨trivial,trivial,hNZ,hEQ,hLIM,hNZ,NEXT.mk (hX' (o ++ [S % 4294967296],1 - S / 4294967296,i+1) _ _ (hstep (by omega)) (by show (A - (i+1)).toNat<(A - i).toNat;omega) (.inl ⟨rfl,rfl⟩))⟩) (fun h1=>⟨⟨hI.lb,by omega⟩,nlLe_none.2 trivial,?_⟩)
 rw[←hg1,←hg2];unfold trm difL;rw[hI.fin h.la h.lb (by omega) h.le]
structure MP2 (a b:List Int):Prop where
 la:LB a
 lb:LB b
 na:a.length≤1000
 nb:b.length≤1000
structure RPI (a b:List Int) (o:List Int) (i:Int):Prop where
 i0:0≤i
 i1:i≤a.length
 lb:LB o
 len:o.length=a.length+b.length
 z:∀ j,i.toNat+b.length≤j→o.getD j 0=0
 v:vl o=vl (a.take i.toNat)*vl b
structure RPK (a b:List Int) (i:Int) (o:List Int) (c k:Int):Prop where
 k0:0≤k
 k1:k≤b.length
 c0:0≤c
 c1:c<4294967296
 lb:LB o
 len:o.length=a.length+b.length
 z:∀ j,i.toNat+b.length≤j→o.getD j 0=0
 v:vl o+4294967296 ^ (i.toNat+k.toNat)*c.toNat=vl (a.take i.toNat)*vl b+4294967296 ^ i.toNat*((a.getD i.toNat 0).toNat*vl (b.take k.toNat))
end Go.Ab
