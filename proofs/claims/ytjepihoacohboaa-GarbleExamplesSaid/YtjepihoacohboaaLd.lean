/- Sets of garbled bits; bits.Len. -/
import Derived.Test.YtjepihoacohboaaLc
import Derived.Test.YtjepihoacohboaaLen
set_option linter.unusedSimpArgs false
set_option linter.unusedVariables false
set_option maxRecDepth 20000
set_option maxHeartbeats 4000000
namespace Go.Ab
open Go.Proofs
def lenB (n:Int):Int:=Lib.bitLen n.toNat
theorem cLen (n:Int) (h:INB n 18446744073709551616):PurS Try.prog 62 [injT (.int .u64) n] (.p (iv (lenB n))):=by
 refine ⟨_,rfl,?_⟩
 have:=PurFn.of_calls (P:=Try.prog) (f:=62) (vs:=[.int .u64 n]) Try.call62 fun w=>Try.bits_Len n w h.lo (by have:=h.hi;omega)
 have e:concL [injT (.int .u64) n]=[.p (.v (.int .u64 n))]:=by simp[injT,concL,DC.conc]
 rw[e];exact this
structure U64 (x:Int):Prop where
 h0:0≤x
 h1:x<18446744073709551616
structure C2P (a0 a1 b0 b1:Int):Prop where
 a0:U64 a0
 a1:U64 a1
 b0:U64 b0
 b1:U64 b1
def xU (a b:Int):Int:=(a.toNat ^^^ b.toNat:Nat)
theorem xU_eq {a b:Int} (ha:U64 a) (hb:U64 b):arR .xor .u64 a b=xU a b:=by
 have h1:=ha.h0;have h2:=ha.h1;have h3:=hb.h0;have h4:=hb.h1
 have:=xorU (a:=a.toNat) (b:=b.toNat) (by omega) (by omega)
 rwa [show ((a.toNat:Nat):Int)=a by omega,show ((b.toNat:Nat):Int)=b by omega]at this
theorem cWith (a0 a1 b0 b1:Int) (h:C2P a0 a1 b0 b1):PurS Try.prog 63 [injT tC (a0,a1),injT tC (b0,b1)] (.agg [.p (.v (.int .u64 (xU a0 b0))),.p (.v (.int .u64 (xU a1 b1)))]):=by
 refine PurS.of (S:=[]) (T:=[]) (U:=[]) (tbl:=[]) (n:=16) hm11 cfg .nil .nil .nil .nil 0 Try.call63 Try.func63 (ac63_ok (some (0,0))) (by rw[Try.ntmps63];exact Nat.le_refl _) rfl ⟨_,rfl⟩ ?_
 intro cmp ar cv tn ic ai mx an ad ml sb mn ln em gt up ap sc vw cp rp p1 p2 s1 s2 X Y hX hY r0 r1 r2 r3 r4 r5 r6 r7 r8 r9 r10 r11 r12 r13 r14 r15 r16 r17 r18 r19 r20 r21 r22 r23 r24
 generalize hg0:xU=g0
 cbv
 have e0:=xU_eq h.a0 h.b0
 have e1:=xU_eq h.a1 h.b1
 rw[hg0]at e0 e1
 have i0:INB 0 (ic 2):=by rw[r4];exact ⟨by decide,by decide⟩
 have i1:INB 1 (ic 2):=by rw[r4];exact ⟨by decide,by decide⟩
 rw[r1,e0,e1]
 exact ⟨i0,i0,i1,i1,rfl,rfl,trivial⟩
structure HASP (c0 c1 k:Int):Prop where
 c0:U64 c0
 c1:U64 c1
 k0:0≤k
 k1:k<128
def hasM (c0 c1 k:Int):Bool:=if k<64 then c0.toNat.testBit k.toNat else c1.toNat.testBit (k.toNat - 64)
theorem andU {a b:Nat} (ha:a<18446744073709551616) (hb:b<18446744073709551616):arR .and .u64 a b=((a &&& b:Nat):Int):=by
 show IntKind.wrap .u64 ((BitVec.ofInt 64 (a:Int) &&& BitVec.ofInt 64 (b:Int)).toNat:Int)=_
 have hx:a &&& b≤a:=Nat.and_le_left
 rw[BitVec.ofInt_natCast,BitVec.ofInt_natCast,BitVec.toNat_and,BitVec.toNat_ofNat,BitVec.toNat_ofNat,Nat.mod_eq_of_lt (by omega),Nat.mod_eq_of_lt (by omega)]
 exact wrap_u64 (by omega) (by omega)
theorem shrU {a k:Nat} (hk:k≤64):arR .shr .u64 a k=((a / 2 ^ k:Nat):Int):=by
 have hmin:min ((k:Nat):Int).toNat (IntKind.bits .u64)=k:=by
  rw[Int.toNat_natCast];exact Nat.min_eq_left hk
 show (a:Int).fdiv (2 ^ min ((k:Nat):Int).toNat (IntKind.bits .u64))=_
 rw[hmin,Int.fdiv_eq_ediv_of_nonneg _ (by exact Int.pow_nonneg (by decide)),Int.natCast_ediv,Int.natCast_pow];rfl
theorem bitU {c:Int} {k:Nat} (hc:U64 c) (hk:k<64):(arR .and .u64 (arR .shr .u64 c k) 1=1)↔c.toNat.testBit k=true:=by
 have h0:=hc.h0;have h1:=hc.h1
 have e:c=((c.toNat:Nat):Int):=by omega
 have hd:c.toNat / 2 ^ k≤c.toNat:=Nat.div_le_self _ _
 rw[e,shrU (by omega),show (1:Int)=((1:Nat):Int) by rfl,andU (by omega) (by decide),Nat.and_one_is_mod,Nat.testBit_eq_decide_div_mod_eq,decide_eq_true_eq,Int.toNat_natCast]
 omega
theorem quo64 {k:Int} (h0:0≤k) (h1:k<128):arR .quo .i64 k 64=if k<64 then 0 else 1:=by
 show IntKind.wrap .i64 (k.tdiv 64)=_
 rw[Int.tdiv_eq_ediv_of_nonneg h0]
 split
 ·rw[show k / 64=0 by omega];rfl
 ·rw[show k / 64=1 by omega];rfl
theorem rem64 {k:Int} (h0:0≤k) (h1:k<128):arR .rem .i64 k 64=((if k<64 then k.toNat else k.toNat - 64:Nat):Int):=by
 show k.tmod 64=_
 rw[Int.tmod_eq_emod_of_nonneg h0]
 split <;> omega
theorem cHas (c0 c1 k:Int) (h:HASP c0 c1 k):PurS Try.prog 53 [injT tC (c0,c1),injT tI k] (.sb (hasM c0 c1 k)):=by
 refine PurS.of (S:=[]) (T:=[]) (U:=[]) (tbl:=[]) (n:=14) hm11 cfg .nil .nil .nil .nil 0 Try.call53 Try.func53 (ac53_ok (some (0,0))) (by rw[Try.ntmps53];exact Nat.le_refl _) rfl ⟨_,rfl⟩ ?_
 intro cmp ar cv tn ic ai mx an ad ml sb mn ln em gt up ap sc vw cp rp p1 p2 s1 s2 X Y hX hY r0 r1 r2 r3 r4 r5 r6 r7 r8 r9 r10 r11 r12 r13 r14 r15 r16 r17 r18 r19 r20 r21 r22 r23 r24
 generalize hg0:hasM=g0
 cbv
 obtain ⟨h0,h1,hk0,hk1⟩:=h
 have hq:=quo64 hk0 hk1
 have hr:=rem64 hk0 hk1
 have hE:g0 c0 c1 k=if k<64 then c0.toNat.testBit k.toNat else c1.toNat.testBit (k.toNat - 64):=by rw[←hg0];rfl
 rw[r1,r4]
 refine ⟨⟨by decide⟩,?_,?_,?_⟩
 ·rw[hq];split <;> exact ⟨by decide,by decide⟩
 ·refine CASE.mk fun hc=>⟨⟨by decide⟩,?_,?_⟩
  ·rw[hr];exact ⟨by omega⟩
  ·rw[hq]at hc
   have hk:k<64:=by
    split at hc
    ·assumption
    ·exact absurd hc (by decide)
   rw[if_pos hk]at hE hr
   rw[hr]
   have hb:=bitU h0 (k:=k.toNat) (by omega)
   refine BR.eql r0 (fun h=>?_) (fun h=>?_)
   ·rw[hE,hb.1 h]
   ·rw[hE];exact (Bool.eq_false_iff.2 fun h'=>h (hb.2 h')).symm
 ·refine CASE.mk fun hc=>⟨⟨by decide⟩,?_,?_⟩
  ·rw[hr];exact ⟨by omega⟩
  ·rw[hq]at hc
   have hk:¬ k<64:=by
    split at hc
    ·exact absurd hc (by decide)
    ·assumption
   rw[if_neg hk]at hE hr
   rw[hr]
   have hb:=bitU h1 (k:=k.toNat - 64) (by omega)
   refine BR.eql r0 (fun h=>?_) (fun h=>?_)
   ·rw[hE,hb.1 h]
   ·rw[hE];exact (Bool.eq_false_iff.2 fun h'=>h (hb.2 h')).symm
theorem bitLen_log2:∀ (n x:Nat),x<n→x≠0→x<2 ^ 64→Lib.bitLen x=x.log2+1
 | 0,x,h,_,_=>by omega
 | n+1,x,h,h0,h64=>by
  rw[Lib.bitLen_half x h0 h64]
  by_cases h1:x / 2=0
  ·obtain rfl:x=1:=by omega
   rfl
  ·rw[bitLen_log2 n (x / 2) (by omega) h1 (by omega)]
   have:x.log2=(x / 2).log2+1:=by rw[Nat.log2_def,if_pos (by omega)]
   omega
theorem lenB_eq {v:Nat} (h0:v≠0) (h:v<2 ^ 63):lenB v=(v.log2:Int)+1:=by
 unfold lenB
 rw[Int.toNat_natCast,bitLen_log2 (v+1) v (by omega) h0 (by omega)];rfl
def c0 (x:Nat):Int:=(x % 18446744073709551616:Nat)
def c1 (x:Nat):Int:=(x / 18446744073709551616:Nat)
theorem c0U (x:Nat):U64 (c0 x):=⟨by unfold c0;omega,by unfold c0;omega⟩
theorem c1U {x:Nat} (h:x<2 ^ 128):U64 (c1 x):=⟨by unfold c1;omega,by unfold c1;omega⟩
theorem xU0 (x y:Nat):xU (c0 x) (c0 y)=c0 (x ^^^ y):=by
 unfold xU c0
 rw[Int.toNat_natCast,Int.toNat_natCast,show (18446744073709551616:Nat)=2 ^ 64 by rfl,Nat.xor_mod_two_pow]
theorem xU1 (x y:Nat):xU (c1 x) (c1 y)=c1 (x ^^^ y):=by
 unfold xU c1
 rw[Int.toNat_natCast,Int.toNat_natCast,show (18446744073709551616:Nat)=2 ^ 64 by rfl,Nat.xor_div_two_pow]
theorem has_eq {x k:Nat} (hx:x<2 ^ 128) (hk:k<128):hasM (c0 x) (c1 x) k=x.testBit k:=by
 unfold hasM c0 c1
 simp only[Int.toNat_natCast]
 split
 ·rw[show (18446744073709551616:Nat)=2 ^ 64 by rfl,Nat.testBit_mod_two_pow]
  simp;omega
 ·rw[show (18446744073709551616:Nat)=2 ^ 64 by rfl,Nat.testBit_div_two_pow]
  congr 1;omega
end Go.Ab
