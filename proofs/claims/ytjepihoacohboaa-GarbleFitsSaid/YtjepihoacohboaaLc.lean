/- The reference's remainders and overlays. -/
import Derived.Test.YtjepihoacohboaaLb
set_option linter.unusedSimpArgs false
set_option linter.unusedVariables false
set_option maxRecDepth 20000
set_option maxHeartbeats 4000000
namespace Go.Ab
open Go.Proofs
theorem remT {a b:Nat}:arR .rem .i64 (a:Int) (b:Int)=((a % b:Nat):Int):=by
 show (a:Int).tmod (b:Int)=_
 rw[Int.tmod_eq_emod_of_nonneg (by omega)];exact (Int.natCast_emod a b).symm
theorem mulI {a b:Nat} (h:a*b<9223372036854775808):arR .mul .i64 (a:Int) (b:Int)=((a*b:Nat):Int):=by
 show IntKind.wrap .i64 ((a:Int)*(b:Int))=_
 rw[←Int.natCast_mul];exact wrapI h
theorem addI {a b:Nat} (h:a+b<9223372036854775808):arR .add .i64 (a:Int) (b:Int)=((a+b:Nat):Int):=by
 show IntKind.wrap .i64 ((a:Int)+(b:Int))=_
 rw[←Int.natCast_add];exact wrapI h
theorem numN_cons {b:List Int} {i:Int} (v:Nat) (h0:0≤i) (h1:i<b.length):numN v (b.drop i.toNat)=numN (2*v+(gtR tB b i).toNat) (b.drop (i+1).toNat):=by rw[gtR_drop (t:=tB) h0 h1];rfl
theorem cRRem (nb:Option Bool) (b:List Int) (h:REMP b):PurS Try.prog 82 [injT (.sl tB) (nb,b)] (.p (iv (remI b))):=by
 refine PurS.of (S:=[]) (T:=[]) (U:=[]) (tbl:=[]) (n:=28) hm11 cfg .nil .nil .nil .nil 0 Try.call82 Try.func82 (ac82_ok (some (0,0))) (by rw[Try.ntmps82];exact Nat.le_refl _) rfl ⟨_,rfl⟩ ?_
 intro cmp ar cv tn ic ai mx an ad ml sb mn ln em gt up ap sc vw cp rp p1 p2 s1 s2 X Y hX hY r0 r1 r2 r3 r4 r5 r6 r7 r8 r9 r10 r11 r12 r13 r14 r15 r16 r17 r18 r19 r20 r21 r22 r23 r24
 generalize hg0:remI=g0
 cbv
 obtain ⟨hb,hl⟩:=h
 have hla:ic (ln tB b)=b.length:=by rw[r4,r12]
 obtain ⟨z,hz⟩:∃ z,z=g0 b:=⟨_,rfl⟩
 have hz':z=(remN 0 b:Nat):=by rw[hz,←hg0];rfl
 rw[←hz]
 obtain ⟨N,hN⟩:∃ N:Int,N=b.length:=⟨_,rfl⟩
 rw[←hN]at hla
 refine LOOP.ind (σ:=Int×Int) (fun (R,i)=>[(0,.tl nb tB b),(3,.p (iv R)),(4,.p (iv i))]) (fun _=>⟨[],[]⟩) (fun (R,i)=>(N - i).toNat)
  (fun (R,i)=>0≤i∧i≤N∧∃ r:Nat,R=r∧r<16777216∧remN r (b.drop i.toNat)=remN 0 b) (0,0) ⟨by omega,by show (0:Int)≤N;omega,0,rfl,by decide,rfl⟩ (.inl ⟨rfl,rfl⟩) ?_
 intro ⟨R,i⟩ hI X' hX
 obtain ⟨hI1,hI2,r,hI3,hI4,hI5⟩:=hI
 obtain ⟨x,hx⟩:∃ x:Int,x=gt tB b i:=⟨_,rfl⟩
 have hadd:i<N→ar .add .i64 i 1=i+1:=fun h=>by rw[r1];exact wrap64 (n:=i+1) (by omega) (by omega)
 have hend:¬ i<N→R=z:=fun h=>by rw[hz',←hI5,gtR_end (by omega),hI3];rfl
 have hx01:i<N→cv .i64 x=x∧(x=0∨x=1):=fun h=>by
  have:x=0∨x=1:=by rw[hx,r14];exact hb _ (gtR_mem (t:=tB) (by omega) (by omega))
  refine ⟨?_,this⟩
  rw[r2];exact wrap64 (n:=x) (by omega) (by omega)
 obtain ⟨T,hT⟩:∃ T,T=ar .rem .i64 (ar .shr .i64 R 23) 2:=⟨_,rfl⟩
 obtain ⟨L,hL⟩:∃ L,L=ar .rem .i64 (ar .mul .i64 R 2) 16777216:=⟨_,rfl⟩
 have hTv:T=(r / 8388608 % 2:Nat):=by rw[hT,r1,hI3,show (23:Int)=((23:Nat):Int) by rfl,shrI (by decide)];exact remT (b:=2)
 have hLv:L=(r*2 % 16777216:Nat):=by rw[hL,r1,hI3,show arR .mul .i64 (r:Int) 2=((r*2:Nat):Int) from mulI (a:=r) (b:=2) (by omega)];exact remT (b:=16777216)
 have hst:i<N→remN (shN r x.toNat) (b.drop (i+1).toNat)=remN 0 b:=fun h=>by
  rw[←hI5,remN_cons r hI1 (by omega)]
  rw[hx,r14]
 have hxT:i<N→(T≠x↔r / 8388608 % 2≠x.toNat):=fun h=>by
  obtain ⟨_,hx⟩:=hx01 h
  omega
 have hsh:i<N→ar .xor .i64 L 16774153=(r*2 % 16777216 ^^^ 16774153:Nat):=fun h=>by
  rw[r1,hLv,show (16774153:Int)=((16774153:Nat):Int) by rfl,xorI (by omega) (by decide)]
 clear hI3 hI5
 cbv
 try simp only[nc_eq]at *
 rw[hla,←hx,←hT,←hL]
 refine BR.lss r0 (fun hc=>?_) hend
 have h1:INB i N:=⟨hI1,hc⟩
 rw[(hx01 hc).1,hadd hc]
 refine ⟨⟨by decide⟩,⟨by decide⟩,h1,h1,BR.neq r0 (fun h=>⟨⟨by decide⟩,?_⟩) (fun h=>⟨⟨by decide⟩,?_⟩)⟩
 ·refine NEXT.mk (hX (_,i+1) _ _ ⟨by omega,by omega,shN r x.toNat,?_,shN_lt _ _,hst hc⟩ (by show (N - (i+1)).toNat<(N - i).toNat;omega) (.inl ⟨rfl,rfl⟩))
  rw[hsh hc];unfold shN;rw[if_neg ((hxT hc).1 h)]
 ·refine NEXT.mk (hX (_,i+1) _ _ ⟨by omega,by omega,shN r x.toNat,?_,shN_lt _ _,hst hc⟩ (by show (N - (i+1)).toNat<(N - i).toNat;omega) (.inl ⟨rfl,rfl⟩))
  rw[hLv];unfold shN;rw[if_pos (Decidable.byContradiction fun h'=>h ((hxT hc).2 h'))]
structure OVP (b:List Int):Prop where
 bt:BITS b
 l:b.length≤200
 m:24≤b.length
def ovI (b:List Int):Int:=(ovN b:Nat)
theorem cROv (nb:Option Bool) (b:List Int) (h:OVP b):PurS Try.prog 67 [injT (.sl tB) (nb,b)] (.p (iv (ovI b))):=by
 refine PurS.of (S:=[(82,_)]) (T:=[]) (U:=[]) (tbl:=[]) (n:=30) hm11 cfg (.cons (spT1.ok (a:=(.sl (.int .u8))) fun x0 h=>cRRem x0.1 x0.2 h) .nil) .nil .nil .nil 0 Try.call67 Try.func67 (ac67_ok (some (0,0))) (by rw[Try.ntmps67];exact Nat.le_refl _) rfl ⟨_,rfl⟩ ?_
 intro cmp ar cv tn ic ai mx an ad ml sb mn ln em gt up ap sc vw cp rp p1 p2 s1 s2 X Y hX hY r0 r1 r2 r3 r4 r5 r6 r7 r8 r9 r10 r11 r12 r13 r14 r15 r16 r17 r18 r19 r20 r21 r22 r23 r24
 generalize hg0:ovI=g0
 generalize hg1:remI=g1
 cbv
 obtain ⟨hb,hl,h24⟩:=h
 have hla:ic (ln tB b)=b.length:=by rw[r4,r12]
 obtain ⟨z,hz⟩:∃ z,z=g0 b:=⟨_,rfl⟩
 have hz':z=(ovN b:Nat):=by rw[hz,←hg0];rfl
 rw[←hz]
 obtain ⟨N,hN⟩:∃ N:Int,N=b.length:=⟨_,rfl⟩
 rw[←hN]at hla
 obtain ⟨M,hM⟩:∃ M:Int,M=N - 24:=⟨_,rfl⟩
 have hsub:ar .sub .i64 N 24=M:=by rw[r1,hM];exact wrap64 (n:=N - 24) (by omega) (by omega)
 rw[hla,hsub]
 have hMn:b.length - 24=M.toNat:=by omega
 refine LOOP.ind (σ:=Int×Int) (fun (V,i)=>[(0,.tl nb tB b),(3,.p (iv M)),(4,.p (iv V)),(5,.p (iv i))]) (fun _=>⟨[],[]⟩) (fun (V,i)=>(N - i).toNat)
  (fun (V,i)=>M≤i∧i≤N∧∃ v:Nat,V=v∧v<2 ^ (i - M).toNat∧numN v (b.drop i.toNat)=numN 0 (b.drop M.toNat)) (0,M) ⟨Int.le_refl _,by show M≤N;omega,0,rfl,Nat.two_pow_pos _,rfl⟩ (.inl ⟨rfl,rfl⟩) ?_
 intro ⟨V,i⟩ hI X' hX
 obtain ⟨hI1,hI2,v,hI3,hI4,hI5⟩:=hI
 have hv24:v<16777216:=Nat.lt_of_lt_of_le hI4 (Nat.pow_le_pow_right (by decide) (show (i - M).toNat≤24 by omega))
 obtain ⟨x,hx⟩:∃ x:Int,x=gt tB b i:=⟨_,rfl⟩
 have hadd:i<N→ar .add .i64 i 1=i+1:=fun h=>by rw[r1];exact wrap64 (n:=i+1) (by omega) (by omega)
 have hx01:i<N→cv .i64 x=x∧(x=0∨x=1):=fun h=>by
  have:x=0∨x=1:=by rw[hx,r14];exact hb _ (gtR_mem (t:=tB) (by omega) (by omega))
  refine ⟨?_,this⟩
  rw[r2];exact wrap64 (n:=x) (by omega) (by omega)
 have hst:i<N→numN (2*v+x.toNat) (b.drop (i+1).toNat)=numN 0 (b.drop M.toNat):=fun h=>by
  rw[←hI5,numN_cons v (by omega) (by omega)]
  rw[hx,r14]
 have hnx:i<N→ar .add .i64 (ar .mul .i64 2 V) x=(2*v+x.toNat:Nat):=fun h=>by
  obtain ⟨_,h01⟩:=hx01 h
  rw[r1,hI3,show (2:Int)=((2:Nat):Int) by rfl,mulI (by omega),show x=((x.toNat:Nat):Int) by omega,addI (by omega)];rfl
 have hpw:i<N→2*v+x.toNat<2 ^ (i+1 - M).toNat:=fun h=>by
  obtain ⟨_,h01⟩:=hx01 h
  rw[show (i+1 - M).toNat=(i - M).toNat+1 by omega,Nat.pow_succ];omega
 have hend:¬ i<N→V=(numN 0 (b.drop (b.length - 24)):Nat):=fun h=>by rw[hMn,←hI5,gtR_end (by omega),hI3];rfl
 have hsc:sc tB b 0 M=b.take (b.length - 24):=by
  rw[r17];show (b.take M.toNat).drop 0=_
  rw[List.drop_zero,hMn]
 have hrem:g1 (b.take (b.length - 24))=(remN 0 (b.take (b.length - 24)):Nat):=by rw[←hg1];rfl
 have hbd:BITS (b.drop (b.length - 24)):=fun x hx=>hb x (List.mem_of_mem_drop hx)
 have h2:=numN_lt (b.drop (b.length - 24)) 0 0 hbd (by decide)
 rw[List.length_drop,show 0+(b.length - (b.length - 24))=24 by omega]at h2
 have h3:=remN_lt (b.take (b.length - 24)) 0 (by decide)
 have hfin:¬ i<N→ar .xor .i64 (g1 (b.take (b.length - 24))) V=z:=fun h=>by
  rw[hrem,hend h,r1,xorI (by omega) (by omega),hz'];rfl
 have hrp:REMP (b.take (b.length - 24)):=⟨fun x hx=>hb x (List.mem_of_mem_take hx),by rw[List.length_take];omega⟩
 clear hI3 hI5
 cbv
 try simp only[nc_eq]at *
 rw[hla,←hx,hsc]
 refine BR.lss r0 (fun hc=>?_) (fun hc=>?_)
 ·have h1:INB i N:=⟨by omega,hc⟩
  rw[(hx01 hc).1,hadd hc,hnx hc]
  refine ⟨h1,h1,NEXT.mk (hX (_,i+1) _ _ ⟨by omega,by omega,_,rfl,hpw hc,hst hc⟩ (by show (N - (i+1)).toNat<(N - i).toNat;omega) (.inl ⟨rfl,rfl⟩))⟩
 ·exact ⟨⟨by omega,by omega,by omega⟩,hrp,hfin hc⟩
def colI (n p:Int):Int:=(col n.toNat p.toNat:Nat)
structure COLP (n p:Int):Prop where
 l:n≤200
 m:24≤n
 p0:0≤p
 p1:p<n
theorem unit_len (n p:Nat):(unitL n p).length=n:=by simp[unitL]
theorem unit_mk {n p:Int} (h:COLP n p):upR tB n.toNat (List.replicate n.toNat 0) p 1=unitL n.toNat p.toNat:=by
 unfold upR unitL
 rw[Ty.norm_eq tB (by simp)]
theorem cRCol (n p:Int) (h:COLP n p):PurS Try.prog 81 [injT tI n,injT tI p] (.p (iv (colI n p))):=by
 refine PurS.of (S:=[(67,_)]) (T:=[]) (U:=[]) (tbl:=[]) (n:=13) hm11 cfg (.cons (spT1.ok (a:=(.sl (.int .u8))) fun x0 h=>cROv x0.1 x0.2 h) .nil) .nil .nil .nil 0 Try.call81 Try.func81 (ac81_ok (some (0,0))) (by rw[Try.ntmps81];exact Nat.le_refl _) rfl ⟨_,rfl⟩ ?_
 intro cmp ar cv tn ic ai mx an ad ml sb mn ln em gt up ap sc vw cp rp p1 p2 s1 s2 X Y hX hY r0 r1 r2 r3 r4 r5 r6 r7 r8 r9 r10 r11 r12 r13 r14 r15 r16 r17 r18 r19 r20 r21 r22 r23 r24
 generalize hg0:ovI=g0
 generalize hg1:colI=g1
 cbv
 have hu:up tB (tn n) (rp tB (tn n) 0) p 1=unitL (tn n) p.toNat:=by rw[r15,r20,r3];exact unit_mk h
 have hvw:vw tB (tn n) (unitL (tn n) p.toNat) 0 (tn n)=unitL (tn n) p.toNat:=by rw[r18];exact vw_all (t:=tB) (unit_len _ _)
 have htn:ic (tn n)=n:=by rw[r4,r3];have:=h.m;show ((n.toNat:Nat):Int)=n;omega
 have had:ad 0 (tn n)=tn n:=by rw[r8];show 0+tn n=tn n;omega
 have hov:g0 (unitL (tn n) p.toNat)=g1 n p:=by rw[←hg0,←hg1,r3];rfl
 rw[hu,hvw,htn,had]
 obtain ⟨h1,h2,h3,h4⟩:=h
 refine ⟨MK_iff.2 ⟨by omega,by omega,by omega,by omega⟩,⟨h3,h4⟩,⟨h3,h4⟩,⟨⟨Nat.le_refl _⟩,trivial⟩,⟨BITS.unit _ _,by rw[unit_len,r3];omega,by rw[unit_len,r3];omega⟩,hov⟩
end Go.Ab
