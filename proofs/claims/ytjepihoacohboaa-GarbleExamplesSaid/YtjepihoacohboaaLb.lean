/- bits.Get,remainders. -/
import Derived.Test.YtjepihoacohboaaLa
set_option linter.unusedSimpArgs false
set_option linter.unusedVariables false
set_option maxRecDepth 20000
set_option maxHeartbeats 4000000
namespace Go.Ab
open Go.Proofs
def numM:List Int→Int
 | []=>0
 | x :: l=>x*2 ^ l.length+numM l
def BIT (b:List Int):Prop:=∀ x∈b,x=0∨x=1
theorem numM_lt:∀ {l:List Int},BIT l→0≤numM l∧numM l<2 ^ l.length
 | [],_=>by simp[numM]
 | x :: l,h=>by
  have ih:=numM_lt (l:=l) fun y hy=>h y (by simp[hy])
  have hp:(2:Int) ^ (l.length+1)=2*2 ^ l.length:=by rw[Int.pow_succ];omega
  simp only[numM,List.length_cons,hp]
  rcases h x (by simp) with rfl | rfl <;> omega
def slc (b:List Int) (at' n a:Int):List Int:=(b.drop (at'+n - a).toNat).take a.toNat
theorem slc_zero (b:List Int) (at' n:Int):slc b at' n 0=[]:=by simp[slc]
theorem slc_succ {b:List Int} {at' n a:Int} (h0:0≤at') (h1:at'+n≤b.length) (ha:0≤a) (hn:a<n):slc b at' n (a+1)=gtR tB b (at'+n - 1 - a) :: slc b at' n a:=by
 unfold slc
 rw[show at'+n - (a+1)=at'+n - 1 - a by omega,show (a+1).toNat=a.toNat+1 by omega,gtR_drop (t:=tB) (l:=b) (i:=at'+n - 1 - a) (by omega) (by omega),List.take_succ_cons,show at'+n - 1 - a+1=at'+n - a by omega]
theorem slc_len {b:List Int} {at' n a:Int} (h0:0≤at') (h1:at'+n≤b.length) (ha:0≤a) (hn:a≤n):(slc b at' n a).length=a.toNat:=by
 unfold slc
 rw[List.length_take,List.length_drop];omega
theorem slc_bit {b:List Int} (h:BIT b) (at' n a:Int):BIT (slc b at' n a):=fun x hx=>h x (List.mem_of_mem_drop (List.mem_of_mem_take hx))
theorem slc_all (b:List Int) (at' n:Int):slc b at' n n=(b.drop at'.toNat).take n.toNat:=by unfold slc;rw[show at'+n - n=at' by omega]
theorem or_nat {m a:Nat} {x:Nat} (hm:m<2 ^ a):(m ||| x*2 ^ a)=m+x*2 ^ a:=by
 rw[Nat.mul_comm x,Nat.or_comm,←Nat.two_pow_add_eq_or_of_lt hm,Nat.add_comm]
theorem pow_le {a:Nat} (h:a≤62):2 ^ a≤4611686018427387904:=Nat.pow_le_pow_right (by decide) h (n:=2)
theorem wrap_u64 {x:Int} (h0:0≤x) (h1:x<18446744073709551616):IntKind.wrap .u64 x=x:=by
 simp[IntKind.wrap,IntKind.signed,IntKind.bits]
 exact Int.emod_eq_of_lt h0 h1
theorem orShl {v x a:Int} (ha:0≤a) (h62:a≤62) (hx:x=0∨x=1) (h0:0≤v) (h1:v<2 ^ a.toNat):arR .or .u64 v (arR .shl .u64 (IntKind.wrap .u64 x) a)=v+x*2 ^ a.toNat:=by
 obtain ⟨k,rfl⟩:∃ k:Nat,a=k:=⟨a.toNat,by omega⟩
 obtain ⟨m,rfl⟩:∃ m:Nat,v=m:=⟨v.toNat,by omega⟩
 obtain ⟨y,rfl,hy⟩:∃ y:Nat,x=y∧y≤1:=⟨x.toNat,by omega,by omega⟩
 have hk:k≤62:=by omega
 have hp:=pow_le hk
 have h1':m<2 ^ k:=by
  have:((m:Nat):Int)<((2 ^ k:Nat):Int):=by rw[Int.natCast_pow];simpa using h1
  omega
 have e1:IntKind.wrap .u64 ((y:Nat):Int)=y:=wrap_u64 (by omega) (by omega)
 have hyk:y*2 ^ k≤2 ^ k:=by rcases Nat.le_one_iff_eq_zero_or_eq_one.1 hy with rfl | rfl <;> simp
 have e2:arR .shl .u64 ((y:Nat):Int) (k:Nat)=((y*2 ^ k:Nat):Int):=by
  have hmin:min ((k:Nat):Int).toNat (IntKind.bits .u64)=k:=by
   rw[Int.toNat_natCast];exact Nat.min_eq_left (Nat.le_trans hk (by decide))
  show IntKind.wrap .u64 ((y:Int)*2 ^ min ((k:Nat):Int).toNat (IntKind.bits .u64))=_
  rw[hmin,show ((y:Int)*2 ^ k)=((y*2 ^ k:Nat):Int) by rw[Int.natCast_mul,Int.natCast_pow];rfl]
  exact wrap_u64 (by omega) (by omega)
 rw[e1,e2]
 show IntKind.wrap .u64 ((BitVec.ofInt 64 ((m:Nat):Int) ||| BitVec.ofInt 64 ((y*2 ^ k:Nat):Int)).toNat:Int)=_
 rw[BitVec.ofInt_natCast,BitVec.ofInt_natCast,BitVec.toNat_or,BitVec.toNat_ofNat,BitVec.toNat_ofNat,Nat.mod_eq_of_lt (by omega),Nat.mod_eq_of_lt (by omega),or_nat h1']
 rw[wrap_u64 (by omega) (by omega)]
 rw[Int.natCast_add,Int.natCast_mul,Int.natCast_pow,Int.toNat_natCast]
 rfl
theorem bigB_bit:∀ {b:List Int},BIT b→bigB b=false
 | [],_=>rfl
 | x :: l,h=>by
  have:=bigB_bit (b:=l) fun y hy=>h y (by simp[hy])
  simp only[bigB,this,Bool.or_false,decide_eq_false_iff_not]
  rcases h x (by simp) with rfl | rfl <;> omega
structure GETP (b:List Int) (at' n:Int):Prop where
 bt:BIT b
 l:b.length≤128
 a:0≤at'
 n0:0≤n
 n1:n≤62
 e:at'+n≤b.length
theorem GETP.fld {b:List Int} {at' n:Int} (h:GETP b at' n):fldE b at' n=0:=by
 have hb:bitsE b=0:=by
  unfold bitsE
  rw[if_neg (by have:=h.l;omega),bigB_bit h.bt];rfl
 unfold fldE
 have:=h.a;have:=h.n0;have:=h.n1;have:=h.e
 rw[hb,if_neg (by simp),if_neg (by omega),if_neg (by omega)]
theorem cFldP (nb:Option Bool) (b:List Int) (at' n:Int) (h:GETP b at' n):PurS Try.prog 75 [injT (.sl tB) (nb,b),injT tI at',injT tI n] (.p (iv 0)):=by
 have:=cFld nb b at' n (Nat.le_trans h.l (by decide))
 rwa [h.fld]at this
theorem cGet (nb:Option Bool) (b:List Int) (at' n v:Int) (hv:v=numM ((b.drop at'.toNat).take n.toNat)) (h:GETP b at' n):PurS Try.prog 58 [injT (.sl tB) (nb,b),injT tI at',injT tI n] (.tup [.p (.v (.int .u64 v)),.p (iv 0)]):=by
 refine PurS.of (S:=[(75,_)]) (T:=[]) (U:=[]) (tbl:=[(76,ac76 none,[.tmp 4],6),(94,ac94 none,[],20)]) (n:=33) hm11 cfg (.cons (spT3.ok (a:=(.sl (.int .u8))) (b:=(.int .i64)) (c:=(.int .i64)) fun x0 x1 x2 h=>cFldP x0.1 x0.2 x1 x2 h) .nil) .nil .nil (.cons Try.call76 Try.func76 (ac76_ok none) (by rw[Try.ntmps76];exact Nat.le_refl _) (.cons Try.call94 Try.func94 (ac94_ok none) (by rw[Try.ntmps94];exact Nat.le_refl _) .nil)) 6 Try.call58 Try.func58 (ac58_ok (some (0,0)) (some (4,0))) (by rw[Try.ntmps58];exact Nat.le_refl _) rfl ⟨_,rfl⟩ ?_
 intro cmp ar cv tn ic ai mx an ad ml sb mn ln em gt up ap sc vw cp rp p1 p2 s1 s2 X Y hX hY r0 r1 r2 r3 r4 r5 r6 r7 r8 r9 r10 r11 r12 r13 r14 r15 r16 r17 r18 r19 r20 r21 r22 r23 r24
 cbv
 refine ⟨h,BR.mk (fun hc=>absurd hc (by rw[r0];decide)) fun _=>?_⟩
 refine ALLY.mk fun y=>?_
 cbv
 obtain ⟨hbt,hl,ha0,hn0,hn1,he⟩:=h
 refine LOOP.ind (σ:=Int×Int) (fun (w,a)=>[(0,.fn (.yield y) [] []),(1,.ptr 3 0),(2,.ptr 2 0),(5,.p (iv n)),(6,.p (iv a))]) (fun (w,a)=>⟨[{ cells:=[.tl nb tB b],e:=40,fz:=false },{ cells:=[.p (.v (.int .u64 w))],e:=65,fz:=false },{ cells:=[.p (iv at')],e:=3,fz:=false },{ cells:=[.p (iv n)],e:=3,fz:=false }],[]⟩) (fun (w,a)=>(n - a).toNat)
  (fun (w,a)=>0≤a∧a≤n∧w=numM (slc b at' n a)) (0,0) (by show (0:Int)≤0∧0≤n∧(0:Int)=numM (slc b at' n 0);rw[slc_zero];exact ⟨by omega,hn0,rfl⟩) (.inl ⟨rfl,rfl⟩) ?_
 intro ⟨w,a⟩ hI X' hX
 dsimp only at hI
 obtain ⟨hI1,hI2,hI3⟩:=hI
 obtain ⟨i,hi⟩:∃ i,i=at'+n - 1 - a:=⟨_,rfl⟩
 have hidx:a<n→ar .sub .i64 (ar .sub .i64 (ar .add .i64 at' n) 1) a=i:=fun h=>by
  rw[r1,hi];simp only[arR];rw[wrap64 (n:=at'+n) (by omega) (by omega),wrap64 (n:=at'+n - 1) (by omega) (by omega),wrap64 (by omega) (by omega)]
 obtain ⟨x,hx⟩:∃ x,x=gt tB b i:=⟨_,rfl⟩
 have hx01:a<n→x=0∨x=1:=fun h=>by rw[hx,r14];exact hbt _ (gtR_mem (t:=tB) (by omega) (by omega))
 have hst:a<n→ar .or .u64 w (ar .shl .u64 (cv .u64 x) a)=numM (slc b at' n (a+1)):=fun h=>by
  have hlt:=numM_lt (slc_bit hbt at' n a)
  have hlen:=slc_len (b:=b) ha0 he hI1 hI2
  rw[hlen]at hlt
  rw[r1,r2,hI3,orShl hI1 (by omega) (hx01 h) hlt.1 hlt.2,slc_succ ha0 he hI1 h,←hi]
  rw[hx,r14]at *
  simp only[numM,hlen]
  omega
 have hend:¬ a<n→w=v:=fun h=>by
  obtain rfl:a=n:=by omega
  rw[hI3,hv,slc_all]
 have hgx:gt tB b i=x:=hx.symm
 have hib:a<n→0≤i∧i<b.length:=fun h=>by omega
 clear hx
 cbv
 refine BR.lss r0 ?_ ?_ <;> intro hc
 ·have hadd:ar .add .i64 a 1=a+1:=by rw[r1];exact wrap64 (n:=a+1) (by omega) (by omega)
  have hb:=hib hc
  rw[hidx hc,hgx,hst hc,hadd,r4,r12]
  have hnI:0≤a+1∧a+1≤n∧numM (slc b at' n (a+1))=numM (slc b at' n (a+1)):=⟨by omega,by omega,rfl⟩
  exact ⟨⟨hb.1,hb.2⟩,⟨hb.1,hb.2⟩,⟨hI1⟩,NEXT.mk (hX (_,_) _ _ hnI (by show (n - (a+1)).toNat<(n - a).toNat;omega) (.inl ⟨rfl,rfl⟩))⟩
 ·exact ⟨hend hc,trivial⟩
theorem wrapI {n:Nat} (h:n<9223372036854775808):IntKind.wrap .i64 (n:Int)=n:=wrap64 (by omega) (by omega)
theorem xorI {a b:Nat} (ha:a<4611686018427387904) (hb:b<4611686018427387904):arR .xor .i64 a b=((a ^^^ b:Nat):Int):=by
 show IntKind.wrap .i64 ((BitVec.ofInt 64 (a:Int) ^^^ BitVec.ofInt 64 (b:Int)).toNat:Int)=_
 have hx:a ^^^ b<2 ^ 62:=Nat.xor_lt_two_pow ha hb
 rw[BitVec.ofInt_natCast,BitVec.ofInt_natCast,BitVec.toNat_xor,BitVec.toNat_ofNat,BitVec.toNat_ofNat,Nat.mod_eq_of_lt (by omega),Nat.mod_eq_of_lt (by omega)]
 exact wrapI (by omega)
theorem xorU {a b:Nat} (ha:a<18446744073709551616) (hb:b<18446744073709551616):arR .xor .u64 a b=((a ^^^ b:Nat):Int):=by
 show IntKind.wrap .u64 ((BitVec.ofInt 64 (a:Int) ^^^ BitVec.ofInt 64 (b:Int)).toNat:Int)=_
 have hx:a ^^^ b<2 ^ 64:=Nat.xor_lt_two_pow ha hb
 rw[BitVec.ofInt_natCast,BitVec.ofInt_natCast,BitVec.toNat_xor,BitVec.toNat_ofNat,BitVec.toNat_ofNat,Nat.mod_eq_of_lt (by omega),Nat.mod_eq_of_lt (by omega)]
 exact wrap_u64 (by omega) (by omega)
theorem andI {a b:Nat} (ha:a<4611686018427387904) (hb:b<4611686018427387904):arR .and .i64 a b=((a &&& b:Nat):Int):=by
 show IntKind.wrap .i64 ((BitVec.ofInt 64 (a:Int) &&& BitVec.ofInt 64 (b:Int)).toNat:Int)=_
 have hx:a &&& b≤a:=Nat.and_le_left
 rw[BitVec.ofInt_natCast,BitVec.ofInt_natCast,BitVec.toNat_and,BitVec.toNat_ofNat,BitVec.toNat_ofNat,Nat.mod_eq_of_lt (by omega),Nat.mod_eq_of_lt (by omega)]
 exact wrapI (by omega)
theorem shrI {a k:Nat} (hk:k≤64):arR .shr .i64 a k=((a / 2 ^ k:Nat):Int):=by
 have hmin:min ((k:Nat):Int).toNat (IntKind.bits .i64)=k:=by
  rw[Int.toNat_natCast];exact Nat.min_eq_left hk
 show (a:Int).fdiv (2 ^ min ((k:Nat):Int).toNat (IntKind.bits .i64))=_
 rw[hmin,Int.fdiv_eq_ediv_of_nonneg _ (by exact Int.pow_nonneg (by decide)),Int.natCast_ediv,Int.natCast_pow];rfl
theorem shlI {a k:Nat} (hk:k≤64) (h:a*2 ^ k<9223372036854775808):arR .shl .i64 a k=((a*2 ^ k:Nat):Int):=by
 have hmin:min ((k:Nat):Int).toNat (IntKind.bits .i64)=k:=by
  rw[Int.toNat_natCast];exact Nat.min_eq_left hk
 show IntKind.wrap .i64 ((a:Int)*2 ^ min ((k:Nat):Int).toNat (IntKind.bits .i64))=_
 rw[hmin,show ((a:Int)*2 ^ k)=((a*2 ^ k:Nat):Int) by rw[Int.natCast_mul,Int.natCast_pow];rfl]
 exact wrapI h
theorem shTop {r:Nat} (h:r<16777216):arR .and .i64 (arR .shr .i64 (r:Int) 23) 1=((r / 8388608 % 2:Nat):Int):=by
 rw[show (23:Int)=((23:Nat):Int) by rfl,shrI (by decide),show (1:Int)=((1:Nat):Int) by rfl,andI (by omega) (by decide),Nat.and_one_is_mod]
theorem shLow {r:Nat} (h:r<16777216):arR .and .i64 (arR .shl .i64 (r:Int) 1) 16777215=((r*2 % 16777216:Nat):Int):=by
 rw[show (1:Int)=((1:Nat):Int) by rfl,shlI (by decide) (by omega),show (16777215:Int)=((16777215:Nat):Int) by rfl,andI (by omega) (by decide),show (16777215:Nat)=2 ^ 24 - 1 by rfl,Nat.and_two_pow_sub_one_eq_mod]
theorem remN_cons {b:List Int} {i:Int} (r:Nat) (h0:0≤i) (h1:i<b.length):remN r (b.drop i.toNat)=remN (shN r (gtR tB b i).toNat) (b.drop (i+1).toNat):=by rw[gtR_drop (t:=tB) h0 h1];rfl
theorem cRem (nb:Option Bool) (b:List Int) (hb:BITS b) (hl:b.length≤200) (z:Int) (hz:z=(remN 0 b:Nat)):PurS Try.prog 59 [injT (.sl tB) (nb,b)] (.p (iv z)):=by
 refine PurS.of (S:=[]) (T:=[]) (U:=[]) (tbl:=[(77,ac77 none,[],17)]) (n:=19) hm11 cfg .nil .nil .nil (.cons Try.call77 Try.func77 (ac77_ok none) (by rw[Try.ntmps77];exact Nat.le_refl _) .nil) 6 Try.call59 Try.func59 (ac59_ok (some (0,0))) (by rw[Try.ntmps59];exact Nat.le_refl _) rfl ⟨_,rfl⟩ ?_
 intro cmp ar cv tn ic ai mx an ad ml sb mn ln em gt up ap sc vw cp rp p1 p2 s1 s2 X Y hX hY r0 r1 r2 r3 r4 r5 r6 r7 r8 r9 r10 r11 r12 r13 r14 r15 r16 r17 r18 r19 r20 r21 r22 r23 r24
 cbv
 have hla:ic (ln tB b)=b.length:=by rw[r4,r12]
 rw[hla]
 obtain ⟨N,hN⟩:∃ N:Int,N=b.length:=⟨_,rfl⟩
 rw[←hN]at hla ⊢
 refine LOOP.ind (σ:=Int×Int) (fun (R,i)=>[(3,.ptr 0 0),(4,.fn (.func 77) [] [.ptr 0 0]),(8,.tl nb tB b),(9,.p (iv N)),(10,.p (iv i))]) (fun (R,i)=>⟨[{ cells:=[.p (iv R)],e:=3,fz:=false }],[]⟩) (fun (R,i)=>(N - i).toNat)
  (fun (R,i)=>0≤i∧i≤N∧∃ r:Nat,R=r∧r<16777216∧remN r (b.drop i.toNat)=remN 0 b) (0,0) ⟨by omega,by show (0:Int)≤N;omega,0,rfl,by decide,rfl⟩ (.inl ⟨rfl,rfl⟩) ?_
 intro ⟨R,i⟩ hI X' hX
 obtain ⟨hI1,hI2,r,hI3,hI4,hI5⟩:=hI
 obtain ⟨x,hx⟩:∃ x:Int,x=gt tB b i:=⟨_,rfl⟩
 have hadd:i<N→ar .add .i64 i 1=i+1:=fun h=>by rw[r1];exact wrap64 (n:=i+1) (by omega) (by omega)
 have hend:¬ i<N→R=z:=fun h=>by rw[hz,←hI5,gtR_end (by omega),hI3];rfl
 have hx01:i<N→cv .i64 x=x∧(x=0∨x=1):=fun h=>by
  have:x=0∨x=1:=by rw[hx,r14];exact hb _ (gtR_mem (t:=tB) (by omega) (by omega))
  refine ⟨?_,this⟩
  rw[r2];exact wrap64 (n:=x) (by omega) (by omega)
 obtain ⟨T,hT⟩:∃ T,T=ar .and .i64 (ar .shr .i64 R 23) 1:=⟨_,rfl⟩
 obtain ⟨L,hL⟩:∃ L,L=ar .and .i64 (ar .shl .i64 R 1) 16777215:=⟨_,rfl⟩
 have hTv:T=(r / 8388608 % 2:Nat):=by rw[hT,r1,hI3];exact shTop hI4
 have hLv:L=(r*2 % 16777216:Nat):=by rw[hL,r1,hI3];exact shLow hI4
 have hst:i<N→remN (shN r x.toNat) (b.drop (i+1).toNat)=remN 0 b:=fun h=>by
  rw[←hI5,remN_cons r hI1 (by omega)]
  rw[hx,r14]
 have hxT:i<N→(ar .xor .i64 T x=1↔r / 8388608 % 2≠x.toNat):=fun h=>by
  obtain ⟨_,hx⟩:=hx01 h
  have ht:r / 8388608 % 2=0∨r / 8388608 % 2=1:=by omega
  rw[r1,hTv,show x=((x.toNat:Nat):Int) by omega,xorI (by omega) (by omega)]
  rcases hx with rfl | rfl <;> rcases ht with ht | ht <;> rw[ht] <;> simp
 have hsh:i<N→ar .xor .i64 L 16774153=(r*2 % 16777216 ^^^ 16774153:Nat):=fun h=>by
  rw[r1,hLv,show (16774153:Int)=((16774153:Nat):Int) by rfl,xorI (by omega) (by decide)]
 clear hI3 hI5
 cbv
 try simp only[nc_eq]at *
 rw[hla,←hx,←hT,←hL]
 refine BR.lss r0 (fun hc=>?_) hend
 have h1:INB i N:=⟨hI1,hc⟩
 rw[(hx01 hc).1,hadd hc]
 refine ⟨h1,h1,⟨by decide⟩,⟨by decide⟩,BR.eql r0 (fun h=>?_) (fun h=>?_)⟩
 ·refine NEXT.mk (hX (_,i+1) _ _ ⟨by omega,by omega,shN r x.toNat,?_,shN_lt _ _,hst hc⟩ (by show (N - (i+1)).toNat<(N - i).toNat;omega) (.inl ⟨rfl,rfl⟩))
  rw[hsh hc];unfold shN;rw[if_neg ((hxT hc).1 h)]
 ·refine NEXT.mk (hX (_,i+1) _ _ ⟨by omega,by omega,shN r x.toNat,?_,shN_lt _ _,hst hc⟩ (by show (N - (i+1)).toNat<(N - i).toNat;omega) (.inl ⟨rfl,rfl⟩))
  rw[hLv];unfold shN;rw[if_pos (Decidable.byContradiction fun h'=>h ((hxT hc).2 h'))]
structure REMP (b:List Int):Prop where
 bt:BITS b
 l:b.length≤200
def remI (b:List Int):Int:=(remN 0 b:Nat)
theorem cRemP (nb:Option Bool) (b:List Int) (h:REMP b):PurS Try.prog 59 [injT (.sl tB) (nb,b)] (.p (iv (remI b))):=cRem nb b h.bt h.l _ rfl
def getI (b:List Int) (at' n:Int):Int:=numM ((b.drop at'.toNat).take n.toNat)
theorem cGetP (nb:Option Bool) (b:List Int) (at' n:Int) (h:GETP b at' n):PurS Try.prog 58 [injT (.sl tB) (nb,b),injT tI at',injT tI n] (.tup [.p (.v (.int .u64 (getI b at' n))),.p (iv 0)]):=cGet nb b at' n _ rfl h
theorem bitsE_bit {b:List Int} (h0:∀ x∈b,0≤x) (h:bitsE b=0):BITS b∧b.length≤128:=by
 unfold bitsE at h
 split at h
 ·cases h
 ·rename_i hl
  split at h
  ·cases h
  ·rename_i hb
   refine ⟨fun x hx=>?_,by omega⟩
   have key:∀ {l:List Int},bigB l=false→∀ x∈l,¬ x>1:=fun {l}=>by
    induction l with
    | nil=>intro _ x hx;cases hx
    | cons y l ih=>
     intro h x hx
     simp only[bigB,Bool.or_eq_false_iff,decide_eq_false_iff_not]at h
     rcases List.mem_cons.1 hx with rfl | hx
     ·exact h.1
     ·exact ih h.2 x hx
   have h1:=key (by simpa using hb) x hx
   have h2:=h0 x hx
   omega
def cvx (x:Int):Int:=IntKind.wrap .i64 x
def adrE (b:List Int):Int:=if bitsE b≠0 then bitsE b else if b.length<24 then 3 else 0
def adrV (b:List Int):Int:=if adrE b=0 then (ovN b:Nat) else 0
theorem numM_N:∀ {b:List Int} (v:Nat),BITS b→(numN v b:Int)=v*2 ^ b.length+numM b
 | [],v,_=>by simp[numN,numM]
 | x :: l,v,h=>by
  have hx:=h x (by simp)
  have e:((2*v+x.toNat:Nat):Int)=2*v+x:=by omega
  simp only[numN,numM,numM_N (b:=l) _ fun y hy=>h y (by simp[hy]),e,List.length_cons,Int.pow_succ,Int.add_mul]
  rw[Int.mul_comm (2:Int) v,Int.mul_assoc,Int.mul_comm (2:Int),Int.add_assoc]
theorem adr_num {b:List Int} (hb:BITS b) (hl:b.length≤128) (h24:24≤b.length):cvx (getI b (b.length - 24:Int) 24)=(numN 0 (b.drop (b.length - 24)):Nat):=by
 have e:(b.drop ((b.length:Int) - 24).toNat).take (24:Int).toNat=b.drop (b.length - 24):=by
  rw[show ((b.length:Int) - 24).toNat=b.length - 24 by omega]
  exact List.take_of_length_le (by rw[List.length_drop];show _≤24;omega)
 have hbd:BITS (b.drop (b.length - 24)):=fun x hx=>hb x (List.mem_of_mem_drop hx)
 have h1:=numM_N 0 hbd
 have h2:=numN_lt (b.drop (b.length - 24)) 0 0 hbd (by decide)
 rw[List.length_drop,show 0+(b.length - (b.length - 24))=24 by omega]at h2
 unfold getI cvx
 rw[e]
 have h3:numM (b.drop (b.length - 24))=(numN 0 (b.drop (b.length - 24)):Nat):=by rw[h1];simp
 rw[h3]
 exact wrapI (by omega)
theorem cAddr (nb:Option Bool) (b:List Int) (hb:b.length≤maxLen) (h0:∀ x∈b,0≤x):PurS Try.prog 25 [injT (.sl tB) (nb,b)] (.tup [.p (iv (adrV b)),.p (iv (adrE b))]):=by
 refine PurS.of (S:=[(57,_),(59,_),(58,_)]) (T:=[]) (U:=[]) (tbl:=[]) (n:=35) hm11 cfg (.cons (spT1.ok (a:=(.sl (.int .u8))) (pre:=fun _=>True) fun x0 _=>cBits x0.1 x0.2) (.cons (spT1.ok (a:=(.sl (.int .u8))) fun x0 h=>cRemP x0.1 x0.2 h) (.cons (spT3.ok (a:=(.sl (.int .u8))) (b:=(.int .i64)) (c:=(.int .i64)) fun x0 x1 x2 h=>cGetP x0.1 x0.2 x1 x2 h) .nil))) .nil .nil .nil 0 Try.call25 Try.func25 (ac25_ok (some (0,0))) (by rw[Try.ntmps25];exact Nat.le_refl _) rfl ⟨_,rfl⟩ ?_
 intro cmp ar cv tn ic ai mx an ad ml sb mn ln em gt up ap sc vw cp rp p1 p2 s1 s2 X Y hX hY r0 r1 r2 r3 r4 r5 r6 r7 r8 r9 r10 r11 r12 r13 r14 r15 r16 r17 r18 r19 r20 r21 r22 r23 r24
 generalize hg0:adrV=g0
 generalize hg1:adrE=g1
 generalize hg2:bitsE=g2
 generalize hg3:remI=g3
 generalize hg4:getI=g4
 cbv
 have hla:ic (ln tB b)=b.length:=by rw[r4,r12]
 have hE:g1 b=if bitsE b≠0 then bitsE b else if b.length<24 then 3 else 0:=by rw[←hg1];rfl
 have hV:g0 b=if g1 b=0 then ((ovN b:Nat):Int) else 0:=by rw[←hg0,←hg1];rfl
 have hB:=bitsE_bit h0
 rw[hg2]at hE hB
 rw[hla]
 simp only[maxLen]at hb
 refine BR.neq r0 (fun h=>?_) fun h=>?_
 ·rw[if_pos h]at hE
  rw[hE,if_neg h]at hV
  exact ⟨hV.symm,hE.symm,trivial⟩
 rw[if_neg h]at hE
 refine BR.lss r0 (fun h1=>?_) fun h1=>?_
 ·rw[if_pos (by omega)]at hE
  rw[hE,if_neg (by decide)]at hV
  exact ⟨hV.symm,hE.symm,trivial⟩
 rw[if_neg (by omega)]at hE
 rw[hE,if_pos rfl]at hV
 obtain ⟨hbt,hl⟩:=hB (Classical.not_not.1 h)
 have hsub:ar .sub .i64 b.length 24=b.length - 24:=by rw[r1];exact wrap64 (n:=(b.length:Int) - 24) (by omega) (by omega)
 have hsc:sc tB b 0 (b.length - 24:Int)=b.take (b.length - 24):=by
  rw[r17];show (b.take ((b.length:Int) - 24).toNat).drop 0=_
  rw[List.drop_zero,show ((b.length:Int) - 24).toNat=b.length - 24 by omega]
 rw[hsub,hsc]
 have hrem:g3 (b.take (b.length - 24))=(remN 0 (b.take (b.length - 24)):Nat):=by rw[←hg3];rfl
 have hnum:cv .i64 (g4 b (b.length - 24:Int) 24)=(numN 0 (b.drop (b.length - 24)):Nat):=by
  rw[←hg4,r2];exact adr_num hbt hl (by omega)
 have hbd:BITS (b.drop (b.length - 24)):=fun x hx=>hbt x (List.mem_of_mem_drop hx)
 have h2:=numN_lt (b.drop (b.length - 24)) 0 0 hbd (by decide)
 rw[List.length_drop,show 0+(b.length - (b.length - 24))=24 by omega]at h2
 have h3:=remN_lt (b.take (b.length - 24)) 0 (by decide)
 refine ⟨⟨hbt,hl,by omega,by decide,by decide,by omega⟩,⟨by omega,by omega,by omega⟩,⟨fun x hx=>hbt x (List.mem_of_mem_take hx),by rw[List.length_take];omega⟩,?_,hE.symm,trivial⟩
 rw[hrem,hnum,r1,xorI (by omega) (by omega),hV];rfl
structure ADRP (b:List Int):Prop where
 l:b.length≤maxLen
 h0:∀ x∈b,0≤x
theorem cAddrP (nb:Option Bool) (b:List Int) (h:ADRP b):PurS Try.prog 25 [injT (.sl tB) (nb,b)] (.tup [.p (iv (adrV b)),.p (iv (adrE b))]):=cAddr nb b h.l h.h0
end Go.Ab
