/- The costs of an advisory. -/
import Derived.Test.YtlmdgmppeacobaaGreatLw
set_option linter.unusedSimpArgs false
set_option linter.unusedVariables false
set_option maxRecDepth 20000
set_option maxHeartbeats 4000000
namespace Go.Ab
open Go.Proofs
def colL (l:List RS) (b:Int):List RT:=l.map fun r=>gtR tR r.2 b
structure CLM (l:List RS) (b:Int):Prop where
 b0:0≤b
 n:l.length≤2000
 h:∀ r∈l,b<r.2.length
theorem cCol (nl:Option Bool) (l:List RS) (b:Int) (h:CLM l b):PurS Tryz.prog 70 [injT (.sl tRs) (nl,l),injT tI b] (.tl none tR (colL l b)):=by
 refine PurS.of (S:=[]) (T:=[]) (U:=[]) (tbl:=[]) (n:=23) hm31 cfg .nil .nil .nil .nil 0 Tryz.call70 Tryz.func70 (ac70_ok (some (0,0))) (by rw[Tryz.ntmps70];exact Nat.le_refl _) rfl ⟨_,rfl⟩ ?_
 intro cmp ar cv tn ic ai mx an ad ml sb mn ln em gt up ap sc vw cp rp p1 p2 s1 s2 X Y hX hY r0 r1 r2 r3 r4 r5 r6 r7 r8 r9 r10 r11 r12 r13 r14 r15 r16 r17 r18 r19 r20 r21 r22 r23 r24
 generalize hg0:colL=g0
 cbv
 have b0:=h.b0
 have hn:=h.n
 obtain ⟨N,hN⟩:∃ N:Int,N=l.length:=⟨_,rfl⟩
 have hll:ic (ln tRs l)=N:=by rw[r4,r12,hN]
 rw[hll]
 refine LOOP.ind (σ:=List RT×Int) (fun (O,i)=>[(1,.p (iv b)),(5,.og 0 tR O),(8,.tl nl tRs l),(9,.p (iv N)),(10,.p (iv i))]) (fun (O,i)=>⟨[],[(ml (ln tR O) 3,49)]⟩) (fun (_,i)=>(N - i).toNat)
  (fun (O,i)=>0≤i∧i≤N∧O.length≤i∧O ++ colL (l.drop i.toNat) b=colL l b) ([],0) ⟨by omega,by show (0:Int)≤N;omega,by show ((0:Nat):Int)≤0;omega,rfl⟩ (.inr ⟨[],[none],?_⟩) ?_
 ·rw[SIM_iff];cbv;simp[nlLe_self,lstEq]
 intro ⟨O,i⟩ ⟨i0,i1,i3,i2⟩ X' hX
 obtain ⟨r,hr⟩:∃ r,r=s2 tR (gt tRs l i):=⟨_,rfl⟩
 have hr':r=(gtR tRs l i).2:=by rw[hr,r24,r14]
 obtain ⟨rn,hrn⟩:∃ rn:Int,rn=r.length:=⟨_,rfl⟩
 have hrl:ic (ln tR r)=rn:=by rw[r4,r12,hrn]
 have hrb:i<l.length→b<rn:=fun h1=>by rw[hrn,hr'];exact h.h _ (gtR_mem (t:=tRs) i0 h1)
 obtain ⟨x,hx⟩:∃ x:RT,x=gt tR r b:=⟨_,rfl⟩
 have hst:i<l.length→colL (l.drop i.toNat) b=x :: colL (l.drop (i+1).toNat) b:=fun h1=>by rw[gtR_drop (t:=tRs) i0 h1,hx,r14,hr'];rfl
 have hse:¬ i<l.length→colL (l.drop i.toNat) b=[]:=fun h1=>by rw[gtR_end h1];rfl
 have hi1:i<l.length→ar .add .i64 i 1=i+1:=fun h1=>by rw[r1];exact wrap64 (n:=i+1) (by omega) (by omega)
 obtain ⟨y,hy⟩:∃ y:RT,y=(p1 .bool (.pair tN tN) x,(s1 tW (p1 tN tN (p2 .bool (.pair tN tN) x)),s2 tW (p1 tN tN (p2 .bool (.pair tN tN) x))),(s1 tW (p2 tN tN (p2 .bool (.pair tN tN) x)),s2 tW (p2 tN tN (p2 .bool (.pair tN tN) x)))):=⟨_,rfl⟩
 have hyx:y=x:=by rw[hy,r21,r22,r23,r24]
 have hap:ap tR O [y]=O ++ [y]:=by rw[r16]
 have hLIM:LIM (ad (ln tR O) (ln tR [y])) 56:=by
  rw[r8,r12];exact LIM_iff.2 ⟨by show (O.length+1)*56≤_;omega,by show O.length+1≤_;omega⟩
 have hEQ:EQN (ml (ln tR O) 3) (ml (ln tR O) 3):=⟨rfl⟩
 have e0:g0 l b=colL l b:=by rw[←hg0]
 rw[←e0]at i2
 cbv
 try simp only[nc_eq]at *
 rw[hll,←hr,hrl,←hx]
 try rw[←hy]
 rw[hap]
 refine BR.lss r0 (fun h1=>?_) (fun h1=>⟨nlLe_none.2 trivial,by rw[←i2,hse (by omega),List.append_nil]⟩)
 have h1':i<l.length:=by omega
 have hI:INB i N:=⟨i0,h1⟩
 have hB:INB b rn:=⟨b0,hrb h1'⟩
 rw[hi1 h1']
 refine ⟨hI,hI,hB,hB,hEQ,hLIM,NEXT.mk (hX (O ++ [y],i+1) _ _ ⟨by show (0:Int)≤i+1;omega,by show i+1≤N;omega,?_,?_⟩ (by show (N - (i+1)).toNat<(N - i).toNat;omega) (.inl ⟨rfl,rfl⟩))⟩
 ·show ((O ++ [y]).length:Int)≤i+1
  rw[List.length_append];show ((O.length+1:Nat):Int)≤_;omega
 ·show (O ++ [y]) ++ colL (l.drop (i+1).toNat) b=colL l b
  rw[←e0,List.append_assoc,←i2,hst h1',hyx];rfl
end Go.Ab
