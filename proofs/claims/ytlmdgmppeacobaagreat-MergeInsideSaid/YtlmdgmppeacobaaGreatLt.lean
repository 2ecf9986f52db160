/- Lists of numbers: copies,comparisons. -/
import Derived.Test.YtlmdgmppeacobaaGreatLs
set_option linter.unusedSimpArgs false
set_option linter.unusedVariables false
set_option maxRecDepth 20000
set_option maxHeartbeats 4000000
namespace Go.Ab
open Go.Proofs
abbrev RT:=tR.den
def clR (x:RT):RT:=(x.1,(none,x.2.1.2),(none,x.2.2.2))
structure SZ (n:Nat) (l:List RT):Prop where
 h:∀ x∈l,LB x.2.1.2∧LB x.2.2.2∧x.2.1.2.length≤n∧x.2.2.2.length≤n
theorem SZ.drop {n:Nat} {l:List RT} (h:SZ n l) (i:Nat):SZ n (l.drop i):=⟨fun x hx=>h.h x (List.mem_of_mem_drop hx)⟩
structure SA2 (a b:List Int):Prop where
 a:Short 2000 a
 b:Short 2000 b
theorem cEqR1 (s:Bool) (na:Option Bool) (a:List Int) (nb:Option Bool) (b:List Int) (s':Bool) (na':Option Bool) (a':List Int) (nb':Option Bool) (b':List Int) (h:SA2 a b):PurS Tryz.prog 46 [injT tR (s,(na,a),(nb,b)),injT tR (s',(na',a'),(nb',b'))] (.sb (eqR s a b s' a' b')):=cEqR s na a nb b s' na' a' nb' b' h.a h.b
def cpRs (l:List RT):List RT:=l.map clR
def eqRs (l m:List RT):Bool:=decide (cpRs l=cpRs m)
theorem eqR_cl (x y:RT):eqR x.1 x.2.1.2 x.2.2.2 y.1 y.2.1.2 y.2.2.2=decide (clR x=clR y):=by
 unfold eqR eqI clR
 by_cases h1:x.1=y.1 <;> by_cases h2:x.2.1.2=y.2.1.2 <;> by_cases h3:x.2.2.2=y.2.2.2 <;> simp[h1,h2,h3]
theorem cEqRs (nl:Option Bool) (l:List RT) (nm:Option Bool) (m:List RT) (h:Short 2000 l) (hp:SZ 2000 l):PurS Tryz.prog 20 [injT (.sl tR) (nl,l),injT (.sl tR) (nm,m)] (.sb (eqRs l m)):=by
 refine PurS.of (S:=[(46,_)]) (T:=[]) (U:=[]) (tbl:=[]) (n:=27) hm31 cfg (.cons (spT2.ok (a:=(.pair .bool (.pair (.sl (.int .u32)) (.sl (.int .u32))))) (b:=(.pair .bool (.pair (.sl (.int .u32)) (.sl (.int .u32))))) fun x0 x1 h=>cEqR1 x0.1 x0.2.1.1 x0.2.1.2 x0.2.2.1 x0.2.2.2 x1.1 x1.2.1.1 x1.2.1.2 x1.2.2.1 x1.2.2.2 h) .nil) .nil .nil .nil 0 Tryz.call20 Tryz.func20 (ac20_ok (some (0,0))) (by rw[Tryz.ntmps20];exact Nat.le_refl _) rfl ⟨_,rfl⟩ ?_
 intro cmp ar cv tn ic ai mx an ad ml sb mn ln em gt up ap sc vw cp rp p1 p2 s1 s2 X Y hX hY r0 r1 r2 r3 r4 r5 r6 r7 r8 r9 r10 r11 r12 r13 r14 r15 r16 r17 r18 r19 r20 r21 r22 r23 r24
 generalize hg0:eqR=g0
 generalize hg1:eqRs=g1
 cbv
 have hl:=h.h
 have hll:ic (ln tR l)=l.length:=by rw[r4,r12]
 have hlm:ic (ln tR m)=m.length:=by rw[r4,r12]
 have e1:g1 l m=decide (cpRs l=cpRs m):=by rw[←hg1];rfl
 rw[hll,hlm]
 refine BR.neq r0 (fun h1=>?_) (fun h1=>?_)
 ·have h2:¬ cpRs l=cpRs m:=fun h2=>by have:=congrArg List.length h2;simp only[cpRs,List.length_map]at this;exact h1 (by rw[this])
  rw[e1];exact (decide_eq_false h2).symm
 have h1':l.length=m.length:=by omega
 refine LOOP.ind (σ:=Int) (fun i=>[(0,.tl nl tR l),(1,.tl nm tR m),(5,.p (iv i))]) (fun _=>⟨[],[]⟩) (fun i=>(l.length - i).toNat) (fun i=>0≤i∧i≤l.length∧(cpRs (l.drop i.toNat)=cpRs (m.drop i.toNat)↔cpRs l=cpRs m)) 0 ⟨by omega,by omega,Iff.rfl⟩ (.inl ⟨rfl,rfl⟩) ?_
 intro i hI X' hX
 obtain ⟨hI1,hI2,hI3⟩:=hI
 obtain ⟨x,hx⟩:∃ x:RT,x=gt tR l i:=⟨_,rfl⟩
 obtain ⟨y,hy⟩:∃ y:RT,y=gt tR m i:=⟨_,rfl⟩
 have hsl:i<l.length→SA2 (s2 tW (p1 tN tN (p2 .bool (.pair tN tN) x))) (s2 tW (p2 tN tN (p2 .bool (.pair tN tN) x))):=fun h1=>by
  have:=hp.h (gtR tR l i) (gtR_mem (t:=tR) hI1 h1)
  rw[r21,r22,r24,hx,r14];exact ⟨⟨this.2.2.1⟩,⟨this.2.2.2⟩⟩
 have hst:i<l.length→cpRs (l.drop i.toNat)=clR x :: cpRs (l.drop (i+1).toNat):=fun h1=>by rw[gtR_drop (t:=tR) hI1 h1,hx,r14];rfl
 have hst':i<l.length→cpRs (m.drop i.toNat)=clR y :: cpRs (m.drop (i+1).toNat):=fun h1=>by rw[gtR_drop (t:=tR) hI1 (by omega),hy,r14];rfl
 have hi1:i<l.length→ar .add .i64 i 1=i+1:=fun h1=>by rw[r1];exact wrap64 (n:=i+1) (by omega) (by omega)
 have e0:g0 (p1 .bool (.pair tN tN) x) (s2 tW (p1 tN tN (p2 .bool (.pair tN tN) x))) (s2 tW (p2 tN tN (p2 .bool (.pair tN tN) x))) (p1 .bool (.pair tN tN) y) (s2 tW (p1 tN tN (p2 .bool (.pair tN tN) y))) (s2 tW (p2 tN tN (p2 .bool (.pair tN tN) y)))=decide (clR x=clR y):=by
  rw[r21,r22,r24,←hg0];exact eqR_cl x y
 obtain ⟨d,hd⟩:∃ d,d=decide (clR x=clR y):=⟨_,rfl⟩
 rw[←hd]at e0
 cbv
 try simp only[nc_eq]at *
 rw[←hx,←hy,hll,hlm,e0]
 refine BR.lss r0 (fun h2=>?_) (fun h2=>?_)
 ·have hI:INB i l.length:=⟨hI1,h2⟩
  have hI':INB i m.length:=⟨hI1,by omega⟩
  rw[hst h2,hst' h2,List.cons.injEq]at hI3
  rw[hi1 h2]
  refine ⟨hI,hI,hI',hI',hsl h2,BR.mk (fun h3=>?_) (fun h3=>?_)⟩
  ·rw[h3]at hd
   have h4:=of_decide_eq_true hd.symm
   exact NEXT.mk (hX (i+1) _ _ ⟨by omega,by omega,⟨fun h5=>hI3.1 ⟨h4,h5⟩,fun h5=>(hI3.2 h5).2⟩⟩ (by show ((l.length:Int) - (i+1)).toNat<((l.length:Int) - i).toNat;omega) (.inl ⟨rfl,rfl⟩))
  ·rw[h3]at hd
   have h4:=of_decide_eq_false hd.symm
   rw[e1];exact (decide_eq_false (fun h5=>h4 (hI3.2 h5).1)).symm
 ·rw[e1]
  have h5:i.toNat=l.length:=by omega
  exact (decide_eq_true (hI3.1 (by rw[List.drop_eq_nil_of_le (by omega),List.drop_eq_nil_of_le (by omega)]))).symm
end Go.Ab
