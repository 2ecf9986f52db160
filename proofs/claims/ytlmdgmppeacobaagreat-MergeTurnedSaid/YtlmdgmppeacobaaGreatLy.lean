/- Lists of numbers: copies,comparisons. -/
import Derived.Test.YtlmdgmppeacobaaGreatLs
set_option linter.unusedSimpArgs false
set_option linter.unusedVariables false
set_option maxRecDepth 20000
set_option maxHeartbeats 4000000
namespace Go.Ab
open Go.Proofs
abbrev RT:=tR.den
def clR (x:RT):RT:=(x.1,(none,x.2.1.2),(none,x.2.2.2))
structure SZ (n:Nat) (l:List RT):Prop where
 h:∀ x∈l,LB x.2.1.2∧LB x.2.2.2∧x.2.1.2.length≤n∧x.2.2.2.length≤n
theorem SZ.drop {n:Nat} {l:List RT} (h:SZ n l) (i:Nat):SZ n (l.drop i):=⟨fun x hx=>h.h x (List.mem_of_mem_drop hx)⟩
structure SA2 (a b:List Int):Prop where
 a:Short 2000 a
 b:Short 2000 b
theorem cEqR1 (s:Bool) (na:Option Bool) (a:List Int) (nb:Option Bool) (b:List Int) (s':Bool) (na':Option Bool) (a':List Int) (nb':Option Bool) (b':List Int) (h:SA2 a b):PurS Tryz.prog 46 [injT tR (s,(na,a),(nb,b)),injT tR (s',(na',a'),(nb',b'))] (.sb (eqR s a b s' a' b')):=cEqR s na a nb b s' na' a' nb' b' h.a h.b
def cpRs (l:List RT):List RT:=l.map clR
def eqRs (l m:List RT):Bool:=decide (cpRs l=cpRs m)
theorem eqR_cl (x y:RT):eqR x.1 x.2.1.2 x.2.2.2 y.1 y.2.1.2 y.2.2.2=decide (clR x=clR y):=by
 unfold eqR eqI clR
 by_cases h1:x.1=y.1 <;> by_cases h2:x.2.1.2=y.2.1.2 <;> by_cases h3:x.2.2.2=y.2.2.2 <;> simp[h1,h2,h3]
theorem cEqRs (nl:Option Bool) (l:List RT) (nm:Option Bool) (m:List RT) (h:Short 2000 l) (hp:SZ 2000 l):PurS Tryz.prog 20 [injT (.sl tR) (nl,l),injT (.sl tR) (nm,m)] (.sb (eqRs l m)):=by
 refine PurS.of (S:=[(46,_)]) (T:=[]) (U:=[]) (tbl:=[]) (n:=27) hm31 cfg (.cons (spT2.ok (a:=(.pair .bool (.pair (.sl (.int .u32)) (.sl (.int .u32))))) (b:=(.pair .bool (.pair (.sl (.int .u32)) (.sl (.int .u32))))) fun x0 x1 h=>cEqR1 x0.1 x0.2.1.1 x0.2.1.2 x0.2.2.1 x0.2.2.2 x1.1 x1.2.1.1 x1.2.1.2 x1.2.2.1 x1.2.2.2 h) .nil) .nil .nil .nil 0 Tryz.call20 Tryz.func20 (ac20_ok (some (0,0))) (by rw[Tryz.ntmps20];exact Nat.le_refl _) rfl ⟨_,rfl⟩ ?_
 intro cmp ar cv tn ic ai mx an ad ml sb mn ln em gt up ap sc vw cp rp p1 p2 s1 s2 X Y hX hY r0 r1 r2 r3 r4 r5 r6 r7 r8 r9 r10 r11 r12 r13 r14 r15 r16 r17 r18 r19 r20 r21 r22 r23 r24
 generalize hg0:eqR=g0
 generalize hg1:eqRs=g1
 cbv
 have hl:=h.h
 have hll:ic (ln tR l)=l.length:=by rw[r4,r12]
 have hlm:ic (ln tR m)=m.length:=by rw[r4,r12]
 have e1:g1 l m=decide (cpRs l=cpRs m):=by rw[←hg1];rfl
 rw[hll,hlm]
 refine BR.neq r0 (fun h1=>?_) (fun h1=>?_)
 ·have h2:¬ cpRs l=cpRs m:=fun h2=>by have:=congrArg List.length h2;simp only[cpRs,List.length_map]at this;exact h1 (by rw[this])
  rw[e1];exact (decide_eq_false h2).symm
 have h1':l.length=m.length:=by omega
 refine LOOP.ind (σ:=Int) (fun i=>[(0,.tl nl tR l),(1,.tl nm tR m),(5,.p (iv i))]) (fun _=>⟨[],[]⟩) (fun i=>(l.length - i).toNat) (fun i=>0≤i∧i≤l.length∧(cpRs (l.drop i.toNat)=cpRs (m.drop i.toNat)↔cpRs l=cpRs m)) 0 ⟨by omega,by omega,Iff.rfl⟩ (.inl ⟨rfl,rfl⟩) ?_
 intro i hI X' hX
 obtain ⟨hI1,hI2,hI3⟩:=hI
 obtain ⟨x,hx⟩:∃ x:RT,x=gt tR l i:=⟨_,rfl⟩
 obtain ⟨y,hy⟩:∃ y:RT,y=gt tR m i:=⟨_,rfl⟩
 have hsl:i<l.length→SA2 (s2 tW (p1 tN tN (p2 .bool (.pair tN tN) x))) (s2 tW (p2 tN tN (p2 .bool (.pair tN tN) x))):=fun h1=>by
  have:=hp.h (gtR tR l i) (gtR_mem (t:=tR) hI1 h1)
  rw[r21,r22,r24,hx,r14];exact ⟨⟨this.2.2.1⟩,⟨this.2.2.2⟩⟩
 have hst:i<l.length→cpRs (l.drop i.toNat)=clR x :: cpRs (l.drop (i+1).toNat):=fun h1=>by rw[gtR_drop (t:=tR) hI1 h1,hx,r14];rfl
 have hst':i<l.length→cpRs (m.drop i.toNat)=clR y :: cpRs (m.drop (i+1).toNat):=fun h1=>by rw[gtR_drop (t:=tR) hI1 (by omega),hy,r14];rfl
 have hi1:i<l.length→ar .add .i64 i 1=i+1:=fun h1=>by rw[r1];exact wrap64 (n:=i+1) (by omega) (by omega)
 have e0:g0 (p1 .bool (.pair tN tN) x) (s2 tW (p1 tN tN (p2 .bool (.pair tN tN) x))) (s2 tW (p2 tN tN (p2 .bool (.pair tN tN) x))) (p1 .bool (.pair tN tN) y) (s2 tW (p1 tN tN (p2 .bool (.pair tN tN) y))) (s2 tW (p2 tN tN (p2 .bool (.pair tN tN) y)))=decide (clR x=clR y):=by
  rw[r21,r22,r24,←hg0];exact eqR_cl x y
 obtain ⟨d,hd⟩:∃ d,d=decide (clR x=clR y):=⟨_,rfl⟩
 rw[←hd]at e0
 cbv
 try simp only[nc_eq]at *
 rw[←hx,←hy,hll,hlm,e0]
 refine BR.lss r0 (fun h2=>?_) (fun h2=>?_)
 ·have hI:INB i l.length:=⟨hI1,h2⟩
  have hI':INB i m.length:=⟨hI1,by omega⟩
  rw[hst h2,hst' h2,List.cons.injEq]at hI3
  rw[hi1 h2]
  refine ⟨hI,hI,hI',hI',hsl h2,BR.mk (fun h3=>?_) (fun h3=>?_)⟩
  ·rw[h3]at hd
   have h4:=of_decide_eq_true hd.symm
   exact NEXT.mk (hX (i+1) _ _ ⟨by omega,by omega,⟨fun h5=>hI3.1 ⟨h4,h5⟩,fun h5=>(hI3.2 h5).2⟩⟩ (by show ((l.length:Int) - (i+1)).toNat<((l.length:Int) - i).toNat;omega) (.inl ⟨rfl,rfl⟩))
  ·rw[h3]at hd
   have h4:=of_decide_eq_false hd.symm
   rw[e1];exact (decide_eq_false (fun h5=>h4 (hI3.2 h5).1)).symm
 ·rw[e1]
  have h5:i.toNat=l.length:=by omega
  exact (decide_eq_true (hI3.1 (by rw[List.drop_eq_nil_of_le (by omega),List.drop_eq_nil_of_le (by omega)]))).symm
end Go.Ab
namespace Go.Ab
open Go.Proofs
abbrev tRs:Ty:=.sl tR
abbrev RS:=tRs.den
instance:DecidableEq RT:=inferInstanceAs (DecidableEq (Bool×(Option Bool×List Int)×(Option Bool×List Int)))
instance:DecidableEq RS:=inferInstanceAs (DecidableEq (Option Bool×List RT))
structure SX (l:List RT):Prop where
 a:Short 2000 l
 b:SZ 2000 l
structure SZR (n m:Nat) (l:List RS):Prop where
 h:∀ x∈l,x.2.length≤n∧SZ m x.2
end Go.Ab
namespace Go.Ab
open Go.Proofs
def rck (x:RT):Int:=rchk x.1 x.2.1.2 x.2.2.2
def fe:List RT→Int
 | []=>0
 | x :: l=>if rck x≠0 then rck x else fe l
def row0 (l:List RS):List RT:=(gtR tRs l 0).2
def sameL (n:Nat):List RS→Bool
 | []=>true
 | r :: l=>decide (r.2.length=n) && sameL n l
def cat:List RS→List RT
 | []=>[]
 | r :: l=>r.2 ++ cat l
def mchk (l:List RS):Int:=
 if l.length=0 then 3 else if l.length>8 then 4
 else if (row0 l).length=0 then 3 else if (row0 l).length>6 then 4
 else if sameL (row0 l).length l then fe (cat l) else 16
structure MC (l:List RS):Prop where
 a:Short 2000 l
 b:SZR 2000 2000 l
theorem SZ.ckp {l:List RT} (h:SZ 2000 l) {i:Int} (h0:0≤i) (h1:i<l.length):CKP (gtR tR l i).2.1.2 (gtR tR l i).2.2.2:=by
 obtain ⟨a,b,c,d⟩:=h.h _ (gtR_mem (t:=tR) h0 h1)
 exact ⟨a,b,by omega,by omega⟩
end Go.Ab
namespace Go.Ab
open Go.Proofs
theorem sameL_cat {n:Nat}:∀ {l:List RS},sameL n l=true→(cat l).length=n*l.length
 | [],_=>rfl
 | r :: l,h=>by
  simp only[sameL,Bool.and_eq_true,decide_eq_true_eq]at h
  simp only[cat,List.length_append,List.length_cons,h.1,sameL_cat h.2,Nat.mul_add,Nat.mul_one];omega
theorem cat_sz {n m:Nat} {l:List RS} (h:SZR n m l):SZ m (cat l):=by
 refine ⟨?_⟩
 have key:∀ l:List RS,(∀ x∈l,SZ m x.2)→∀ x∈cat l,LB x.2.1.2∧LB x.2.2.2∧x.2.1.2.length≤m∧x.2.2.2.length≤m:=by
  intro l
  induction l with
  | nil=>intro _ x hx;cases hx
  | cons r l ih=>
   intro h x hx
   rcases List.mem_append.1 hx with h1 | h1
   ·exact (h r List.mem_cons_self).h x h1
   ·exact ih (fun y hy=>h y (List.mem_cons_of_mem _ hy)) x h1
 exact key l fun x hx=>(h.h x hx).2
structure CCP (l:List RS):Prop where
 n:l.length≤100
 c:(cat l).length≤5000
 p:0<(cat l).length
abbrev bxR (N:Nat) (l:List RT):BoxS:={ cells:=[.arr N tR l],e:=49,fz:=false,ap:=true }
theorem cConcat (nl:Option Bool) (l:List RS) (h:CCP l):PurS Tryz.prog 76 [injT (.sl tRs) (nl,l)] (.tl none tR (cat l)):=by
 refine PurS.of (S:=[]) (T:=[]) (U:=[]) (tbl:=[(102,ac102 none,[.tmp 4],27)]) (n:=36) hm31 cfg .nil .nil .nil (.cons Tryz.call102 Tryz.func102 (ac102_ok none) (by rw[Tryz.ntmps102];exact Nat.le_refl _) .nil) 6 Tryz.call76 Tryz.func76 (ac76_ok (some (0,0))) (by rw[Tryz.ntmps76];exact Nat.le_refl _) rfl ⟨_,rfl⟩ ?_
 intro cmp ar cv tn ic ai mx an ad ml sb mn ln em gt up ap sc vw cp rp p1 p2 s1 s2 X Y hX hY r0 r1 r2 r3 r4 r5 r6 r7 r8 r9 r10 r11 r12 r13 r14 r15 r16 r17 r18 r19 r20 r21 r22 r23 r24
 generalize hg0:cat=g0
 cbv
 have hl:=h.n
 have hc:=h.c
 have hp:=h.p
 obtain ⟨N,hN⟩:∃ N:Int,N=l.length:=⟨_,rfl⟩
 have hll:ic (ln tRs l)=N:=by rw[r4,r12,hN]
 rw[hll]
 refine LOOP.ind (σ:=Int×Int) (fun (z,i)=>[(0,.tl nl tRs l),(3,.p (iv z)),(9,.tl nl tRs l),(10,.p (iv N)),(11,.p (iv i))]) (fun _=>⟨[],[]⟩) (fun (_,i)=>(N - i).toNat) (fun (z,i)=>0≤i∧i≤N∧0≤z∧z+(cat (l.drop i.toNat)).length=(cat l).length) (0,0) ⟨by omega,by omega,by omega,by show (0:Int)+(cat l).length=_;omega⟩ (.inl ⟨rfl,rfl⟩) ?_
 intro ⟨z,i⟩ ⟨i0,i1,z0,i2⟩ X' hX
 obtain ⟨r,hr⟩:∃ r,r=s2 tR (gt tRs l i):=⟨_,rfl⟩
 have hr':r=(gtR tRs l i).2:=by rw[hr,r24,r14]
 have hrl:ic (ln tR r)=r.length:=by rw[r4,r12]
 have hst:i<l.length→cat (l.drop i.toNat)=r ++ cat (l.drop (i+1).toNat):=fun h=>by rw[gtR_drop (t:=tRs) i0 h,hr'];rfl
 have hse:¬ i<l.length→cat (l.drop i.toNat)=[]:=fun h=>by rw[gtR_end h];rfl
 have hi1:i<l.length→ar .add .i64 i 1=i+1:=fun h1=>by rw[r1];exact wrap64 (n:=i+1) (by omega) (by omega)
 obtain ⟨rn,hrn⟩:∃ rn:Int,rn=r.length:=⟨_,rfl⟩
 rw[←hrn]at hrl
 have hst2:i<l.length→z+rn+(cat (l.drop (i+1).toNat)).length=(cat l).length:=fun h=>by
  have:=congrArg List.length (hst h);rw[List.length_append]at this;omega
 have hz1:i<l.length→ar .add .i64 z rn=z+rn:=fun h=>by have:=hst2 h;rw[r1];exact wrap64 (n:=z+rn) (by omega) (by omega)
 have hse2:¬ i<l.length→z=(cat l).length:=fun h=>by rw[hse h]at i2;show z=_;simpa using i2
 have hz2:ar .sub .i64 z (ar .sub .i64 0 (ic 0))=z:=by
  rw[r1,r4];show IntKind.wrap .i64 (z - IntKind.wrap .i64 (0 - 0))=z
  have:IntKind.wrap .i64 (0 - 0)=0:=by decide
  rw[this,Int.sub_zero];exact wrap64 (n:=z) (by omega) (by omega)
 have hic0:ic 0=0:=by rw[r4];rfl
 have htn0:tn 0=0:=by rw[r3];rfl
 cbv
 try simp only[nc_eq]at *
 rw[hll,←hr,hrl,hz2,hic0,htn0]
 refine BR.lss r0 (fun h1=>?_) (fun h1=>?_)
 ·have hI:INB i N:=⟨i0,h1⟩
  have h1':i<l.length:=by omega
  rw[hz1 h1',hi1 h1']
  have:=hst2 h1'
  refine ⟨hI,hI,BR.lss r0 (fun h2=>absurd h2 (by omega)) (fun _=>NEXT.mk (hX (z+rn,i+1) _ _ ⟨by omega,by show i+1≤N;omega,by show 0≤z+rn;omega,this⟩ (by show (N - (i+1)).toNat<(N - i).toNat;omega) (.inl ⟨rfl,rfl⟩)))⟩
 have hzc:=hse2 (by omega)
 clear hX hst hse hi1 i0 i1 i2 hr hr' hrl hst2 hz1 hse2 hrn h1 rn r i
 refine BR.lss r0 (fun h2=>absurd h2 (by omega)) (fun _=>BR.gtr r0 (fun h2=>?_) (fun h2=>absurd (by omega) h2))
 obtain ⟨Z,hZ⟩:∃ Z,Z=tn z:=⟨_,rfl⟩
 have hZ':(Z:Int)=z:=by rw[hZ,r3];show ((z.toNat:Nat):Int)=z;omega
 rw[←hZ]
 obtain ⟨R0,hR0⟩:∃ R0,R0=rp tR Z (false,((some true,[]),(some true,[]))):=⟨_,rfl⟩
 have hR0':R0.length=Z:=by rw[hR0,r20,List.length_replicate]
 have hicZ:ic Z=z:=by rw[r4];exact hZ'
 rw[←hR0,hicZ]
 have hem:em tR R0=false:=by
  rw[r13]
  show R0.isEmpty=false
  cases R0 with
  | nil=>have:Z=0:=hR0'.symm;omega
  | cons _ _=>rfl
 rw[hem,BR_false]
 refine ⟨⟨by decide,by decide,by decide⟩,⟨by decide,by omega,by omega,by simp only[maxLen];omega⟩,LIM_iff.2 ⟨by omega,by omega⟩,⟨by decide,by omega,by omega⟩,?_⟩
 refine LOOP.ind (σ:=Nat×Nat×List RT×Int) (fun (n,N',O,i)=>[(6,.ms 0 0 3 none n),(25,.tl nl tRs l),(26,.p (iv N)),(27,.p (iv i))]) (fun (n,N',O,i)=>⟨[bxR N' O],[]⟩) (fun (_,_,_,i)=>(N - i).toNat) (fun (n,N',O,i)=>0≤i∧i≤N∧n≤N'∧O.length=N'∧O.take n ++ cat (l.drop i.toNat)=cat l) (0,Z,R0,0) ⟨by omega,by show (0:Int)≤N;omega,Nat.zero_le _,hR0',rfl⟩ (.inl ⟨rfl,rfl⟩) ?_
 intro ⟨n,N',O,i⟩ ⟨i0,i1,hn,hO,i2⟩ X' hX
 obtain ⟨r,hr⟩:∃ r,r=s2 tR (gt tRs l i):=⟨_,rfl⟩
 have hr':r=(gtR tRs l i).2:=by rw[hr,r24,r14]
 have hst:i<l.length→cat (l.drop i.toNat)=r ++ cat (l.drop (i+1).toNat):=fun h=>by rw[gtR_drop (t:=tRs) i0 h,hr'];rfl
 have hse:¬ i<l.length→cat (l.drop i.toNat)=[]:=fun h=>by rw[gtR_end h];rfl
 have hi1:i<l.length→ar .add .i64 i 1=i+1:=fun h1=>by rw[r1];exact wrap64 (n:=i+1) (by omega) (by omega)
 have hlr:ln tR r=r.length:=by rw[r12]
 obtain ⟨m,hm⟩:∃ m,m=ad n r.length:=⟨_,rfl⟩
 have hm':m=n+r.length:=by rw[hm,r8]
 have hvw:vw tR N' O 0 n=O.take n:=by rw[r18];unfold vwR;rw[Ty.norm_eq tR hO,List.drop_zero]
 obtain ⟨W,hW⟩:∃ W,W=ap tR (O.take n) r:=⟨_,rfl⟩
 have hW':W=O.take n ++ r:=by rw[hW,r16]
 have had:ad 0 n=n:=by rw[r8];exact Nat.zero_add _
 have htl:(O.take n).length=n:=by rw[List.length_take];omega
 have hWl:W.length=m:=by rw[hW',List.length_append,htl,hm']
 have hle:i<l.length→m≤5000:=fun h=>by
  have:=congrArg List.length i2
  rw[hst h,List.length_append,List.length_append,htl]at this;omega
 have e0:g0 l=cat l:=by rw[←hg0]
 obtain ⟨P,hP⟩:∃ P,P=O.take n:=⟨_,rfl⟩
 rw[←hP]at hvw hW
 cbv
 try simp only[nc_eq]at *
 rw[hll,←hr,hlr,←hm,hvw,←hW,had]
 refine BR.lss r0 (fun h1=>?_) (fun h1=>⟨⟨hn⟩,nlLe_none.2 trivial,?_⟩)
 ·have hI:INB i N:=⟨i0,h1⟩
  have h1':i<l.length:=by omega
  have hle':=hle h1'
  rw[hi1 h1']
  refine ⟨hI,hI,⟨hn⟩,LIM_iff.2 ⟨by omega,by omega⟩,NEXT.mk (hX (m,m,W,i+1) _ _ ⟨by show (0:Int)≤i+1;omega,by show i+1≤N;omega,Nat.le_refl _,hWl,?_⟩ (by show (N - (i+1)).toNat<(N - i).toNat;omega) (.inr ⟨[some 1],[],by rw[SIM_iff];cbv;try simp[nlLe_self]⟩))⟩
  show W.take m ++ cat (l.drop (i+1).toNat)=cat l
  rw[←hWl,List.take_length,hW',List.append_assoc,←hst h1'];exact i2
 ·rw[hP,e0,←i2,hse (by omega),List.append_nil]
theorem cMChk (nl:Option Bool) (l:List RS) (h:MC l):PurS Tryz.prog 43 [injT (.sl tRs) (nl,l)] (.p (iv (mchk l))):=by
 refine PurS.of (S:=[(57,_),(76,_)]) (T:=[]) (U:=[]) (tbl:=[(73,ac73 none,[.tmp 4],12),(75,ac75 none,[.tmp 3],11),(74,ac74 none,[.tmp 4],9),(101,ac101 none,[.tmp 4],19)]) (n:=41) hm31 cfg (.cons (spT1.ok (a:=(.pair .bool (.pair (.sl (.int .u32)) (.sl (.int .u32))))) fun x0 h=>cRatChk x0.1 x0.2.1.1 x0.2.1.2 x0.2.2.1 x0.2.2.2 h) (.cons (spT1.ok (a:=(.sl (.sl (.pair .bool (.pair (.sl (.int .u32)) (.sl (.int .u32))))))) fun x0 h=>cConcat x0.1 x0.2 h) .nil)) .nil .nil (.cons Tryz.call73 Tryz.func73 (ac73_ok none) (by rw[Tryz.ntmps73];exact Nat.le_refl _) (.cons Tryz.call75 Tryz.func75 (ac75_ok none) (by rw[Tryz.ntmps75];exact Nat.le_refl _) (.cons Tryz.call74 Tryz.func74 (ac74_ok none) (by rw[Tryz.ntmps74];exact Nat.le_refl _) (.cons Tryz.call101 Tryz.func101 (ac101_ok none) (by rw[Tryz.ntmps101];exact Nat.le_refl _) .nil)))) 6 Tryz.call43 Tryz.func43 (ac43_ok (some (0,0))) (by rw[Tryz.ntmps43];exact Nat.le_refl _) rfl ⟨_,rfl⟩ ?_
 intro cmp ar cv tn ic ai mx an ad ml sb mn ln em gt up ap sc vw cp rp p1 p2 s1 s2 X Y hX hY r0 r1 r2 r3 r4 r5 r6 r7 r8 r9 r10 r11 r12 r13 r14 r15 r16 r17 r18 r19 r20 r21 r22 r23 r24
 generalize hg0:rchk=g0
 generalize hg1:mchk=g1
 generalize hg2:cat=g2
 cbv
 have hl:=h.a.h
 have hll:ic (ln tRs l)=l.length:=by rw[r4,r12]
 obtain ⟨r0L,hr0⟩:∃ r,r=s2 tR (gt tRs l 0):=⟨_,rfl⟩
 have hr0':r0L=row0 l:=by rw[hr0,r24,r14];rfl
 have hlr:ic (ln tR r0L)=r0L.length:=by rw[r4,r12]
 have e1:g1 l=if l.length=0 then 3 else if l.length>8 then 4 else if r0L.length=0 then 3 else if r0L.length>6 then 4 else if sameL r0L.length l then fe (cat l) else 16:=by rw[←hg1,hr0'];rfl
 rw[←hr0,hll,hlr]
 have b1:cmp .neq 3 0=true:=by rw[r0];rfl
 have b2:cmp .neq 4 0=true:=by rw[r0];rfl
 have b3:cmp .neq 0 0=false:=by rw[r0];rfl
 rw[b1,b2,b3]
 simp only[BR_true,BR_false]
 refine BR.eql r0 (fun h1=>?_) (fun h1=>BR.gtr r0 (fun h2=>?_) (fun h2=>?_))
 ·rw[e1,if_pos (by omega)]
 ·rw[e1,if_neg (by omega),if_pos (by omega)]
 have hI0:INB 0 l.length:=⟨Int.le_refl _,by omega⟩
 refine ⟨hI0,hI0,BR.eql r0 (fun h3=>?_) (fun h3=>BR.gtr r0 (fun h4=>?_) (fun h4=>?_))⟩
 ·rw[e1,if_neg (by omega),if_neg (by omega),if_pos (by omega)]
 ·rw[e1,if_neg (by omega),if_neg (by omega),if_neg (by omega),if_pos (by omega)]
 rw[if_neg (by omega),if_neg (by omega),if_neg (by omega),if_neg (by omega)]at e1
 obtain ⟨N,hN⟩:∃ N:Int,N=l.length:=⟨_,rfl⟩
 rw[←hN]
 rw[←hN]at hll
 refine LOOP.ind0 (σ:=Int) (fun i=>[(0,.tl nl tRs l),(1,.fn (.func 75) [] [.ptr 0 0]),(7,.p (iv N)),(8,.p (iv i))]) (fun _=>⟨[{ cells:=[.tl nl tRs l],e:=22,fz:=false }],[]⟩) (fun i=>(N - i).toNat) (fun i=>0≤i∧i≤N∧sameL r0L.length (l.drop i.toNat)=sameL r0L.length l) 0 ⟨by omega,by omega,rfl⟩ (.inl ⟨rfl,rfl⟩) ?_
 intro i ⟨i0,i1,i2⟩ X' hX
 obtain ⟨r,hr⟩:∃ r,r=s2 tR (gt tRs l i):=⟨_,rfl⟩
 have hr':r=(gtR tRs l i).2:=by rw[hr,r24,r14]
 have hrl:ic (ln tR r)=r.length:=by rw[r4,r12]
 have hst:i<l.length→sameL r0L.length (l.drop i.toNat)=(decide (r.length=r0L.length) && sameL r0L.length (l.drop (i+1).toNat)):=fun h=>by rw[gtR_drop (t:=tRs) i0 h,hr'];rfl
 have hse:¬ i<l.length→sameL r0L.length (l.drop i.toNat)=true:=fun h=>by rw[gtR_end h];rfl
 have hi1:i<l.length→ar .add .i64 i 1=i+1:=fun h1=>by rw[r1];exact wrap64 (n:=i+1) (by omega) (by omega)
 have hI0:INB 0 N:=⟨Int.le_refl _,by omega⟩
 cbv
 try simp only[nc_eq]at *
 rw[hll,←hr,←hr0,hrl,hlr]
 have bg:cmp .geq (-1) 0=false:=by rw[r0];rfl
 rw[bg]
 refine BR.lss r0 (fun h5=>?_) (fun h5=>?_)
 ·have hI:INB i N:=⟨i0,h5⟩
  have h5':i<l.length:=by omega
  rw[hi1 h5']
  refine ⟨hI,hI,hI0,hI0,BR.neq r0 (fun h6=>BR.geq r0 (fun h7=>?_) (fun h7=>absurd i0 h7)) (fun h6=>?_)⟩
  ·have h7:¬ r.length=r0L.length:=fun h8=>h6 (by rw[h8])
   rw[e1,←i2,hst h5',decide_eq_false h7];rfl
  ·have h7:r.length=r0L.length:=by omega
   exact NEXT.mk (hX (i+1) _ _ ⟨by omega,by omega,by rw[←i2,hst h5',decide_eq_true h7,Bool.true_and]⟩ (by show (N - (i+1)).toNat<(N - i).toNat;omega) (.inl ⟨rfl,rfl⟩))
 have hsame:sameL r0L.length l=true:=by rw[←i2];exact hse (by omega)
 rw[if_pos hsame]at e1
 have hcl:(cat l).length≤48:=by rw[sameL_cat hsame];exact Nat.mul_le_mul (show r0L.length≤6 by omega) (show l.length≤8 by omega)
 clear hX hst hse hi1 i0 i1 i2 hr hr' hrl h5
 rw[BR_false]
 have hcl0:0<(cat l).length:=by rw[sameL_cat hsame];exact Nat.mul_pos (by omega) (by omega)
 have e2:g2 l=cat l:=by rw[←hg2]
 have hsz:SZ 2000 (cat l):=cat_sz h.b
 obtain ⟨C,hC⟩:∃ C,C=cat l:=⟨_,rfl⟩
 rw[e2,←hC]
 rw[←hC]at e1 hsz
 obtain ⟨M,hM⟩:∃ M:Int,M=C.length:=⟨_,rfl⟩
 have hMl:ic (ln tR C)=M:=by rw[r4,r12,hM]
 rw[hMl]
 have hM48:M≤48:=by rw[hM,hC];omega
 refine ⟨⟨by omega,by omega,hcl0⟩,?_⟩
 refine LOOP.ind (σ:=Int) (fun i=>[(29,.tl none tR C),(30,.p (iv M)),(31,.p (iv i))]) (fun _=>⟨[],[]⟩) (fun i=>(M - i).toNat) (fun i=>0≤i∧i≤M∧fe (C.drop i.toNat)=fe C) 0 ⟨by omega,by omega,rfl⟩ (.inr ⟨[],[],?_⟩) ?_
 ·rw[SIM_iff];cbv;try simp[nlLe_self]
 intro k ⟨k0,k1,k2⟩ Y hY
 obtain ⟨x,hx⟩:∃ x:RT,x=gt tR C k:=⟨_,rfl⟩
 have hx':x=gtR tR C k:=by rw[hx,r14]
 have hck:k<C.length→CKP (s2 tW (p1 tN tN (p2 .bool (.pair tN tN) x))) (s2 tW (p2 tN tN (p2 .bool (.pair tN tN) x))):=fun h=>by rw[r21,r22,r24,hx'];exact hsz.ckp k0 h
 have hrc:g0 (p1 .bool (.pair tN tN) x) (s2 tW (p1 tN tN (p2 .bool (.pair tN tN) x))) (s2 tW (p2 tN tN (p2 .bool (.pair tN tN) x)))=rck x:=by rw[r21,r22,r24,←hg0];rfl
 obtain ⟨v,hv⟩:∃ v,v=rck x:=⟨_,rfl⟩
 have hst2:k<C.length→fe (C.drop k.toNat)=if v≠0 then v else fe (C.drop (k+1).toNat):=fun h=>by rw[gtR_drop (t:=tR) k0 h,←hx',hv];rfl
 have hse2:¬ k<C.length→fe (C.drop k.toNat)=0:=fun h=>by rw[gtR_end h];rfl
 have hk1:k<C.length→ar .add .i64 k 1=k+1:=fun h1=>by rw[r1];exact wrap64 (n:=k+1) (by omega) (by omega)
 rw[←hv]at hrc
 clear hv hx' hC
 cbv
 try simp only[nc_eq]at *
 rw[hMl,←hx,hrc]
 refine BR.lss r0 (fun h7=>?_) (fun h7=>?_)
 ·have h7':k<C.length:=by omega
  have hK:INB k M:=⟨k0,h7⟩
  rw[hk1 h7']
  refine ⟨hK,hK,hck h7',BR.neq r0 (fun h8=>?_) (fun h8=>?_)⟩
  ·rw[e1,←k2,hst2 h7',if_pos h8]
  ·exact NEXT.mk (hY (k+1) _ _ ⟨by omega,by omega,by rw[←k2,hst2 h7',if_neg h8]⟩ (by show (M - (k+1)).toNat<(M - k).toNat;omega) (.inr ⟨[],[],by rw[SIM_iff];cbv;try simp[nlLe_self]⟩))
 ·rw[e1,←k2,hse2 (by omega)]
end Go.Ab
namespace Go.Ab
open Go.Proofs
def colL (l:List RS) (b:Int):List RT:=l.map fun r=>gtR tR r.2 b
structure CLM (l:List RS) (b:Int):Prop where
 b0:0≤b
 n:l.length≤2000
 h:∀ r∈l,b<r.2.length
theorem cCol (nl:Option Bool) (l:List RS) (b:Int) (h:CLM l b):PurS Tryz.prog 70 [injT (.sl tRs) (nl,l),injT tI b] (.tl none tR (colL l b)):=by
 refine PurS.of (S:=[]) (T:=[]) (U:=[]) (tbl:=[]) (n:=23) hm31 cfg .nil .nil .nil .nil 0 Tryz.call70 Tryz.func70 (ac70_ok (some (0,0))) (by rw[Tryz.ntmps70];exact Nat.le_refl _) rfl ⟨_,rfl⟩ ?_
 intro cmp ar cv tn ic ai mx an ad ml sb mn ln em gt up ap sc vw cp rp p1 p2 s1 s2 X Y hX hY r0 r1 r2 r3 r4 r5 r6 r7 r8 r9 r10 r11 r12 r13 r14 r15 r16 r17 r18 r19 r20 r21 r22 r23 r24
 generalize hg0:colL=g0
 cbv
 have b0:=h.b0
 have hn:=h.n
 obtain ⟨N,hN⟩:∃ N:Int,N=l.length:=⟨_,rfl⟩
 have hll:ic (ln tRs l)=N:=by rw[r4,r12,hN]
 rw[hll]
 refine LOOP.ind (σ:=List RT×Int) (fun (O,i)=>[(1,.p (iv b)),(5,.og 0 tR O),(8,.tl nl tRs l),(9,.p (iv N)),(10,.p (iv i))]) (fun (O,i)=>⟨[],[(ml (ln tR O) 3,49)]⟩) (fun (_,i)=>(N - i).toNat)
  (fun (O,i)=>0≤i∧i≤N∧O.length≤i∧O ++ colL (l.drop i.toNat) b=colL l b) ([],0) ⟨by omega,by show (0:Int)≤N;omega,by show ((0:Nat):Int)≤0;omega,rfl⟩ (.inr ⟨[],[none],?_⟩) ?_
 ·rw[SIM_iff];cbv;simp[nlLe_self,lstEq]
 intro ⟨O,i⟩ ⟨i0,i1,i3,i2⟩ X' hX
 obtain ⟨r,hr⟩:∃ r,r=s2 tR (gt tRs l i):=⟨_,rfl⟩
 have hr':r=(gtR tRs l i).2:=by rw[hr,r24,r14]
 obtain ⟨rn,hrn⟩:∃ rn:Int,rn=r.length:=⟨_,rfl⟩
 have hrl:ic (ln tR r)=rn:=by rw[r4,r12,hrn]
 have hrb:i<l.length→b<rn:=fun h1=>by rw[hrn,hr'];exact h.h _ (gtR_mem (t:=tRs) i0 h1)
 obtain ⟨x,hx⟩:∃ x:RT,x=gt tR r b:=⟨_,rfl⟩
 have hst:i<l.length→colL (l.drop i.toNat) b=x :: colL (l.drop (i+1).toNat) b:=fun h1=>by rw[gtR_drop (t:=tRs) i0 h1,hx,r14,hr'];rfl
 have hse:¬ i<l.length→colL (l.drop i.toNat) b=[]:=fun h1=>by rw[gtR_end h1];rfl
 have hi1:i<l.length→ar .add .i64 i 1=i+1:=fun h1=>by rw[r1];exact wrap64 (n:=i+1) (by omega) (by omega)
 obtain ⟨y,hy⟩:∃ y:RT,y=(p1 .bool (.pair tN tN) x,(s1 tW (p1 tN tN (p2 .bool (.pair tN tN) x)),s2 tW (p1 tN tN (p2 .bool (.pair tN tN) x))),(s1 tW (p2 tN tN (p2 .bool (.pair tN tN) x)),s2 tW (p2 tN tN (p2 .bool (.pair tN tN) x)))):=⟨_,rfl⟩
 have hyx:y=x:=by rw[hy,r21,r22,r23,r24]
 have hap:ap tR O [y]=O ++ [y]:=by rw[r16]
 have hLIM:LIM (ad (ln tR O) (ln tR [y])) 56:=by
  rw[r8,r12];exact LIM_iff.2 ⟨by show (O.length+1)*56≤_;omega,by show O.length+1≤_;omega⟩
 have hEQ:EQN (ml (ln tR O) 3) (ml (ln tR O) 3):=⟨rfl⟩
 have e0:g0 l b=colL l b:=by rw[←hg0]
 rw[←e0]at i2
 cbv
 try simp only[nc_eq]at *
 rw[hll,←hr,hrl,←hx]
 try rw[←hy]
 rw[hap]
 refine BR.lss r0 (fun h1=>?_) (fun h1=>⟨nlLe_none.2 trivial,by rw[←i2,hse (by omega),List.append_nil]⟩)
 have h1':i<l.length:=by omega
 have hI:INB i N:=⟨i0,h1⟩
 have hB:INB b rn:=⟨b0,hrb h1'⟩
 rw[hi1 h1']
 refine ⟨hI,hI,hB,hB,hEQ,hLIM,NEXT.mk (hX (O ++ [y],i+1) _ _ ⟨by show (0:Int)≤i+1;omega,by show i+1≤N;omega,?_,?_⟩ (by show (N - (i+1)).toNat<(N - i).toNat;omega) (.inl ⟨rfl,rfl⟩))⟩
 ·show ((O ++ [y]).length:Int)≤i+1
  rw[List.length_append];show ((O.length+1:Nat):Int)≤_;omega
 ·show (O ++ [y]) ++ colL (l.drop (i+1).toNat) b=colL l b
  rw[←e0,List.append_assoc,←i2,hst h1',hyx];rfl
end Go.Ab
namespace Go.Ab
open Go.Proofs
def addE (x y:RT):Int:=adE x.1 x.2.1.2 x.2.2.2 y.1 y.2.1.2 y.2.2.2
def addT (x y:RT):RT:=(adS x.1 x.2.1.2 x.2.2.2 y.1 y.2.1.2 y.2.2.2,(none,adN x.1 x.2.1.2 x.2.2.2 y.1 y.2.1.2 y.2.2.2),(none,adD x.1 x.2.1.2 x.2.2.2 y.1 y.2.1.2 y.2.2.2))
def zT:RT:=(false,(none,[]),(none,[]))
def fldT:RT→List RT→RT
 | x,[]=>x
 | x,y :: l=>if addE x y≠0 then zT else fldT (addT x y) l
def fldE:RT→List RT→Int
 | _,[]=>0
 | x,y :: l=>if addE x y≠0 then addE x y else fldE (addT x y) l
structure FP (x:RT) (l:List RT):Prop where
 x:CKP x.2.1.2 x.2.2.2
 n:l.length≤2000
 h:SZ 2000 l
theorem cFoldA (s:Bool) (na:Option Bool) (a:List Int) (nb:Option Bool) (b:List Int) (nl:Option Bool) (l:List RT) (x T:RT) (E:Int) (hx:x=(s,(na,a),(nb,b))) (hT:T=fldT x l) (hE:E=fldE x l) (h:FP x l):PurS Tryz.prog 71 [.fn (.func 41) [] [],injT tR (s,(na,a),(nb,b)),injT tRs (nl,l)] (.tup [.agg [.sb T.1,.tl none tW T.2.1.2,.tl none tW T.2.2.2],.p (iv E)]):=by
 refine PurS.of (S:=[(41,_)]) (T:=[]) (U:=[]) (tbl:=[]) (n:=33) hm31 cfg (.cons (spT2.ok (a:=(.pair .bool (.pair (.sl (.int .u32)) (.sl (.int .u32))))) (b:=(.pair .bool (.pair (.sl (.int .u32)) (.sl (.int .u32))))) fun x0 x1 h=>cRAdd x0.1 x0.2.1.1 x0.2.1.2 x0.2.2.1 x0.2.2.2 x1.1 x1.2.1.1 x1.2.1.2 x1.2.2.1 x1.2.2.2 h) .nil) .nil .nil .nil 0 Tryz.call71 Tryz.func71 (ac71_ok (some (0,0))) (by rw[Tryz.ntmps71];exact Nat.le_refl _) rfl ⟨_,rfl⟩ ?_
 intro cmp ar cv tn ic ai mx an ad ml sb mn ln em gt up ap sc vw cp rp p1 p2 s1 s2 X Y hX hY r0 r1 r2 r3 r4 r5 r6 r7 r8 r9 r10 r11 r12 r13 r14 r15 r16 r17 r18 r19 r20 r21 r22 r23 r24
 generalize hg0:adS=g0
 generalize hg1:adN=g1
 generalize hg2:adD=g2
 generalize hg3:adE=g3
 cbv
 have hn:=h.n
 obtain ⟨N,hN⟩:∃ N:Int,N=l.length:=⟨_,rfl⟩
 have hll:ic (ln tR l)=N:=by rw[r4,r12,hN]
 rw[hll]
 refine LOOP.ind (σ:=(Bool×Option Bool×List Int×Option Bool×List Int)×Int) (fun (_,i)=>[(0,.fn (.func 41) [] []),(4,.ptr 0 0),(6,.ptr 1 0),(13,.tl nl tR l),(14,.p (iv N)),(15,.p (iv i))])
  (fun ((s,na,a,nb,b),i)=>⟨[{ cells:=[.sb s,.tl na tW a,.tl nb tW b],e:=49,fz:=false },{ cells:=[.p (.v (.bool false)),.p (.sl (some true) 0 []),.p (.sl (some true) 0 [])],e:=49,fz:=false }],[]⟩)
  (fun (_,i)=>(N - i).toNat) (fun ((s,na,a,nb,b),i)=>0≤i∧i≤N∧CKP a b∧fldT (s,(na,a),(nb,b)) (l.drop i.toNat)=T∧fldE (s,(na,a),(nb,b)) (l.drop i.toNat)=E)
  ((s,na,a,nb,b),0) ⟨by omega,by omega,by have:=h.x;rw[hx]at this;exact this,by rw[hT,hx];rfl,by rw[hE,hx];rfl⟩ (.inl ⟨rfl,rfl⟩) ?_
 clear hx hT hE
 intro ⟨⟨s,na,a,nb,b⟩,i⟩ ⟨i0,i1,hc,h2,h3⟩ X' hX
 obtain ⟨y,hy⟩:∃ y:RT,y=gt tR l i:=⟨_,rfl⟩
 have hy':y=gtR tR l i:=by rw[hy,r14]
 have hst:i<l.length→l.drop i.toNat=y :: l.drop (i+1).toNat:=fun h1=>by rw[gtR_drop (t:=tR) i0 h1,hy']
 have hse:¬ i<l.length→l.drop i.toNat=[]:=fun h1=>by rw[gtR_end h1]
 have hck:i<l.length→CKP y.2.1.2 y.2.2.2:=fun h1=>by rw[hy'];exact h.h.ckp i0 h1
 have hi1:i<l.length→ar .add .i64 i 1=i+1:=fun h1=>by rw[r1];exact wrap64 (n:=i+1) (by omega) (by omega)
 clear hy'
 obtain ⟨s',⟨nc,c⟩,⟨nd,d⟩⟩:=y
 have q3:g3 s a b s' c d=adE s a b s' c d:=by rw[←hg3]
 cbv
 try simp only[nc_eq]at *
 rw[hll,←hy]
 simp only[r21,r22,r23,r24]
 have q0:g0 s a b s' c d=adS s a b s' c d:=by rw[←hg0]
 have q1:g1 s a b s' c d=adN s a b s' c d:=by rw[←hg1]
 have q2:g2 s a b s' c d=adD s a b s' c d:=by rw[←hg2]
 rw[q3]
 refine BR.lss r0 (fun h1=>?_) (fun h1=>?_)
 ·have h1':i<l.length:=by omega
  have hI:INB i N:=⟨i0,h1⟩
  have e2:fldT (s,(na,a),(nb,b)) (l.drop i.toNat)=if adE s a b s' c d≠0 then zT else fldT (g0 s a b s' c d,(none,g1 s a b s' c d),(none,g2 s a b s' c d)) (l.drop (i+1).toNat):=by rw[hst h1',q0,q1,q2];rfl
  have e3:fldE (s,(na,a),(nb,b)) (l.drop i.toNat)=if adE s a b s' c d≠0 then adE s a b s' c d else fldE (g0 s a b s' c d,(none,g1 s a b s' c d),(none,g2 s a b s' c d)) (l.drop (i+1).toNat):=by rw[hst h1',q0,q1,q2];rfl
  rw[e2]at h2;rw[e3]at h3
  rw[hi1 h1']
  refine ⟨hI,hI,⟨hc,hck h1'⟩,BR.neq r0 (fun h4=>?_) (fun h4=>?_)⟩
  ·rw[if_pos h4]at h2 h3
   rw[←h2,←h3]
   exact ⟨⟨rfl,⟨nlLe_none.2 trivial,rfl⟩,⟨nlLe_none.2 trivial,rfl⟩,trivial⟩,rfl,trivial⟩
  ·rw[if_neg h4]at h2 h3
   have h5:=Classical.not_not.1 h4
   have hq:adN s a b s' c d=qN (adQ s a b s' c d)∧adD s a b s' c d=qD (adQ s a b s' c d):=by unfold adN adD;rw[if_pos h5,if_pos h5];exact ⟨rfl,rfl⟩
   have hlq:(qN (adQ s a b s' c d)).length≤128∧(qD (adQ s a b s' c d)).length≤128:=by
    unfold adE at h5
    split at h5
    ·rename_i h6;exact absurd h5 h6
    ·split at h5
     ·exact absurd h5 (by decide)
     ·omega
   have hlbD:LB (qD (adQ s a b s' c d)):=by unfold qD;split;exact .nil;exact LB_lm _
   have hck2:CKP (g1 s a b s' c d) (g2 s a b s' c d):=by
    rw[q1,q2,hq.1,hq.2];exact ⟨LB_lm _,hlbD,by omega,by omega⟩
   refine NEXT.mk (hX ((g0 s a b s' c d,none,g1 s a b s' c d,none,g2 s a b s' c d),i+1) _ _ ⟨by show (0:Int)≤i+1;omega,by show i+1≤N;omega,hck2,h2,h3⟩ (by show (N - (i+1)).toNat<(N - i).toNat;omega) (.inr ⟨[some 0,some 1],[],?_⟩))
   rw[SIM_iff];cbv;try simp[nlLe_self]
 ·rw[hse (by omega)]at h2 h3
  have h2':(s,(na,a),(nb,b))=T:=h2
  have h3':(0:Int)=E:=h3
  rw[←h2',←h3']
  exact ⟨⟨rfl,⟨nlLe_none.2 trivial,rfl⟩,⟨nlLe_none.2 trivial,rfl⟩,trivial⟩,rfl,trivial⟩
end Go.Ab
