/- Limbs: leading zeros,comparison of numbers,checks. -/
import Derived.Test.YtlmdgmppeacobaaGreatLa
set_option linter.unusedSimpArgs false
set_option linter.unusedVariables false
set_option maxRecDepth 20000
set_option maxHeartbeats 4000000
namespace Go.Ab
open Go.Proofs
structure TRP (l:List Int):Prop where
 lb:LB l
 ln:l.length≤100000
def trm (l:List Int):List Int:=lm (vl l)
def ordL (a b:List Int):Int:=cmpN (vl a) (vl b)
structure CN2 (a b:List Int):Prop where
 ca:CN a
 cb:CN b
 la:a.length≤100000
 lb:b.length≤100000
theorem cOrder (na:Option Bool) (a:List Int) (nb:Option Bool) (b:List Int) (h:CN2 a b):PurS Tryz.prog 112 [injT tN (na,a),injT tN (nb,b)] (.p (iv (ordL a b))):=by
 refine PurS.of (S:=[(133,_),(134,_)]) (T:=[]) (U:=[]) (tbl:=[(131,ac131 none,[.tmp 2],4),(144,ac144 none,[],19)]) (n:=30) hm31 cfg (.cons (spT2.ok (a:=(.int .i64)) (b:=(.int .i64)) (pre:=fun _ _=>True) fun x0 x1 _=>cCmpI x0 x1) (.cons (spT2.ok (a:=(.int .u32)) (b:=(.int .u32)) (pre:=fun _ _=>True) fun x0 x1 _=>cCmpW x0 x1) .nil)) .nil .nil (.cons Tryz.call131 Tryz.func131 (ac131_ok none) (by rw[Tryz.ntmps131];exact Nat.le_refl _) (.cons Tryz.call144 Tryz.func144 (ac144_ok none) (by rw[Tryz.ntmps144];exact Nat.le_refl _) .nil)) 6 Tryz.call112 Tryz.func112 (ac112_ok (some (0,0)) (some (3,0))) (by rw[Tryz.ntmps112];exact Nat.le_refl _) rfl ⟨_,rfl⟩ ?_
 intro cmp ar cv tn ic ai mx an ad ml sb mn ln em gt up ap sc vw cp rp p1 p2 s1 s2 X Y hX hY r0 r1 r2 r3 r4 r5 r6 r7 r8 r9 r10 r11 r12 r13 r14 r15 r16 r17 r18 r19 r20 r21 r22 r23 r24
 generalize hg0:ordL=g0
 generalize hg1:cmpI=g1
 cbv
 obtain ⟨ca,cb,hla,hlb⟩:=h
 obtain ⟨A,hA⟩:∃ A:Int,A=a.length:=⟨_,rfl⟩
 obtain ⟨B,hB⟩:∃ B:Int,B=b.length:=⟨_,rfl⟩
 have e1:ic (ln tW a)=A:=by rw[r4,r12,hA]
 have e2:ic (ln tW b)=B:=by rw[r4,r12,hB]
 rw[e1,e2]
 refine BR.neq r0 (fun h0=>?_) (fun h0=>?_)
 ·rw[←hg0,←hg1]at *
  unfold cmpI ordL at *
  split
  ·rw[cmpN_lt (ca.len_lt cb (by omega))]
  ·split
   ·rw[cmpN_gt (cb.len_lt ca (by omega))]
   ·rename_i h1 h2;rw[if_neg h1,if_neg h2]at h0;exact absurd rfl h0
 have hAB:A=B:=by
  rw[←hg1]at h0
  unfold cmpI at h0
  split at h0
  ·exact absurd (by decide) h0
  ·split at h0
   ·exact absurd (by decide) h0
   ·omega
 refine ALLY.mk fun y=>?_
 cbv
 try simp only[nc_eq]at *
 rw[e1]
 have hs1:ar .sub .i64 A 1=A - 1:=by rw[r1];exact wrap64 (n:=A - 1) (by omega) (by omega)
 rw[hs1]
 refine LOOP.ind (σ:=Int) (fun i=>[(0,.fn (.yield y) [] []),(1,.ptr 2 0),(3,.p (iv i))]) (fun _=>⟨[{ cells:=[.tl nb tW b],e:=47,fz:=false },{ cells:=[.p (iv 0)],e:=3,fz:=false },{ cells:=[.tl na tW a],e:=47,fz:=false }],[]⟩)
  (fun i=>(i+1).toNat) (fun i=>-1≤i∧i<A∧a.drop (i+1).toNat=b.drop (i+1).toNat) (A - 1) ⟨by omega,by omega,by rw[List.drop_eq_nil_of_le (by omega),List.drop_eq_nil_of_le (by omega)]⟩ (.inl ⟨rfl,rfl⟩) ?_
 intro i hI X' hX
 obtain ⟨hI1,hI2,hI3⟩:=hI
 obtain ⟨u,hu⟩:∃ u:Int,u=gt tW a i:=⟨_,rfl⟩
 obtain ⟨v,hv⟩:∃ v:Int,v=gt tW b i:=⟨_,rfl⟩
 have hu':u=a.getD i.toNat 0:=by rw[hu,r14];rfl
 have hv':v=b.getD i.toNat 0:=by rw[hv,r14];rfl
 have hsub:0≤i→ar .sub .i64 i 1=i - 1:=fun h=>by rw[r1];exact wrap64 (n:=i - 1) (by omega) (by omega)
 have hlt:0≤i→u<v→ordL a b = -1:=fun h0 h=>cmpN_lt (ord_lt ca.lb cb.lb (i:=i.toNat) (by omega) (by omega) (by rw[show i.toNat+1=(i+1).toNat by omega];exact hI3) (by rw[←hu',←hv'];exact h))
 have hgt:0≤i→v<u→ordL a b=1:=fun h0 h=>cmpN_gt (ord_lt cb.lb ca.lb (i:=i.toNat) (by omega) (by omega) (by rw[show i.toNat+1=(i+1).toNat by omega];exact hI3.symm) (by rw[←hu',←hv'];exact h))
 have hne:0≤i→g1 u v≠0→g1 u v=g0 a b:=fun h0 h=>by
  rw[←hg0,←hg1]at *
  unfold cmpI at *
  split
  ·rename_i h1;exact (hlt h0 h1).symm
  ·split
   ·rename_i h1;exact (hgt h0 h1).symm
   ·rename_i h1 h2;rw[if_neg h1,if_neg h2]at h;exact absurd rfl h
 have heq:g1 u v=0→u=v:=fun h=>by
  rw[←hg1]at h
  unfold cmpI at h
  split at h
  ·cases h
  ·split at h
   ·cases h
   ·omega
 have hend:¬ 0≤i→0=g0 a b:=fun h=>by
  have hi:i = -1:=by omega
  subst hi
  have e:a=b:=hI3
  rw[←hg0];unfold ordL;rw[e,cmpN_eq]
 cbv
 try simp only[nc_eq]at *
 rw[e1,e2,←hu,←hv]
 refine BR.geq r0 (fun h0=>?_) (fun h0=>hend h0)
 have hi1:INB i A:=⟨h0,hI2⟩
 have hi2:INB i B:=⟨h0,hAB ▸ hI2⟩
 rw[hsub h0]
 refine ⟨hi1,hi1,hi2,hi2,BR.neq r0 (fun h=>hne h0 h) (fun h=>NEXT.mk (hX (i - 1) _ _ ⟨by omega,by omega,?_⟩ (by show (i - 1+1).toNat<(i+1).toNat;omega) (.inl ⟨rfl,rfl⟩)))⟩
 have h1:=heq (Classical.not_not.1 h)
 rw[show (i - 1+1).toNat=i.toNat by omega]
 exact drop_step (i:=i.toNat) (by omega) (by omega) (by rw[show i.toNat+1=(i+1).toNat by omega];exact hI3) (by rw[←hu',←hv',h1])
def endB (l:List Int):Bool:=decide (l.length>0∧l.getD (l.length - 1) 0=0)
def bchk (l:List Int):Int:=if l.length>512 then 4 else if endB l then 2 else 0
structure Sh (l:List Int):Prop where
 h:l.length≤140737488355328
theorem cBChk (nl:Option Bool) (l:List Int) (h:Sh l):PurS Tryz.prog 84 [injT tN (nl,l)] (.p (iv (bchk l))):=by
 refine PurS.of (S:=[]) (T:=[]) (U:=[]) (tbl:=[]) (n:=20) hm31 cfg .nil .nil .nil .nil 0 Tryz.call84 Tryz.func84 (ac84_ok (some (0,0))) (by rw[Tryz.ntmps84];exact Nat.le_refl _) rfl ⟨_,rfl⟩ ?_
 intro cmp ar cv tn ic ai mx an ad ml sb mn ln em gt up ap sc vw cp rp p1 p2 s1 s2 X Y hX hY r0 r1 r2 r3 r4 r5 r6 r7 r8 r9 r10 r11 r12 r13 r14 r15 r16 r17 r18 r19 r20 r21 r22 r23 r24
 generalize hg0:bchk=g0
 cbv
 have h:=h.h
 obtain ⟨A,hA⟩:∃ A:Int,A=l.length:=⟨_,rfl⟩
 have hla:ic (ln tW l)=A:=by rw[r4,r12,hA]
 have hsub:0<A→ar .sub .i64 A 1=A - 1:=fun h=>by rw[r1];exact wrap64 (n:=A - 1) (by omega) (by omega)
 have hgt:0<A→gt tW l (A - 1)=l.getD (l.length - 1) 0:=fun h=>by
  rw[r14];show l.getD (A - 1).toNat 0=_
  rw[show (A - 1).toNat=l.length - 1 by omega]
 rw[hla]
 refine BR.gtr r0 (fun h1=>?_) (fun h1=>BR.gtr r0 (fun h2=>?_) fun h2=>?_)
 ·rw[←hg0];unfold bchk;rw[if_pos (by omega)]
 ·rw[hsub h2,hgt h2]
  refine ⟨⟨by omega,by omega⟩,⟨by omega,by omega⟩,BR.eql r0 (fun h3=>?_) (fun h3=>?_)⟩
  ·rw[←hg0];unfold bchk endB;rw[if_neg (by omega),if_pos (decide_eq_true ⟨by omega,h3⟩)]
  ·rw[←hg0];unfold bchk endB;rw[if_neg (by omega),if_neg (by rw[decide_eq_true_eq];exact fun h=>h3 h.2)]
 ·rw[←hg0];unfold bchk endB;rw[if_neg (by omega),if_neg (by rw[decide_eq_true_eq];exact fun h=>h2 (by omega))]
def orL:List Int→Int
 | []=>0
 | x :: l=>if x≠0 then x else orL l
theorem cOr (nl:Option Bool) (l:List Int) (h:Short 100 l):PurS Tryz.prog 56 [injT (.sl tI) (nl,l)] (.p (iv (orL l))):=by
 refine PurS.of (S:=[]) (T:=[]) (U:=[]) (tbl:=[]) (n:=18) hm31 cfg .nil .nil .nil .nil 0 Tryz.call56 Tryz.func56 (ac56_ok (some (0,0))) (by rw[Tryz.ntmps56];exact Nat.le_refl _) rfl ⟨_,rfl⟩ ?_
 intro cmp ar cv tn ic ai mx an ad ml sb mn ln em gt up ap sc vw cp rp p1 p2 s1 s2 X Y hX hY r0 r1 r2 r3 r4 r5 r6 r7 r8 r9 r10 r11 r12 r13 r14 r15 r16 r17 r18 r19 r20 r21 r22 r23 r24
 generalize hg0:orL=g0
 cbv
 have hl:=h.h
 obtain ⟨A,hA⟩:∃ A:Int,A=l.length:=⟨_,rfl⟩
 have hla:ic (ln tI l)=A:=by rw[r4,r12,hA]
 rw[hla]
 refine LOOP.ind (σ:=Int) (fun i=>[(3,.p (iv 0)),(6,.tl nl tI l),(7,.p (iv A)),(8,.p (iv i))]) (fun _=>⟨[],[]⟩) (fun i=>(A - i).toNat) (fun i=>0≤i∧i≤A∧orL (l.drop i.toNat)=orL l) 0 ⟨by omega,by omega,rfl⟩ (.inl ⟨rfl,rfl⟩) ?_
 intro i hI X' hX
 obtain ⟨hI1,hI2,hI3⟩:=hI
 obtain ⟨x,hx⟩:∃ x:Int,x=gt tI l i:=⟨_,rfl⟩
 have hst:i<A→orL l=if x≠0 then x else orL (l.drop (i+1).toNat):=fun h=>by
  rw[←hI3,gtR_drop (t:=tI) (by omega) (by omega),hx,r14];rfl
 have hadd:i<A→ar .add .i64 i 1=i+1:=fun h=>by rw[r1];exact wrap64 (n:=i+1) (by omega) (by omega)
 have hend:¬ i<A→0=g0 l:=fun h=>by rw[←hg0,←hI3,gtR_end (by omega)];rfl
 cbv
 try simp only[nc_eq]at *
 rw[hla,←hx]
 refine BR.lss r0 (fun h0=>?_) hend
 refine ⟨⟨hI1,h0⟩,⟨hI1,h0⟩,BR.neq r0 (fun h=>?_) (fun h=>?_)⟩
 ·rw[←hg0,hst h0,if_pos h]
 ·rw[hadd h0]
  exact NEXT.mk (hX (i+1) _ _ ⟨by omega,by omega,by rw[hst h0,if_neg h]⟩ (by show (A - (i+1)).toNat<(A - i).toNat;omega) (.inl ⟨rfl,rfl⟩))
def or2 (x y:Int):Int:=if x≠0 then x else y
theorem orL2 (x y:Int):orL [x,y]=or2 x y:=by
 unfold orL or2
 split
 ·rfl
 ·unfold orL orL
  split
  ·rfl
  ·omega
structure Sh2 (a b:List Int):Prop where
 a:Sh a
 b:Sh b
def bchk2 (a b:List Int):Int:=or2 (bchk a) (bchk b)
theorem cBChk2 (na:Option Bool) (a:List Int) (nb:Option Bool) (b:List Int) (h:Sh2 a b):PurS Tryz.prog 109 [injT tN (na,a),injT tN (nb,b)] (.p (iv (bchk2 a b))):=by
 refine PurS.of (S:=[(84,_),(56,_)]) (T:=[]) (U:=[]) (tbl:=[]) (n:=11) hm31 cfg (.cons (spT1.ok (a:=(.sl (.int .u32))) fun x0 h=>cBChk x0.1 x0.2 h) (.cons (spT1.ok (a:=(.sl (.int .i64))) fun x0 h=>cOr x0.1 x0.2 h) .nil)) .nil .nil .nil 0 Tryz.call109 Tryz.func109 (ac109_ok (some (0,0))) (by rw[Tryz.ntmps109];exact Nat.le_refl _) rfl ⟨_,rfl⟩ ?_
 intro cmp ar cv tn ic ai mx an ad ml sb mn ln em gt up ap sc vw cp rp p1 p2 s1 s2 X Y hX hY r0 r1 r2 r3 r4 r5 r6 r7 r8 r9 r10 r11 r12 r13 r14 r15 r16 r17 r18 r19 r20 r21 r22 r23 r24
 generalize hg0:bchk=g0
 generalize hg1:bchk2=g1
 generalize hg2:orL=g2
 cbv
 refine ⟨h.a,h.b,⟨Nat.le_of_ble_eq_true rfl⟩,?_⟩
 rw[←hg0,←hg1,←hg2];exact orL2 _ _
end Go.Ab
namespace Go.Ab
open Go.Proofs
def bxW (N:Nat) (ap:Bool) (l:List Int):BoxS:={ cells:=[.arr N tW l],e:=117,fz:=false,ap:=ap }
theorem set_up {N:Nat} {l:List Int} (h:l.length=N) (k x:Int):upR tW N l k x=l.set k.toNat x:=by unfold upR;rw[Ty.norm_eq tW h]
theorem addStep {a:List Int} (h:LB a) {j:Nat} (hj:j<a.length) {x c:Int} (x0:0≤x) (x1:x<4294967296) (c0:0≤c) (c1:c≤1) :
  LB (a.set j (add32 (a.getD j 0) x c))∧0≤cry32 (a.getD j 0) x c∧cry32 (a.getD j 0) x c≤1 ∧
  vl (a.set j (add32 (a.getD j 0) x c))+4294967296 ^ (j+1)*(cry32 (a.getD j 0) x c).toNat=vl a+4294967296 ^ j*(x.toNat+c.toNat):=by
 obtain ⟨h0,h1⟩:=h.getD j
 obtain ⟨z,hz⟩:∃ z:Nat,(z:Int)=add32 (a.getD j 0) x c:=⟨(add32 (a.getD j 0) x c).toNat,by unfold add32;omega⟩
 have e:add32 (a.getD j 0) x c=(a.getD j 0+x+c) % 4294967296:=rfl
 have e2:cry32 (a.getD j 0) x c=(a.getD j 0+x+c) / 4294967296:=rfl
 refine ⟨h.set j (by omega) (by omega),by omega,by omega,?_⟩
 rw[←hz]
 exact step_add hj (by omega)
theorem add_alg {v w a T d c y i s:Nat} (h1:v+4294967296 ^ (i+s+1)*d=w+4294967296 ^ (i+s)*(y+c)) (h2:w+4294967296 ^ (i+s)*c=a+4294967296 ^ s*T) :
  v+4294967296 ^ (i+s+1)*d=a+4294967296 ^ s*(T+4294967296 ^ i*y):=by
 have e:4294967296 ^ s*(4294967296 ^ i*y)=4294967296 ^ (i+s)*y:=by rw[←Nat.mul_assoc,←Nat.pow_add,Nat.add_comm s i]
 rw[Nat.mul_add,e]
 rw[Nat.mul_add]at h1
 omega
structure ADDP (N:Nat) (a b:List Int) (s:Int):Prop where
 la:LB a
 lb:LB b
 len:a.length=N
 s0:0≤s
 fit:s+b.length≤N
 big:N≤100000
 v:vl a+4294967296 ^ s.toNat*vl b<4294967296 ^ N
theorem cAddT (aq:Bool) (N:Nat) (a L:List Int) (nb:Option Bool) (b:List Int) (s:Int) (h:ADDP N a b s) (hL:L=pad N (vl a+4294967296 ^ s.toNat*vl b)):FnS Tryz.prog 136 ([.ms 0 0 1 none N,injT tN (nb,b),injT tI s]) (⟨[bxW N aq a],[]⟩ ) fun x_ s_=>x_=(.tup [])∧s_=(⟨[bxW N aq L],[]⟩):=by
 refine FnS.of (S:=[(148,_)]) (T:=[]) (U:=[]) (tbl:=[(147,ac147 none,[],19)]) (n:=37) hm31 cfg (.cons (spT3.ok (a:=(.int .u32)) (b:=(.int .u32)) (c:=(.int .u32)) fun x0 x1 x2 h=>cAdd32 x0 x1 x2 h) .nil) .nil .nil (.cons Tryz.call147 Tryz.func147 (ac147_ok none) (by rw[Tryz.ntmps147];exact Nat.le_refl _) .nil) 6 Tryz.call136 Tryz.func136 (ac136_ok (some (1,0))) (by rw[Tryz.ntmps136];exact Nat.le_refl _) rfl _ _ _ (by rfl) ?_
 intro cmp ar cv tn ic ai mx an ad ml sb mn ln em gt up ap sc vw cp rp p1 p2 s1 s2 X Y hX hY r0 r1 r2 r3 r4 r5 r6 r7 r8 r9 r10 r11 r12 r13 r14 r15 r16 r17 r18 r19 r20 r21 r22 r23 r24
 generalize hg0:add32=g0
 generalize hg1:cry32=g1
 cbv
 obtain ⟨hla,hlb,hlen,hs0,hfit,hbig,hv⟩:=h
 obtain ⟨B,hB⟩:∃ B:Int,B=b.length:=⟨_,rfl⟩
 have e1:ic (ln tW b)=B:=by rw[r4,r12,hB]
 rw[e1]
 obtain ⟨V,hV⟩:∃ V,V=vl a+4294967296 ^ s.toNat*vl b:=⟨_,rfl⟩
 rw[←hV]at hL hv
 refine LOOP.ind (σ:=Int×Int×List Int) (fun (i,_,_)=>[(1,.tl nb tW b),(2,.p (iv s)),(6,.ptr 2 0),(7,.fn (.func 147) [] [.ptr 1 0,.ptr 2 0]),(12,.tl nb tW b),(13,.p (iv B)),(14,.p (iv i))])
  (fun (_,c,a')=>⟨[bxW N aq a',{ cells:=[.ms 0 0 1 none N],e:=47,fz:=false },{ cells:=[.p (uw c)],e:=117,fz:=false }],[]⟩)
  (fun (i,_,_)=>(B - i).toNat) (fun (i,c,a')=>0≤i∧i≤B∧0≤c∧c≤1∧LB a'∧a'.length=N∧vl a'+4294967296 ^ (i+s).toNat*c.toNat=vl a+4294967296 ^ s.toNat*vl (b.take i.toNat)) (0,0,a)
  ⟨by omega,by show (0:Int)≤B;omega,by decide,by decide,hla,hlen,by simp[vl]⟩ (.inl ⟨rfl,rfl⟩) ?_
 intro ⟨i,c,a'⟩ hI X' hX
 obtain ⟨hI1,hI2,hc0,hc1,hl',hn',hI3⟩:=hI
 obtain ⟨y,hy⟩:∃ y:Int,y=gt tW b i:=⟨_,rfl⟩
 obtain ⟨j,hj⟩:∃ j,j=ar .add .i64 i s:=⟨_,rfl⟩
 obtain ⟨x,hx⟩:∃ x:Int,x=gt tW a' j:=⟨_,rfl⟩
 have hjv:i≤B→j=i+s:=fun h=>by rw[hj,r1];exact wrap64 (n:=i+s) (by omega) (by omega)
 have hy':y=b.getD i.toNat 0:=by rw[hy,r14];rfl
 have hx':x=a'.getD j.toNat 0:=by rw[hx,r14];rfl
 have hyb:=hlb.getD i.toNat
 have hxb:=hl'.getD j.toNat
 have hadd:i<B→ar .add .i64 i 1=i+1:=fun h=>by rw[r1];exact wrap64 (n:=i+1) (by omega) (by omega)
 have hicN:ic N=N:=by rw[r4]
 cbv
 try simp only[nc_eq]at *
 rw[e1,hicN,←hj,←hx,←hy]
 have hset:∀ z:Int,up tW N a' j z=a'.set j.toNat z:=fun z=>by rw[r15];exact set_up hn' _ _
 refine BR.lss r0 (fun hc=>?_) (fun hc=>?_)
 ·have hjv':=hjv (by omega)
  have hjb:INB j N:=⟨by omega,by omega⟩
  have hib:INB i B:=⟨hI1,hc⟩
  obtain ⟨q1,q2,q3,q4⟩:=addStep hl' (j:=j.toNat) (by omega) (x:=y) (c:=c) (by omega) (by omega) hc0 hc1
  rw[←hx',hg0,hg1]at *
  rw[hadd hc,hset]
  refine ⟨hib,hib,hjb,hjb,⟨by omega,by omega,by omega,by omega,hc0,hc1⟩,hjb,hjb,NEXT.mk (hX (i+1,_,_) _ _ ⟨by omega,by omega,q2,q3,q1,by rw[List.length_set];exact hn',?_⟩ (by show (B - (i+1)).toNat<(B - i).toNat;omega) (.inl ⟨rfl,rfl⟩))⟩
  rw[show (i+1).toNat=i.toNat+1 by omega,vl_take_succ (by omega),←hy',show (i+1+s).toNat=i.toNat+s.toNat+1 by omega]
  have hji:j.toNat=i.toNat+s.toNat:=by omega
  dsimp only
  rw[hji]at q4 ⊢
  rw[show (i+s).toNat=i.toNat+s.toNat by omega]at hI3
  exact add_alg q4 hI3
 have hiB:i=B:=by omega
 subst hiB
 have hT:vl a'+4294967296 ^ (i+s).toNat*c.toNat=V:=by rw[hI3,hV,List.take_of_length_le (by omega)]
 obtain ⟨k0,hk0⟩:∃ k0,k0=ar .add .i64 i s:=⟨_,rfl⟩
 rw[←hk0]
 have hk0v:k0=i+s:=by rw[hk0,←hj];exact hjv (Int.le_refl _)
 refine LOOP.ind (σ:=Int×Int×List Int) (fun (k,_,_)=>[(6,.ptr 2 0),(7,.fn (.func 147) [] [.ptr 1 0,.ptr 2 0]),(10,.p (iv k))])
  (fun (_,c,a')=>⟨[bxW N aq a',{ cells:=[.ms 0 0 1 none N],e:=47,fz:=false },{ cells:=[.p (uw c)],e:=117,fz:=false }],[]⟩)
  (fun (k,_,_)=>(N - k).toNat) (fun (k,c,a')=>0≤k∧k≤N∧0≤c∧c≤1∧LB a'∧a'.length=N∧vl a'+4294967296 ^ k.toNat*c.toNat=V) (k0,c,a')
  ⟨by omega,by show k0≤(N:Int);omega,hc0,hc1,hl',hn',by rw[hk0v];exact hT⟩ (.inl ⟨rfl,rfl⟩) ?_
 clear hX hI3 hT hset hx' hxb hl' hn' hx hy hy' hyb hj hjv hadd
 intro ⟨k,c,a'⟩ hI X2 hY
 obtain ⟨hI1,hI2,hc0,hc1,hl',hn',hI3⟩:=hI
 obtain ⟨x,hx⟩:∃ x:Int,x=gt tW a' k:=⟨_,rfl⟩
 have hx':x=a'.getD k.toNat 0:=by rw[hx,r14];rfl
 have hxb:=hl'.getD k.toNat
 have hset:∀ z:Int,up tW N a' k z=a'.set k.toNat z:=fun z=>by rw[r15];exact set_up hn' _ _
 have hkN:c≠0→k<N:=fun h=>by
  have h1:c=1:=by omega
  subst h1
  have:4294967296 ^ k.toNat<4294967296 ^ N:=by
   have:(1:Int).toNat=1:=rfl
   rw[this,Nat.mul_one]at hI3
   omega
  have:=pow_lt_iff.1 this
  omega
 have hadd:k<N→ar .add .i64 k 1=k+1:=fun h=>by rw[r1];exact wrap64 (n:=k+1) (by omega) (by omega)
 have hend:¬ c≠0→a'=L:=fun h=>by
  have h1:c=0:=Classical.not_not.1 h
  subst h1
  have:(0:Int).toNat=0:=rfl
  rw[this,Nat.mul_zero,Nat.add_zero]at hI3
  rw[hL,←hI3,←hn',pad_of hl']
 cbv
 try simp only[nc_eq]at *
 rw[hicN,←hx]
 refine BR.neq r0 (fun hc=>?_) (fun hc=>?_)
 ·have hk:=hkN hc
  have hkb:INB k N:=⟨hI1,hk⟩
  obtain ⟨q1,q2,q3,q4⟩:=addStep hl' (j:=k.toNat) (by omega) (x:=0) (c:=c) (by omega) (by omega) hc0 hc1
  rw[←hx',hg0,hg1]at *
  rw[hadd hk,hset]
  refine ⟨hkb,hkb,⟨by omega,by omega,by omega,by omega,hc0,hc1⟩,hkb,hkb,NEXT.mk (hY (k+1,_,_) _ _ ⟨by omega,by omega,q2,q3,q1,by rw[List.length_set];exact hn',?_⟩ (by show ((N:Int) - (k+1)).toNat<((N:Int) - k).toNat;omega) (.inl ⟨rfl,rfl⟩))⟩
  rw[show (k+1).toNat=k.toNat+1 by omega]
  dsimp only
  rw[q4,show (0:Int).toNat=0 from rfl,Nat.zero_add];exact hI3
 ·refine RET.mk ⟨[some 0],[],?_⟩
  rw[SIM_iff];cbv;simp[nlLe_self,hend hc]
end Go.Ab
