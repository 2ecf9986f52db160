/- Limbs: leading zeros,comparison of numbers,checks. -/
import Derived.Test.YtlmdgmppeacobaaGreatLa
set_option linter.unusedSimpArgs false
set_option linter.unusedVariables false
set_option maxRecDepth 20000
set_option maxHeartbeats 4000000
namespace Go.Ab
open Go.Proofs
structure TRP (l:List Int):Prop where
 lb:LB l
 ln:l.length≤100000
def trm (l:List Int):List Int:=lm (vl l)
def ordL (a b:List Int):Int:=cmpN (vl a) (vl b)
structure CN2 (a b:List Int):Prop where
 ca:CN a
 cb:CN b
 la:a.length≤100000
 lb:b.length≤100000
theorem cOrder (na:Option Bool) (a:List Int) (nb:Option Bool) (b:List Int) (h:CN2 a b):PurS Tryz.prog 112 [injT tN (na,a),injT tN (nb,b)] (.p (iv (ordL a b))):=by
 refine PurS.of (S:=[(133,_),(134,_)]) (T:=[]) (U:=[]) (tbl:=[(131,ac131 none,[.tmp 2],4),(144,ac144 none,[],19)]) (n:=30) hm31 cfg (.cons (spT2.ok (a:=(.int .i64)) (b:=(.int .i64)) (pre:=fun _ _=>True) fun x0 x1 _=>cCmpI x0 x1) (.cons (spT2.ok (a:=(.int .u32)) (b:=(.int .u32)) (pre:=fun _ _=>True) fun x0 x1 _=>cCmpW x0 x1) .nil)) .nil .nil (.cons Tryz.call131 Tryz.func131 (ac131_ok none) (by rw[Tryz.ntmps131];exact Nat.le_refl _) (.cons Tryz.call144 Tryz.func144 (ac144_ok none) (by rw[Tryz.ntmps144];exact Nat.le_refl _) .nil)) 6 Tryz.call112 Tryz.func112 (ac112_ok (some (0,0)) (some (3,0))) (by rw[Tryz.ntmps112];exact Nat.le_refl _) rfl ⟨_,rfl⟩ ?_
 intro cmp ar cv tn ic ai mx an ad ml sb mn ln em gt up ap sc vw cp rp p1 p2 s1 s2 X Y hX hY r0 r1 r2 r3 r4 r5 r6 r7 r8 r9 r10 r11 r12 r13 r14 r15 r16 r17 r18 r19 r20 r21 r22 r23 r24
 generalize hg0:ordL=g0
 generalize hg1:cmpI=g1
 cbv
 obtain ⟨ca,cb,hla,hlb⟩:=h
 obtain ⟨A,hA⟩:∃ A:Int,A=a.length:=⟨_,rfl⟩
 obtain ⟨B,hB⟩:∃ B:Int,B=b.length:=⟨_,rfl⟩
 have e1:ic (ln tW a)=A:=by rw[r4,r12,hA]
 have e2:ic (ln tW b)=B:=by rw[r4,r12,hB]
 rw[e1,e2]
 refine BR.neq r0 (fun h0=>?_) (fun h0=>?_)
 ·rw[←hg0,←hg1]at *
  unfold cmpI ordL at *
  split
  ·rw[cmpN_lt (ca.len_lt cb (by omega))]
  ·split
   ·rw[cmpN_gt (cb.len_lt ca (by omega))]
   ·rename_i h1 h2;rw[if_neg h1,if_neg h2]at h0;exact absurd rfl h0
 have hAB:A=B:=by
  rw[←hg1]at h0
  unfold cmpI at h0
  split at h0
  ·exact absurd (by decide) h0
  ·split at h0
   ·exact absurd (by decide) h0
   ·omega
 refine ALLY.mk fun y=>?_
 cbv
 try simp only[nc_eq]at *
 rw[e1]
 have hs1:ar .sub .i64 A 1=A - 1:=by rw[r1];exact wrap64 (n:=A - 1) (by omega) (by omega)
 rw[hs1]
 refine LOOP.ind (σ:=Int) (fun i=>[(0,.fn (.yield y) [] []),(1,.ptr 2 0),(3,.p (iv i))]) (fun _=>⟨[{ cells:=[.tl nb tW b],e:=47,fz:=false },{ cells:=[.p (iv 0)],e:=3,fz:=false },{ cells:=[.tl na tW a],e:=47,fz:=false }],[]⟩)
  (fun i=>(i+1).toNat) (fun i=>-1≤i∧i<A∧a.drop (i+1).toNat=b.drop (i+1).toNat) (A - 1) ⟨by omega,by omega,by rw[List.drop_eq_nil_of_le (by omega),List.drop_eq_nil_of_le (by omega)]⟩ (.inl ⟨rfl,rfl⟩) ?_
 intro i hI X' hX
 obtain ⟨hI1,hI2,hI3⟩:=hI
 obtain ⟨u,hu⟩:∃ u:Int,u=gt tW a i:=⟨_,rfl⟩
 obtain ⟨v,hv⟩:∃ v:Int,v=gt tW b i:=⟨_,rfl⟩
 have hu':u=a.getD i.toNat 0:=by rw[hu,r14];rfl
 have hv':v=b.getD i.toNat 0:=by rw[hv,r14];rfl
 have hsub:0≤i→ar .sub .i64 i 1=i - 1:=fun h=>by rw[r1];exact wrap64 (n:=i - 1) (by omega) (by omega)
 have hlt:0≤i→u<v→ordL a b = -1:=fun h0 h=>cmpN_lt (ord_lt ca.lb cb.lb (i:=i.toNat) (by omega) (by omega) (by rw[show i.toNat+1=(i+1).toNat by omega];exact hI3) (by rw[←hu',←hv'];exact h))
 have hgt:0≤i→v<u→ordL a b=1:=fun h0 h=>cmpN_gt (ord_lt cb.lb ca.lb (i:=i.toNat) (by omega) (by omega) (by rw[show i.toNat+1=(i+1).toNat by omega];exact hI3.symm) (by rw[←hu',←hv'];exact h))
 have hne:0≤i→g1 u v≠0→g1 u v=g0 a b:=fun h0 h=>by
  rw[←hg0,←hg1]at *
  unfold cmpI at *
  split
  ·rename_i h1;exact (hlt h0 h1).symm
  ·split
   ·rename_i h1;exact (hgt h0 h1).symm
   ·rename_i h1 h2;rw[if_neg h1,if_neg h2]at h;exact absurd rfl h
 have heq:g1 u v=0→u=v:=fun h=>by
  rw[←hg1]at h
  unfold cmpI at h
  split at h
  ·cases h
  ·split at h
   ·cases h
   ·omega
 have hend:¬ 0≤i→0=g0 a b:=fun h=>by
  have hi:i = -1:=by omega
  subst hi
  have e:a=b:=hI3
  rw[←hg0];unfold ordL;rw[e,cmpN_eq]
 cbv
 try simp only[nc_eq]at *
 rw[e1,e2,←hu,←hv]
 refine BR.geq r0 (fun h0=>?_) (fun h0=>hend h0)
 have hi1:INB i A:=⟨h0,hI2⟩
 have hi2:INB i B:=⟨h0,hAB ▸ hI2⟩
 rw[hsub h0]
 refine ⟨hi1,hi1,hi2,hi2,BR.neq r0 (fun h=>hne h0 h) (fun h=>NEXT.mk (hX (i - 1) _ _ ⟨by omega,by omega,?_⟩ (by show (i - 1+1).toNat<(i+1).toNat;omega) (.inl ⟨rfl,rfl⟩)))⟩
 have h1:=heq (Classical.not_not.1 h)
 rw[show (i - 1+1).toNat=i.toNat by omega]
 exact drop_step (i:=i.toNat) (by omega) (by omega) (by rw[show i.toNat+1=(i+1).toNat by omega];exact hI3) (by rw[←hu',←hv',h1])
def endB (l:List Int):Bool:=decide (l.length>0∧l.getD (l.length - 1) 0=0)
def bchk (l:List Int):Int:=if l.length>512 then 4 else if endB l then 2 else 0
structure Sh (l:List Int):Prop where
 h:l.length≤140737488355328
theorem cBChk (nl:Option Bool) (l:List Int) (h:Sh l):PurS Tryz.prog 84 [injT tN (nl,l)] (.p (iv (bchk l))):=by
 refine PurS.of (S:=[]) (T:=[]) (U:=[]) (tbl:=[]) (n:=20) hm31 cfg .nil .nil .nil .nil 0 Tryz.call84 Tryz.func84 (ac84_ok (some (0,0))) (by rw[Tryz.ntmps84];exact Nat.le_refl _) rfl ⟨_,rfl⟩ ?_
 intro cmp ar cv tn ic ai mx an ad ml sb mn ln em gt up ap sc vw cp rp p1 p2 s1 s2 X Y hX hY r0 r1 r2 r3 r4 r5 r6 r7 r8 r9 r10 r11 r12 r13 r14 r15 r16 r17 r18 r19 r20 r21 r22 r23 r24
 generalize hg0:bchk=g0
 cbv
 have h:=h.h
 obtain ⟨A,hA⟩:∃ A:Int,A=l.length:=⟨_,rfl⟩
 have hla:ic (ln tW l)=A:=by rw[r4,r12,hA]
 have hsub:0<A→ar .sub .i64 A 1=A - 1:=fun h=>by rw[r1];exact wrap64 (n:=A - 1) (by omega) (by omega)
 have hgt:0<A→gt tW l (A - 1)=l.getD (l.length - 1) 0:=fun h=>by
  rw[r14];show l.getD (A - 1).toNat 0=_
  rw[show (A - 1).toNat=l.length - 1 by omega]
 rw[hla]
 refine BR.gtr r0 (fun h1=>?_) (fun h1=>BR.gtr r0 (fun h2=>?_) fun h2=>?_)
 ·rw[←hg0];unfold bchk;rw[if_pos (by omega)]
 ·rw[hsub h2,hgt h2]
  refine ⟨⟨by omega,by omega⟩,⟨by omega,by omega⟩,BR.eql r0 (fun h3=>?_) (fun h3=>?_)⟩
  ·rw[←hg0];unfold bchk endB;rw[if_neg (by omega),if_pos (decide_eq_true ⟨by omega,h3⟩)]
  ·rw[←hg0];unfold bchk endB;rw[if_neg (by omega),if_neg (by rw[decide_eq_true_eq];exact fun h=>h3 h.2)]
 ·rw[←hg0];unfold bchk endB;rw[if_neg (by omega),if_neg (by rw[decide_eq_true_eq];exact fun h=>h2 (by omega))]
def orL:List Int→Int
 | []=>0
 | x :: l=>if x≠0 then x else orL l
theorem cOr (nl:Option Bool) (l:List Int) (h:Short 100 l):PurS Tryz.prog 56 [injT (.sl tI) (nl,l)] (.p (iv (orL l))):=by
 refine PurS.of (S:=[]) (T:=[]) (U:=[]) (tbl:=[]) (n:=18) hm31 cfg .nil .nil .nil .nil 0 Tryz.call56 Tryz.func56 (ac56_ok (some (0,0))) (by rw[Tryz.ntmps56];exact Nat.le_refl _) rfl ⟨_,rfl⟩ ?_
 intro cmp ar cv tn ic ai mx an ad ml sb mn ln em gt up ap sc vw cp rp p1 p2 s1 s2 X Y hX hY r0 r1 r2 r3 r4 r5 r6 r7 r8 r9 r10 r11 r12 r13 r14 r15 r16 r17 r18 r19 r20 r21 r22 r23 r24
 generalize hg0:orL=g0
 cbv
 have hl:=h.h
 obtain ⟨A,hA⟩:∃ A:Int,A=l.length:=⟨_,rfl⟩
 have hla:ic (ln tI l)=A:=by rw[r4,r12,hA]
 rw[hla]
 refine LOOP.ind (σ:=Int) (fun i=>[(3,.p (iv 0)),(6,.tl nl tI l),(7,.p (iv A)),(8,.p (iv i))]) (fun _=>⟨[],[]⟩) (fun i=>(A - i).toNat) (fun i=>0≤i∧i≤A∧orL (l.drop i.toNat)=orL l) 0 ⟨by omega,by omega,rfl⟩ (.inl ⟨rfl,rfl⟩) ?_
 intro i hI X' hX
 obtain ⟨hI1,hI2,hI3⟩:=hI
 obtain ⟨x,hx⟩:∃ x:Int,x=gt tI l i:=⟨_,rfl⟩
 have hst:i<A→orL l=if x≠0 then x else orL (l.drop (i+1).toNat):=fun h=>by
  rw[←hI3,gtR_drop (t:=tI) (by omega) (by omega),hx,r14];rfl
 have hadd:i<A→ar .add .i64 i 1=i+1:=fun h=>by rw[r1];exact wrap64 (n:=i+1) (by omega) (by omega)
 have hend:¬ i<A→0=g0 l:=fun h=>by rw[←hg0,←hI3,gtR_end (by omega)];rfl
 cbv
 try simp only[nc_eq]at *
 rw[hla,←hx]
 refine BR.lss r0 (fun h0=>?_) hend
 refine ⟨⟨hI1,h0⟩,⟨hI1,h0⟩,BR.neq r0 (fun h=>?_) (fun h=>?_)⟩
 ·rw[←hg0,hst h0,if_pos h]
 ·rw[hadd h0]
  exact NEXT.mk (hX (i+1) _ _ ⟨by omega,by omega,by rw[hst h0,if_neg h]⟩ (by show (A - (i+1)).toNat<(A - i).toNat;omega) (.inl ⟨rfl,rfl⟩))
def or2 (x y:Int):Int:=if x≠0 then x else y
theorem orL2 (x y:Int):orL [x,y]=or2 x y:=by
 unfold orL or2
 split
 ·rfl
 ·unfold orL orL
  split
  ·rfl
  ·omega
structure Sh2 (a b:List Int):Prop where
 a:Sh a
 b:Sh b
def bchk2 (a b:List Int):Int:=or2 (bchk a) (bchk b)
theorem cBChk2 (na:Option Bool) (a:List Int) (nb:Option Bool) (b:List Int) (h:Sh2 a b):PurS Tryz.prog 109 [injT tN (na,a),injT tN (nb,b)] (.p (iv (bchk2 a b))):=by
 refine PurS.of (S:=[(84,_),(56,_)]) (T:=[]) (U:=[]) (tbl:=[]) (n:=11) hm31 cfg (.cons (spT1.ok (a:=(.sl (.int .u32))) fun x0 h=>cBChk x0.1 x0.2 h) (.cons (spT1.ok (a:=(.sl (.int .i64))) fun x0 h=>cOr x0.1 x0.2 h) .nil)) .nil .nil .nil 0 Tryz.call109 Tryz.func109 (ac109_ok (some (0,0))) (by rw[Tryz.ntmps109];exact Nat.le_refl _) rfl ⟨_,rfl⟩ ?_
 intro cmp ar cv tn ic ai mx an ad ml sb mn ln em gt up ap sc vw cp rp p1 p2 s1 s2 X Y hX hY r0 r1 r2 r3 r4 r5 r6 r7 r8 r9 r10 r11 r12 r13 r14 r15 r16 r17 r18 r19 r20 r21 r22 r23 r24
 generalize hg0:bchk=g0
 generalize hg1:bchk2=g1
 generalize hg2:orL=g2
 cbv
 refine ⟨h.a,h.b,⟨Nat.le_of_ble_eq_true rfl⟩,?_⟩
 rw[←hg0,←hg1,←hg2];exact orL2 _ _
end Go.Ab
