/- The table of MergeExamples: plain laws. -/
import Derived.Test.YtlmdgmppeacobaaGreatLW
set_option linter.unusedSimpArgs false
set_option linter.unusedVariables false
set_option maxRecDepth 20000
set_option maxHeartbeats 4000000
namespace Go.Ab
open Go.Proofs
theorem chk_err {l:List RS} {A:List Bool} {k:Int} (h:mchk l=k) (hk:k≠0):sumE l=k∧worE l=k∧bstE l A=k:=by
 unfold sumE worE bstE
 rw[h,if_pos hk,if_pos hk,if_pos hk];exact ⟨rfl,rfl,rfl⟩
theorem SZ.em {r:List RT} (h:∀ x∈r,(x.2.1.2=[]∧x.2.2.2=[])∨VT x):SZ 2000 r:=⟨fun x hx=>by
 rcases h x hx with ⟨h1,h2⟩ | h1
 ·rw[h1,h2];exact ⟨.nil,.nil,by decide,by decide⟩
 ·have:=(VT.sz (l:=[x]) (fun y hy=>by simp at hy;subst hy;exact h1)).h x (by simp)
  exact this⟩
theorem MC.em {l:List RS} (h1:l.length≤2000) (h2:∀ r∈l,r.2.length≤2000) (h:∀ r∈l,∀ x∈r.2,(x.2.1.2=[]∧x.2.2.2=[])∨VT x):MC l:=⟨⟨h1⟩,⟨fun r hr=>⟨h2 r hr,SZ.em (h r hr)⟩⟩⟩
abbrev zrT:RT:=(false,(some true,[]),(some true,[]))
abbrev bdT:RT:=(true,(some true,[]),(some true,[]))
abbrev badL:List RT:=[bdT,zrT]
theorem rwp1 {a:Int} (ha:I64 a):RWP [a]:=⟨show 1≤2000 by decide,fun x hx=>by simp at hx;subst hx;exact ha⟩
theorem rwp2 {a b:Int} (ha:I64 a) (hb:I64 b):RWP [a,b]:=⟨show 2≤2000 by decide,fun x hx=>by
 simp only[List.mem_cons,List.not_mem_nil,or_false]at hx
 rcases hx with rfl | rfl <;> assumption⟩
theorem fe_app:∀ {a b:List RT},fe a=0→fe (a ++ b)=fe b
 | [],_,_=>rfl
 | x :: a,b,h=>by
  unfold fe at h
  by_cases h1:rck x≠0
  ·rw[if_pos h1]at h;exact absurd h h1
  ·rw[if_neg h1]at h
   show (if rck x≠0 then rck x else fe (a ++ b))=_
   rw[if_neg h1];exact fe_app h
theorem bd_chk:rck bdT=2:=by
 unfold rck rchk
 rw[if_neg (by decide),if_pos (.inr (.inr (.inr ⟨rfl,.inl rfl⟩)))]
theorem fe_bad:fe badL=2:=by
 show (if rck bdT≠0 then rck bdT else _)=(2:Int)
 rw[bd_chk];rfl
abbrev r1L:List RT:=rowL [1]
abbrev r2L:List RT:=rowL [1,2]
theorem r1_VT:∀ x∈r1L,VT x:=rowL_VT (rwp1 s64)
theorem r2_VT:∀ x∈r2L,VT x:=rowL_VT (rwp2 s64 s64)
theorem bad_em:∀ x∈badL,(x.2.1.2=[]∧x.2.2.2=[])∨VT x:=fun x hx=>by
 simp only[List.mem_cons,List.not_mem_nil,or_false]at hx
 rcases hx with rfl | rfl <;> exact .inl ⟨rfl,rfl⟩
theorem tb1:MC []∧mchk []=3:=⟨.em (by decide) (fun r hr=>by cases hr) (fun r hr=>by cases hr),rfl⟩
theorem tb23 (n:Nat) (h:n≤9):MC (List.replicate n (some true,[])):=.em (by simp;omega) (fun r hr=>by rw[List.eq_of_mem_replicate hr];exact Nat.zero_le _) (fun r hr x hx=>by rw[List.eq_of_mem_replicate hr]at hx;cases hx)
theorem tb2:mchk (List.replicate 9 (some true,[]))=4:=rfl
theorem tb3:mchk (List.replicate 8 (some true,[]))=3:=rfl
theorem tb4:MC [(some false,List.replicate 7 zrT)]∧mchk [(some false,List.replicate 7 zrT)]=4:=
 ⟨.em (show 1≤2000 by decide) (fun r hr=>by simp only[List.mem_singleton]at hr;subst hr;exact (show 7≤2000 by decide)) (fun r hr x hx=>by simp only[List.mem_singleton]at hr;subst hr;rw[List.eq_of_mem_replicate hx];exact .inl ⟨rfl,rfl⟩),rfl⟩
theorem mem2 {a b r:RS} (hr:r∈[a,b]):r=a∨r=b:=by simpa using hr
theorem tb5:MC [(some false,badL),(none,r1L)]∧mchk [(some false,badL),(none,r1L)]=16:=
 ⟨.em (show 2≤2000 by decide) (fun r hr=>by rcases mem2 hr with rfl | rfl;exact (show 2≤2000 by decide);exact (show 1≤2000 by decide)) (fun r hr x hx=>by rcases mem2 hr with rfl | rfl;exact bad_em x hx;exact .inr (r1_VT x hx)),rfl⟩
theorem tb6:MC [(none,r2L),(some false,badL)]∧mchk [(none,r2L),(some false,badL)]=2:=by
 refine ⟨.em (show 2≤2000 by decide) (fun r hr=>by rcases mem2 hr with rfl | rfl;exact (show 2≤2000 by decide);exact (show 2≤2000 by decide)) (fun r hr x hx=>by rcases mem2 hr with rfl | rfl;exact .inr (r2_VT x hx);exact bad_em x hx),?_⟩
 have e:mchk [(none,r2L),(some false,badL)]=fe (r2L ++ badL):=rfl
 rw[e,fe_app (fe_VT r2_VT),fe_bad]
theorem tb7:MC [(none,r2L)]∧mchk [(none,r2L)]=0:=by
 refine ⟨.em (show 1≤2000 by decide) (fun r hr=>by simp only[List.mem_singleton]at hr;subst hr;exact (show 2≤2000 by decide)) (fun r hr x hx=>by simp only[List.mem_singleton]at hr;subst hr;exact .inr (r2_VT x hx)),?_⟩
 have e:mchk [(none,r2L)]=fe (r2L ++ []):=rfl
 rw[e,List.append_nil,fe_VT r2_VT]
theorem tb8:MC [(some false,badL)]∧mchk [(some false,badL)]=2:=by
 refine ⟨.em (show 1≤2000 by decide) (fun r hr=>by simp only[List.mem_singleton]at hr;subst hr;exact (show 2≤2000 by decide)) (fun r hr x hx=>by simp only[List.mem_singleton]at hr;subst hr;exact bad_em x hx),?_⟩
 have e:mchk [(some false,badL)]=fe (badL ++ []):=rfl
 rw[e,List.append_nil,fe_bad]
theorem tb7s:sumE [(none,r2L)]=0∧worE [(none,r2L)]=0∧bstE [(none,r2L)] [true,true]=0∧bstE [(none,r2L)] [true]=16∧bstE [(none,r2L)] [false,false]=9:=by
 have h1:=(one_sum (n:=none) (c:=r2L) tb7.1).1
 have h2:=tb7.1.wor.1
 rw[tb7.2]at h2
 have h7:mchk (oneL none r2L)=0:=tb7.2
 rw[h7]at h1
 have e:∀ A,bstE [(none,r2L)] A=if A.length≠2 then 16 else if bst (valP [(none,r2L)]) A 0 (-1)<0 then 9 else 0:=fun A=>by
  unfold bstE
  rw[if_neg (fun h=>h tb7.2)];rfl
 refine ⟨h1,h2,?_,?_,?_⟩
 ·rw[e,if_neg (by decide)]
  have:¬ bst (valP [(none,r2L)]) [true,true] 0 (-1)<0:=by
   simp only[bst]
   have hd:((-1:Int)<0∨cmpV (valP [(none,r2L)] 0) (valP [(none,r2L)] (-1))<0):=.inl (by decide)
   rw[if_pos (show True∧_ from ⟨trivial,hd⟩)]
   split <;> decide
  rw[if_neg this]
 ·rw[e];rfl
 ·rw[e,if_neg (by decide)];rfl
def tbl:List (List RS×Int):=[([],3),(List.replicate 9 (some true,[]),4),(List.replicate 8 (some true,[]),3),([(some false,List.replicate 7 zrT)],4),([(some false,badL),(none,r1L)],16),([(none,r2L),(some false,badL)],2),([(none,r2L)],0)]
theorem tbl_ok:∀ x∈tbl,MC x.1∧sumE x.1=x.2∧worE x.1=x.2∧bstE x.1 [true,true]=x.2:=fun x hx=>by
 simp only[tbl,List.mem_cons,List.not_mem_nil,or_false]at hx
 rcases hx with rfl | rfl | rfl | rfl | rfl | rfl | rfl
 ·exact ⟨tb1.1,chk_err tb1.2 (by decide)⟩
 ·exact ⟨tb23 9 (by decide),chk_err tb2 (by decide)⟩
 ·exact ⟨tb23 8 (by decide),chk_err tb3 (by decide)⟩
 ·exact ⟨tb4.1,chk_err tb4.2 (by decide)⟩
 ·exact ⟨tb5.1,chk_err tb5.2 (by decide)⟩
 ·exact ⟨tb6.1,chk_err tb6.2 (by decide)⟩
 ·exact ⟨tb7.1,tb7s.1,tb7s.2.1,tb7s.2.2.1⟩
abbrev oneA:List AT:=[(0,5,6)]
theorem exb:bndE [] []=3∧bndE oneA []=3∧bndE oneA [0,0,0,0,0,0,0,0,9]=4∧bndE oneA [0,1]=8∧bndE oneA [-1]=8∧bndE oneA [0,0,0,0,0,0,0,0]=0∧bndLo oneA [0,0,0,0,0,0,0,0] = -100∧bndHi oneA [0,0,0,0,0,0,0,0]=100∧bndE oneA [0]=0∧joinN oneA [0]=0:=by decide +kernel
end Go.Ab
namespace Go.Ab
open Go.Proofs
theorem cExam  : PurS Tryz.prog 5 [] (.sb true):=by
 refine PurS.of (S:=[(11,_),(29,_),(17,_),(18,_),(19,_),(24,_),(26,_)]) (T:=[]) (U:=[]) (tbl:=[]) (n:=232) hm31 cfg (.cons (spT0.ok cAwake) (.cons (spT1.ok (a:=(.sl (.int .i64))) fun x0 h=>cRow x0.1 x0.2 h) (.cons (spT1.ok (a:=(.sl (.sl (.pair .bool (.pair (.sl (.int .u32)) (.sl (.int .u32))))))) fun x0 h=>cMSum x0.1 x0.2 h) (.cons (spT1.ok (a:=(.sl (.sl (.pair .bool (.pair (.sl (.int .u32)) (.sl (.int .u32))))))) fun x0 h=>cMWorst x0.1 x0.2 h) (.cons (spT2.ok (a:=(.sl (.sl (.pair .bool (.pair (.sl (.int .u32)) (.sl (.int .u32))))))) (b:=(.sl .bool)) fun x0 x1 h=>cMBest x0.1 x0.2 x1.1 x1.2 h) (.cons (spT2.ok (a:=(.sl (.pair (.int .u8) (.pair (.int .i64) (.int .i64))))) (b:=(.sl (.int .i64))) (pre:=fun _ _=>True) fun x0 x1 _=>cBound x0.1 x0.2 x1.1 x1.2) (.cons (spT2.ok (a:=(.sl (.pair (.int .u8) (.pair (.int .i64) (.int .i64))))) (b:=(.sl (.int .i64))) (pre:=fun _ _=>True) fun x0 x1 _=>cJoin x0.1 x0.2 x1.1 x1.2) .nil))))))) .nil .nil .nil 0 Tryz.call5 Tryz.func5 (ac5_ok (some (0,0))) (by rw[Tryz.ntmps5];exact Nat.le_refl _) rfl ⟨_,rfl⟩ ?_
 intro cmp ar cv tn ic ai mx an ad ml sb mn ln em gt up ap sc vw cp rp p1 p2 s1 s2 X Y hX hY r0 r1 r2 r3 r4 r5 r6 r7 r8 r9 r10 r11 r12 r13 r14 r15 r16 r17 r18 r19 r20 r21 r22 r23 r24
 generalize hg0:rowL=g0
 generalize hg1:sumL=g1
 generalize hg2:sumE=g2
 generalize hg3:worL=g3
 generalize hg4:worE=g4
 generalize hg5:bstN=g5
 generalize hg6:bstE=g6
 generalize hg7:bndLo=g7
 generalize hg8:bndHi=g8
 generalize hg9:bndE=g9
 generalize hg10:joinN=g10
 cbv
 refine BR.mk (fun _=>?_) (fun h=>by cases h)
 have w1:RWP [1]:=rwp1 s64
 have w2:RWP [1,2]:=rwp2 s64 s64
 have m9:MK 9 9 24:=⟨by decide,by decide,by decide,by decide⟩
 have m8:MK 8 8 24:=⟨by decide,by decide,by decide,by decide⟩
 have m7:MK 7 7 56:=⟨by decide,by decide,by decide,by decide⟩
 refine ⟨m9,m8,m7,w1,w2,w2,?_⟩
 dsimp only
 have e3:tn 9=9∧tn 8=8∧tn 7=7:=by rw[r3];exact ⟨rfl,rfl,rfl⟩
 rw[e3.1,e3.2.1,e3.2.2]
 obtain ⟨T,hT⟩:∃ T:List (Ty.pair (.sl tRs) tI).den,T=[((some true,[]),3),((some false,rp tRs 9 (some true,[])),4),((some false,rp tRs 8 (some true,[])),3),((some false,[(some false,rp tR 7 (false,(some true,[]),some true,[]))]),4),((some false,[(some false,[(true,(some true,[]),some true,[]),(false,(some true,[]),some true,[])]),(none,g0 [1])]),16),((some false,[(none,g0 [1,2]),(some false,[(true,(some true,[]),some true,[]),(false,(some true,[]),some true,[])])]),2),((some false,[(none,g0 [1,2])]),0)]:=⟨_,rfl⟩
 have hTl:ic (ln (.pair (.sl tRs) tI) T)=7:=by rw[r4,r12,hT];rfl
 have hTo:∀ x∈T,MC x.1.2∧g2 x.1.2=x.2∧g4 x.1.2=x.2∧g6 x.1.2 [true,true]=x.2:=fun x hx=>by
  rw[←hg2,←hg4,←hg6]
  have hm:(x.1.2,x.2)∈tbl:=by
   have:T.map (fun x=>(x.1.2,x.2))=tbl:=by rw[hT,r20,←hg0];rfl
   rw[←this];exact List.mem_map_of_mem hx
  exact tbl_ok _ hm
 rw[←hT,hTl]
 refine LOOP.ind (σ:=Int) (fun i=>[(1,.tl (some false) tR badL),(2,.tl (some false) .bool [true,true]),(67,.tl (some false) (.pair (.sl tRs) tI) T),(68,.p (iv 7)),(69,.p (iv i))]) (fun _=>⟨[],[]⟩) (fun i=>(7 - i).toNat) (fun i=>0≤i∧i≤7) 0 ⟨by omega,by omega⟩ (.inl ⟨rfl,rfl⟩) ?_
 intro i ⟨i0,i1⟩ X' hX
 obtain ⟨x,hx⟩:∃ x,x=gt (.pair (.sl tRs) tI) T i:=⟨_,rfl⟩
 have hTn:T.length=7:=by rw[hT];rfl
 have hxo:i<7→MC x.1.2∧g2 x.1.2=x.2∧g4 x.1.2=x.2∧g6 x.1.2 [true,true]=x.2:=fun h=>hTo x (by rw[hx,r14];exact gtR_mem (t:=.pair (.sl tRs) tI) i0 (by omega))
 have hi1:i<7→ar .add .i64 i 1=i+1:=fun h2=>by rw[r1];exact wrap64 (n:=i+1) (by omega) (by omega)
 have hnx:i<7→∀ B,NEXT X' [(1,.tl (some false) tR badL),(2,.tl (some false) .bool [true,true]),(67,.tl (some false) (.pair (.sl tRs) tI) T),(68,.p (iv 7)),(69,.p (iv (i+1)))] ⟨[B],[]⟩:=fun h B=>NEXT.mk (hX (i+1) _ _ ⟨by omega,by omega⟩ (by show (7 - (i+1)).toNat<(7 - i).toNat;omega) (.inr ⟨[],[],by rw[SIM_iff];cbv;simp[nlLe_self]⟩))
 clear hX hTo hT hTn e3
 obtain ⟨⟨xn,xl⟩,xe⟩:=x
 dsimp only at hxo
 have f1:p1 (.sl tRs) tI ((xn,xl),xe)=(xn,xl):=by rw[r21]
 have f2:p2 (.sl tRs) tI ((xn,xl),xe)=xe:=by rw[r22]
 have f3:s1 tRs (xn,xl)=xn:=by rw[r23]
 have f4:s2 tRs (xn,xl)=xl:=by rw[r24]
 cbv
 try simp only[nc_eq]at *
 rw[hTl,←hx]
 simp only[f1,f2,f3,f4]
 clear hTl hx f1 f2 f3 f4
 have z:∀ {x:Int} {A B:Prop},A→BR (cmp .eql x x) A B:=fun h=>BR.eql r0 (fun _=>h) (fun h=>absurd rfl h)
 refine BR.lss r0 (fun hlt=>?_) (fun _=>?_)
 ·obtain ⟨k1,k2,k3,k4⟩:=hxo hlt
  rw[k2,k3,k4,hi1 hlt]
  have y:∀ {x:Int} {A B:Prop},B→BR (cmp .neq x x) A B:=fun h=>BR.neq r0 (fun h=>absurd rfl h) (fun _=>h)
  exact ⟨⟨i0,hlt⟩,⟨i0,hlt⟩,k1,k1,k1,y (y (y (hnx hlt _)))⟩
 ·clear hxo hnx hi1 w1 m9 m7
  have q1:tn 8=8∧tn 2=2:=by rw[r3];exact ⟨rfl,rfl⟩
  have q2:ic (ln .bool [true,true])=2:=by rw[r4,r12];rfl
  have q3:sc .bool [true,true] 0 1=[true]:=by rw[r17];rfl
  have q4:rp .bool 2 false=[false,false]:=by rw[r20];rfl
  have q5:ad 8 (ln (.int .i64) [9])=9:=by rw[r8,r12];rfl
  have q6:rp tI 8 0=[0,0,0,0,0,0,0,0]:=by rw[r20];rfl
  have q7:vw tI 9 (ap tI (vw tI 8 [0,0,0,0,0,0,0,0] 0 8) [9]) 0 9=[0,0,0,0,0,0,0,0,9]:=by rw[r16,r18];rfl
  have q8:ad 0 9=9:=by rw[r8]
  have m8':MK 8 8 8:=⟨by decide,by decide,by decide,by decide⟩
  have k1:MC [(none,g0 [1,2])]:=by rw[←hg0];exact tb7.1
  have k2:g6 [(some false,badL)] [true]=2:=by rw[←hg6];exact (chk_err tb8.2 (by decide)).2.2
  have k3:g6 [(none,g0 [1,2])] [true]=16:=by rw[←hg6,←hg0];exact tb7s.2.2.2.1
  have k4:g6 [(none,g0 [1,2])] [false,false]=9:=by rw[←hg6,←hg0];exact tb7s.2.2.2.2
  obtain ⟨c1,c2,c3,c4,c5,c6,c7,c8,c9,ca⟩:=exb
  rw[hg9]at c1 c2 c3 c4 c5 c6 c9
  rw[hg7]at c7
  rw[hg8]at c8
  rw[hg10]at ca
  rw[q1.1,q1.2,q2,q3,q4,q5,q6,q7,q8,k2,k3,k4,c1,c2,c3,c4,c5,c6,c7,c8,c9,ca]
  exact ⟨⟨by decide,by decide,by decide⟩,tb8.1,⟨by decide,by decide,by decide⟩,w2,k1,w2,⟨by decide,by decide,by decide,by decide⟩,k1,m8',⟨by decide⟩,⟨by decide,by decide⟩,⟨⟨by decide⟩,trivial⟩,m8',z (z (z (z (z (z (z (z (z (z (z (z (z trivial))))))))))))⟩
theorem mex_typed:∀ xs,TyVs Tryz.prog [] xs→PurFn Tryz.prog 5 (xs.map .p) (.v (.bool true)):=fun xs hx=>by
 match xs,hx with
 | [],_=>
  exact cExam.true
end Go.Ab
