/- MergeTurned. -/
import Derived.Test.YtlmdgmppeacobaaGreatL1
set_option linter.unusedSimpArgs false
set_option linter.unusedVariables false
set_option maxRecDepth 20000
set_option maxHeartbeats 4000000
namespace Go.Ab
open Go.Proofs
abbrev tTn:Ty:=.pair (.sl tA) (.pair (.sl tB) tB)
theorem wfBt {n:Int} (h:wfT tB n):0≤n∧n<256:=by
 simp[wfT,Lit.wf,IntKind.min,IntKind.max,IntKind.bits,IntKind.signed]at h
 omega
theorem cTurn (nl:Option Bool) (l:List RS) (na:Option Bool) (A:List Bool) (nv:Option Bool) (V:List AT) (nc:Option Bool) (c:List Int) (y:Int) (h:ARGR l) (hcc:∀ x∈c,0≤x∧x<256) (hy:0≤y∧y<256):PurS Tryz.prog 6 [injT (.sl tRs) (nl,l),injT (.sl .bool) (na,A),injT tTn ((nv,V),(nc,c),y)] (.sb true):=by
 refine PurS.of (S:=[(11,_),(10,_),(17,_),(18,_),(19,_),(20,_),(30,_),(24,_),(26,_)]) (T:=[]) (U:=[]) (tbl:=[]) (n:=288) hm31 cfg (.cons (spT0.ok cAwake) (.cons (spT1.ok (a:=(.sl (.sl (.pair .bool (.pair (.sl (.int .u32)) (.sl (.int .u32))))))) fun x0 h=>cLong x0.1 x0.2 h) (.cons (spT1.ok (a:=(.sl (.sl (.pair .bool (.pair (.sl (.int .u32)) (.sl (.int .u32))))))) fun x0 h=>cMSum x0.1 x0.2 h) (.cons (spT1.ok (a:=(.sl (.sl (.pair .bool (.pair (.sl (.int .u32)) (.sl (.int .u32))))))) fun x0 h=>cMWorst x0.1 x0.2 h) (.cons (spT2.ok (a:=(.sl (.sl (.pair .bool (.pair (.sl (.int .u32)) (.sl (.int .u32))))))) (b:=(.sl .bool)) fun x0 x1 h=>cMBest x0.1 x0.2 x1.1 x1.2 h) (.cons (spT2.ok (a:=(.sl (.pair .bool (.pair (.sl (.int .u32)) (.sl (.int .u32)))))) (b:=(.sl (.pair .bool (.pair (.sl (.int .u32)) (.sl (.int .u32)))))) fun x0 x1 h=>cEqRs2 x0.1 x0.2 x1.1 x1.2 h) (.cons (spT1.ok (a:=(.sl (.pair (.int .u8) (.pair (.int .i64) (.int .i64))))) (pre:=fun _=>True) fun x0 _=>cAdv x0.1 x0.2) (.cons (spT2.ok (a:=(.sl (.pair (.int .u8) (.pair (.int .i64) (.int .i64))))) (b:=(.sl (.int .i64))) (pre:=fun _ _=>True) fun x0 x1 _=>cBound x0.1 x0.2 x1.1 x1.2) (.cons (spT2.ok (a:=(.sl (.pair (.int .u8) (.pair (.int .i64) (.int .i64))))) (b:=(.sl (.int .i64))) (pre:=fun _ _=>True) fun x0 x1 _=>cJoin x0.1 x0.2 x1.1 x1.2) .nil))))))))) .nil .nil .nil 0 Tryz.call6 Tryz.func6 (ac6_ok (some (0,0))) (by rw[Tryz.ntmps6];exact Nat.le_refl _) rfl ⟨_,rfl⟩ ?_
 intro cmp ar cv tn ic ai mx an ad ml sb mn ln em gt up ap sc vw cp rp p1 p2 s1 s2 X Y hX hY r0 r1 r2 r3 r4 r5 r6 r7 r8 r9 r10 r11 r12 r13 r14 r15 r16 r17 r18 r19 r20 r21 r22 r23 r24
 generalize hg0:longB=g0
 generalize hg1:sumL=g1
 generalize hg2:sumE=g2
 generalize hg3:worL=g3
 generalize hg4:worE=g4
 generalize hg5:bstN=g5
 generalize hg6:bstE=g6
 generalize hg7:eqRs=g7
 generalize hg8:advE=g8
 generalize hg9:bndLo=g9
 generalize hg10:bndHi=g10
 generalize hg11:bndE=g11
 generalize hg12:joinN=g12
 cbv
 have kT:BR true True (false=true):=BR.mk (fun _=>trivial) (fun h=>by cases h)
 dsimp only
 obtain ⟨L,hL⟩:∃ L:Int,L=l.length:=⟨_,rfl⟩
 have hll:ic (ln tRs l)=L:=by rw[r4,r12,hL]
 obtain ⟨N,hN⟩:∃ N:Int,N=A.length:=⟨_,rfl⟩
 have hla:ic (ln .bool A)=N:=by rw[r4,r12,hN]
 obtain ⟨M,hM⟩:∃ M:Int,M=V.length:=⟨_,rfl⟩
 have hlv:ic (ln tA V)=M:=by rw[r4,r12,hM]
 rw[hll,hla,hlv]
 refine ⟨h.g,BR.mk (fun _=>kT) (fun h1=>BR.eql r0 (fun _=>kT) (fun h2=>BR.gtr r0 (fun _=>kT) (fun h3=>BR.gtr r0 (fun _=>kT) (fun h4=>BR.gtr r0 (fun _=>kT) (fun h5=>BR.mk (fun _=>?_) (fun h=>by cases h))))))⟩
 have h1':longB l=false:=by rw[hg0];exact h1
 obtain ⟨hMC,_⟩:=h.mc h1'
 obtain ⟨_,_,hsh⟩:=not_long h1'
 obtain ⟨k,hk,k1⟩:∃ k:Nat,ar .rem .i64 (cv .i64 y) L=k∧k<l.length:=by
  refine ⟨(y % L).toNat,?_,?_⟩
  ·rw[r2,r1]
   show ((IntKind.i64.wrap y).tmod _)=_
   rw[wrap64 (n:=y) (by omega) (by omega),Int.tmod_eq_emod_of_nonneg hy.1]
   have:=Int.emod_nonneg y (b:=L) (by omega)
   omega
  ·have:=Int.emod_lt_of_pos y (b:=L) (by omega)
   have:=Int.emod_nonneg y (b:=L) (by omega)
   omega
 rw[hk]
 obtain ⟨D,hD⟩:∃ D,D=l.drop k:=⟨_,rfl⟩
 obtain ⟨T,hT⟩:∃ T,T=l.take k:=⟨_,rfl⟩
 have hDl:D.length=l.length - k:=by rw[hD,List.length_drop]
 have hTl:T.length=k:=by rw[hT,List.length_take];omega
 have e1:sc tRs l k L=D:=by rw[r17,hD,hL];unfold scR;rw[Int.toNat_natCast,Int.toNat_natCast,List.take_length]
 have e2:sc tRs l 0 k=T:=by rw[r17,hT];unfold scR;rw[Int.toNat_natCast];rfl
 have e3:ad (ln tRs D) (ln tRs T)=l.length:=by rw[r8,r12];show D.length+T.length=_;omega
 have e4:ln tRs D=D.length:=by rw[r12]
 have e5:vw tRs D.length D 0 D.length=D:=by rw[r18];exact vw_all (t:=tRs) rfl
 have e6:ap tRs D T=D ++ T:=by rw[r16]
 have e7:vw tRs l.length (D ++ T) 0 l.length=D ++ T:=by rw[r18];exact vw_all (t:=tRs) (by rw[List.length_append];omega)
 have e8:ln tRs l=l.length:=by rw[r12]
 obtain ⟨x,hx⟩:∃ x,x=gt tRs l k:=⟨_,rfl⟩
 have hxm:x∈l:=by rw[hx,r14];exact gtR_mem (t:=tRs) (by omega) (by omega)
 have e9:(s1 tR x,s2 tR x)=x:=by rw[r23,r24]
 have ea:ad l.length (ln tRs [x])=l.length+1:=by rw[r8,r12];rfl
 have eb:vw tRs l.length l 0 l.length=l:=by rw[r18];exact vw_all (t:=tRs) rfl
 have ec:ap tRs l [x]=l ++ [x]:=by rw[r16]
 have ed:vw tRs (l.length+1) (l ++ [x]) 0 (l.length+1)=l ++ [x]:=by rw[r18];exact vw_all (t:=tRs) (by simp)
 have ee:em tRs D=false:=by
  rw[r13]
  show D.isEmpty=false
  cases hc:D with
  | nil=>rw[hc]at hDl;simp at hDl;omega
  | cons=>rfl
 have ef:em tRs l=false:=by
  rw[r13]
  show l.isEmpty=false
  cases hc:l with
  | nil=>rw[hc]at k1;simp at k1
  | cons=>rfl
 rw[e1,e2,e3,e4,e5,e6,e7,e8,←hx,e9,ea,eb,ec,ed,ee,ef]
 have hp:(D ++ T).Perm l:=by rw[hD,hT];exact turn_perm l k
 have hl7:l.length≤7:=by omega
 have hl0:0<l.length:=by omega
 have hmem:∀ r,r∈D ++ T↔r∈l:=fun r=>hp.mem_iff
 have hmem2:∀ r,r∈l ++ [x]↔r∈l:=fun r=>twice_mem hxm r
 have hM1:MC (D ++ T):=hMC.sub (fun r hr=>(hmem r).1 hr) (by rw[hp.length_eq];omega)
 have hM2:MC (l ++ [x]):=hMC.sub (fun r hr=>(hmem2 r).1 hr) (by simp;omega)
 have us:=sum_turn hMC hp hsh hl0 (by omega)
 have uw:=wor_turn hMC hmem hl0 (by omega) (by rw[hp.length_eq];omega) (by rw[hp.length_eq];omega)
 have uv:=wor_turn hMC hmem2 hl0 (by omega) (by simp) (by simp;omega)
 have ub:=best_turn hMC hp hl0 (by omega) A
 rw[hg1,hg2]at us
 rw[hg3,hg4]at uw uv
 rw[hg5,hg6]at ub
 have q1:EQP (g1 l):=by rw[←hg1];exact ⟨⟨sum_len hMC⟩,VT.sz (sum_VT hMC hsh)⟩
 have q3:EQP (g3 l):=by rw[←hg3];exact ⟨⟨wor_len hMC⟩,VT.sz (wor_VT hMC)⟩
 have t1:∀ l,g7 l l=true:=fun l=>by rw[←hg7];exact decide_eq_true rfl
 rw[us.2,uw.2,uv.2,ub.2,t1,t1]
 refine ⟨⟨by omega⟩,⟨by omega,by omega,by omega⟩,⟨by omega,by omega,by omega⟩,LIM_iff.2 ⟨by omega,by omega⟩,BR.mk (fun h=>by cases h) (fun _=>⟨⟨Nat.le_refl _⟩,LIM_iff.2 ⟨by omega,by omega⟩,⟨Nat.le_refl _⟩,⟨by omega,by omega⟩,⟨by omega,by omega⟩,LIM_iff.2 ⟨by omega,by omega⟩,BR.mk (fun h=>by cases h) (fun _=>⟨⟨Nat.le_refl _⟩,LIM_iff.2 ⟨by omega,by omega⟩,⟨Nat.le_refl _⟩,hMC,hM1,hMC,hM1,hM2,hMC,hM1,?_⟩)⟩)⟩
 refine BR.same r0 us.1 (BR.same r0 uw.1 (BR.same r0 uv.1 (BR.same r0 ub.1 ⟨q1,BR.mk (fun _=>⟨q3,BR.mk (fun _=>⟨q3,BR.mk (fun _=>BR.neq r0 (fun h=>absurd rfl h) (fun _=>BR.neq r0 (fun _=>trivial) (fun h6=>BR.eql r0 (fun _=>trivial) (fun h7=>?_)))) (fun h=>by cases h)⟩) (fun h=>by cases h)⟩) (fun h=>by cases h)⟩)))
 clear us uw uv ub q1 q3 t1 hM1 hM2 hmem hmem2 hp e1 e2 e3 e4 e5 e6 e7 e8 e9 ea eb ec ed ee ef hD hT hDl hTl hx hxm hsh hMC hk k1
 clear h1 h1' h2 h3 h4 hl0 hl7 hL hll hN hla h
 have h6:advE V=0:=by rw[hg8];exact Classical.not_not.1 h6
 have hV0:0<V.length:=by
  refine Nat.pos_of_ne_zero fun h=>?_
  unfold advE at h6;rw[if_pos h]at h6;exact absurd h6 (by decide)
 obtain ⟨C,hC⟩:∃ C:Int,C=c.length:=⟨_,rfl⟩
 have hlc:ic (ln tB c)=C:=by rw[r4,r12,hC]
 rw[hlc]at h7
 obtain ⟨I,hI⟩:∃ I,I=(c.take 7).map fun x=>x % (V.length:Int):=⟨_,rfl⟩
 obtain ⟨m,hm⟩:∃ m:Nat,m=min c.length 7:=⟨_,rfl⟩
 have hIl:I.length=m:=by rw[hI,hm];simp;omega
 have hm0:0<m:=by omega
 have hm7:m≤7:=by omega
 have hok:okI V.length I=true:=okI_iff.2 fun x hx=>by
  rw[hI]at hx
  obtain ⟨y,hy,rfl⟩:=List.mem_map.1 hx
  have:=hcc y (List.mem_of_mem_take hy)
  exact ⟨Int.emod_nonneg _ (by omega),Int.emod_lt_of_pos _ (by omega)⟩
 have hE:bndE V I=0:=by
  unfold bndE
  rw[if_neg (fun h=>h h6),if_neg (by omega),if_neg (by omega),if_pos hok]
 refine LOOP.ind (σ:=List Int×Int) (fun (O,i)=>[(5,.ptr 0 0),(24,.og 0 tI O),(25,.p (.sl (some true) 0 [])),(26,.p (iv i))]) (fun (O,_)=>⟨[{ cells:=[.tl nv tA V,.tl nc tB c,.p (.v (.int .u8 y))],e:=57,fz:=false }],[(ml (ln tI O) 1,3)]⟩) (fun (_,i)=>(8 - i).toNat)
  (fun (O,i)=>0≤i∧i≤m∧O=I.take i.toNat) ([],0) ⟨by omega,by show (0:Int)≤m;omega,rfl⟩ (.inr ⟨[some 0],[none],?_⟩) ?_
 ·rw[SIM_iff];cbv;simp[nlLe_self,lstEq]
 intro ⟨O,i⟩ ⟨i0,i1,i2⟩ X' hX
 obtain ⟨x,hx⟩:∃ x:Int,x=gt tB c i:=⟨_,rfl⟩
 have hOl:O.length=i:=by rw[i2,List.length_take,hIl];omega
 obtain ⟨z,hz⟩:∃ z:Int,z=ar .rem .i64 (cv .i64 x) M:=⟨_,rfl⟩
 have hyI:i<C→i<7→O ++ [z]=I.take (i+1).toNat:=fun h4 h5=>by
  have hi:i.toNat<c.length:=by omega
  have hxx:x=c[i.toNat]:=by rw[hx,r14];unfold gtR;rw[List.getD_eq_getElem?_getD,List.getElem?_eq_getElem hi];rfl
  have hxr:=hcc x (by rw[hxx];exact List.getElem_mem hi)
  have hyy:z=x % (V.length:Int):=by
   rw[hz,r2,r1,hM]
   show ((IntKind.i64.wrap x).tmod _)=_
   rw[wrap64 (n:=x) (by omega) (by omega)]
   exact Int.tmod_eq_emod_of_nonneg hxr.1
  have hIi:I[i.toNat]? = some z:=by
   rw[hI,hyy,hxx]
   simp only[List.getElem?_map,List.getElem?_take,if_pos (show i.toNat<7 by omega),List.getElem?_eq_getElem hi,Option.map_some]
  rw[show (i+1).toNat=i.toNat+1 by omega,List.take_add_one,hIi,i2];rfl
 have hend:¬ (i<C∧i<7)→O=I:=fun h4=>by
  rw[i2];exact List.take_of_length_le (by omega)
 have hi1:i<C→ar .add .i64 i 1=i+1:=fun h2=>by rw[r1];exact wrap64 (n:=i+1) (by omega) (by omega)
 have hap:ap tI O [z]=O ++ [z]:=by rw[r16]
 have had:ad (ln tI O) (ln tI [z])=O.length+1:=by rw[r8,r12];rfl
 have hnx:i<C→i<7→∀ O',O'=O ++ [z]→NEXT X' [(5,.ptr 0 0),(24,.og 0 tI O'),(25,.p (.sl (some true) 0 [])),(26,.p (iv (i+1)))] ⟨[{ cells:=[.tl nv tA V,.tl nc tB c,.p (.v (.int .u8 y))],e:=57,fz:=false }],[(ml (ln tI O') 1,3)]⟩:=fun h4 h5 O' hO=>NEXT.mk (hX (O',i+1) _ _ ⟨by omega,by show i+1≤(m:Int);omega,by rw[hO];exact hyI h4 h5⟩ (by show (8 - (i+1)).toNat<(8 - i).toNat;omega) (.inl ⟨rfl,rfl⟩))
 clear hX i2 hyI hcc
 cbv
 try simp only[nc_eq]at *
 rw[hlc,←hx,hlv,←hz,had,hap]
 by_cases hgo:i<C∧i<7
 ·obtain ⟨h4,h5⟩:=hgo
  refine BR.lss r0 (fun _=>BR.lss r0 (fun _=>?_) (fun h=>absurd h5 h)) (fun h=>absurd h4 h)
  have hII:INB i C:=⟨i0,h4⟩
  rw[hi1 h4]
  exact ⟨hII,hII,⟨by omega⟩,⟨rfl⟩,LIM_iff.2 ⟨by omega,by omega⟩,hnx h4 h5 _ rfl⟩
 refine BR.two r0 hgo ?_
 have hOI:=hend hgo
 subst hOI
 clear hnx hap had hi1 hend hgo hx hz i1 i0 hOl
 obtain ⟨L,hL⟩:∃ L:Int,L=O.length:=⟨_,rfl⟩
 have hll:ic (ln tI O)=L:=by rw[r4,r12,hL]
 rw[hll]
 obtain ⟨k,hk,k1⟩:∃ k:Nat,ar .rem .i64 (cv .i64 y) L=k∧k<O.length:=by
  refine ⟨(y % L).toNat,?_,?_⟩
  ·rw[r2,r1]
   show ((IntKind.i64.wrap y).tmod _)=_
   rw[wrap64 (n:=y) (by omega) (by omega),Int.tmod_eq_emod_of_nonneg hy.1]
   have:=Int.emod_nonneg y (b:=L) (by omega)
   omega
  ·have:=Int.emod_lt_of_pos y (b:=L) (by omega)
   have:=Int.emod_nonneg y (b:=L) (by omega)
   omega
 rw[hk]
 obtain ⟨D,hD⟩:∃ D,D=O.drop k:=⟨_,rfl⟩
 obtain ⟨T,hT⟩:∃ T,T=O.take k:=⟨_,rfl⟩
 have hDl:D.length=O.length - k:=by rw[hD,List.length_drop]
 have hTl:T.length=k:=by rw[hT,List.length_take];omega
 have e1:sc tI O k L=D:=by rw[r17,hD,hL];unfold scR;rw[Int.toNat_natCast,Int.toNat_natCast,List.take_length]
 have e2:sc tI O 0 k=T:=by rw[r17,hT];unfold scR;rw[Int.toNat_natCast];rfl
 have e3:ad (ln tI D) (ln tI T)=O.length:=by rw[r8,r12];show D.length+T.length=_;omega
 have e4:ln tI D=D.length:=by rw[r12]
 have e5:vw tI D.length D 0 D.length=D:=by rw[r18];exact vw_all (t:=tI) rfl
 have e6:ap tI D T=D ++ T:=by rw[r16]
 have e7:vw tI O.length (D ++ T) 0 O.length=D ++ T:=by rw[r18];exact vw_all (t:=tI) (by rw[List.length_append];omega)
 obtain ⟨z,hz⟩:∃ z,z=gt tI O k:=⟨_,rfl⟩
 have hz2:z=O.getD k 0:=by rw[hz,r14];rfl
 have ea:ad O.length (ln tI [z])=O.length+1:=by rw[r8,r12];rfl
 have ec:ap tI (D ++ T) [z]=D ++ T ++ [z]:=by rw[r16]
 have ed:vw tI (O.length+1) (D ++ T ++ [z]) 0 (O.length+1)=D ++ T ++ [z]:=by rw[r18];exact vw_all (t:=tI) (by simp;omega)
 have ee:em tI D=false:=by
  rw[r13]
  show D.isEmpty=false
  cases hc:D with
  | nil=>rw[hc]at hDl;simp at hDl;omega
  | cons=>rfl
 rw[e1,e2,←hz,ee]
 refine ⟨⟨by omega⟩,⟨by omega,by omega,by omega⟩,⟨by omega,by omega,by omega⟩,⟨by omega,by omega⟩,⟨by omega,by omega⟩,?_⟩
 rw[BR_false]
 rw[e3,e4,e5,e6,e7,ea,ec,ed]
 have hT2:D ++ T ++ [z]=turnC O k:=by unfold turnC;rw[hD,hT,hz2]
 obtain ⟨s1',s2',s3',s4'⟩:=bnd_same hE (c':=turnC O k) (turnC_mem k1) (by unfold turnC;simp) (by unfold turnC;simp;omega)
 rw[hg11]at hE s1'
 rw[hg9]at s2'
 rw[hg10]at s3'
 rw[hg12]at s4'
 rw[hT2,s1',s2',s3',s4',hE]
 have z0:∀ {x:Int} {A B:Prop},A→BR (cmp .eql x x) A B:=fun h=>BR.eql r0 (fun _=>h) (fun h=>absurd rfl h)
 have e8:ad 0 (O.length+1)=O.length+1:=by rw[r8];exact Nat.zero_add _
 rw[e8]
 exact ⟨LIM_iff.2 ⟨by omega,by omega⟩,⟨Nat.le_refl _⟩,LIM_iff.2 ⟨by omega,by omega⟩,⟨Nat.le_refl _⟩,LIM_iff.2 ⟨by omega,by omega⟩,⟨⟨Nat.le_refl _⟩,trivial⟩,⟨⟨Nat.le_refl _⟩,trivial⟩,z0 (z0 (z0 (z0 (z0 (z0 (z0 trivial))))))⟩
theorem turned_typed:∀ xs,TyVs Tryz.prog [22,23,57] xs→PurFn Tryz.prog 6 (xs.map .p) (.v (.bool true)):=law3 (P:=Tryz.prog) (f:=6) (t1:=22) (t2:=23) (t3:=57) (T1:=.sl tRs) (T2:=.sl .bool) (T3:=tTn) (by kernel_rfl) fun l A t hl _ ht=>cTurn l.1 l.2 A.1 A.2 t.1.1 t.1.2 t.2.1.1 t.2.1.2 t.2.2 (ARGR.of hl) (fun x hx=>wfBt (ht.2.1.2.2 x hx)) (wfBt ht.2.2)
end Go.Ab
