/- MergeSingle. -/
import Derived.Test.YtlmdgmppeacobaaGreatLP
set_option linter.unusedSimpArgs false
set_option linter.unusedVariables false
set_option maxRecDepth 20000
set_option maxHeartbeats 4000000
namespace Go.Ab
open Go.Proofs
abbrev tCh:Ty:=.pair (.sl tA) tB
theorem ARGR.one {c:tRs.den} (h:wfT tRs c):ARGR (oneL c.1 c.2):=by
 have hm:maxLen≤9223372036854775807:=by decide
 refine ⟨⟨show 1≤9223372036854775807 by decide,fun r hr=>?_⟩,fun r hr x hx=>?_⟩
 ·simp only[List.mem_singleton]at hr;subst hr;exact Nat.le_trans h.1 hm
 ·simp only[List.mem_singleton]at hr;subst hr
  have hx:=h.2.2 x hx
  exact ⟨wf_lb hx.2.1.2.2,wf_lb hx.2.2.2.2⟩
theorem wfB {n:Int} (h:wfT tB n):0≤n∧n<256:=by
 simp[wfT,Lit.wf,IntKind.min,IntKind.max,IntKind.bits,IntKind.signed]at h
 omega
theorem cSingle (nc:Option Bool) (c:List RT) (na:Option Bool) (A:List Bool) (nl:Option Bool) (l:List AT) (n:Int) (h:ARGR (oneL nc c)) (hn0:0≤n) (hn1:n<256):PurS Tryz.prog 9 [injT tRs (nc,c),injT (.sl .bool) (na,A),injT tCh ((nl,l),n)] (.sb true):=by
 refine PurS.of (S:=[(11,_),(10,_),(17,_),(18,_),(19,_),(33,_),(20,_),(30,_),(26,_),(31,_)]) (T:=[]) (U:=[]) (tbl:=[]) (n:=153) hm31 cfg (.cons (spT0.ok cAwake) (.cons (spT1.ok (a:=(.sl (.sl (.pair .bool (.pair (.sl (.int .u32)) (.sl (.int .u32))))))) fun x0 h=>cLong x0.1 x0.2 h) (.cons (spT1.ok (a:=(.sl (.sl (.pair .bool (.pair (.sl (.int .u32)) (.sl (.int .u32))))))) fun x0 h=>cMSum x0.1 x0.2 h) (.cons (spT1.ok (a:=(.sl (.sl (.pair .bool (.pair (.sl (.int .u32)) (.sl (.int .u32))))))) fun x0 h=>cMWorst x0.1 x0.2 h) (.cons (spT2.ok (a:=(.sl (.sl (.pair .bool (.pair (.sl (.int .u32)) (.sl (.int .u32))))))) (b:=(.sl .bool)) fun x0 x1 h=>cMBest x0.1 x0.2 x1.1 x1.2 h) (.cons (spT2.ok (a:=(.sl (.pair .bool (.pair (.sl (.int .u32)) (.sl (.int .u32)))))) (b:=(.sl .bool)) fun x0 x1 h=>cLeast x0.1 x0.2 x1.1 x1.2 h) (.cons (spT2.ok (a:=(.sl (.pair .bool (.pair (.sl (.int .u32)) (.sl (.int .u32)))))) (b:=(.sl (.pair .bool (.pair (.sl (.int .u32)) (.sl (.int .u32)))))) fun x0 x1 h=>cEqRs2 x0.1 x0.2 x1.1 x1.2 h) (.cons (spT1.ok (a:=(.sl (.pair (.int .u8) (.pair (.int .i64) (.int .i64))))) (pre:=fun _=>True) fun x0 _=>cAdv x0.1 x0.2) (.cons (spT2.ok (a:=(.sl (.pair (.int .u8) (.pair (.int .i64) (.int .i64))))) (b:=(.sl (.int .i64))) (pre:=fun _ _=>True) fun x0 x1 _=>cJoin x0.1 x0.2 x1.1 x1.2) (.cons (spT2.ok (a:=(.sl (.pair (.int .u8) (.pair (.int .i64) (.int .i64))))) (b:=(.int .i64)) fun x0 x1 h=>cEnds x0.1 x0.2 x1 h) .nil)))))))))) .nil .nil .nil 0 Tryz.call9 Tryz.func9 (ac9_ok (some (0,0))) (by rw[Tryz.ntmps9];exact Nat.le_refl _) rfl ⟨_,rfl⟩ ?_
 intro cmp ar cv tn ic ai mx an ad ml sb mn ln em gt up ap sc vw cp rp p1 p2 s1 s2 X Y hX hY r0 r1 r2 r3 r4 r5 r6 r7 r8 r9 r10 r11 r12 r13 r14 r15 r16 r17 r18 r19 r20 r21 r22 r23 r24
 generalize hg0:longB=g0
 generalize hg1:sumL=g1
 generalize hg2:sumE=g2
 generalize hg3:worL=g3
 generalize hg4:worE=g4
 generalize hg5:bstN=g5
 generalize hg6:bstE=g6
 generalize hg7:lstN=g7
 generalize hg8:lstE=g8
 generalize hg9:eqRs=g9
 generalize hg10:advE=g10
 generalize hg11:joinN=g11
 generalize hg12:bndE=g12
 generalize hg13:ownA=g13
 cbv
 have kT:BR true True (false=true):=BR.mk (fun _=>trivial) (fun h=>by cases h)
 obtain ⟨N,hN⟩:∃ N:Int,N=l.length:=⟨_,rfl⟩
 have hll:ic (ln tA l)=N:=by rw[r4,r12,hN]
 obtain ⟨M,hM⟩:∃ N:Int,N=A.length:=⟨_,rfl⟩
 have hla:ic (ln .bool A)=M:=by rw[r4,r12,hM]
 obtain ⟨m,hm⟩:∃ m,m=ar .rem .i64 (cv .i64 n) N:=⟨_,rfl⟩
 obtain ⟨L,hL⟩:∃ L,L=oneL nc c:=⟨_,rfl⟩
 have hLd:L=[(nc,c)]:=hL
 dsimp only
 rw[hll,hla,←hm,←hLd]
 have hgl:LGP L:=by rw[hL];exact h.g
 refine ⟨hgl,BR.mk (fun _=>kT) (fun h1=>BR.gtr r0 (fun _=>kT) (fun h2=>BR.gtr r0 (fun _=>kT) (fun h3=>BR.mk (fun _=>?_) (fun h=>by cases h))))⟩
 have hlb:longB L=false:=by rw[hg0];exact h1
 have hM1:MC L:=by rw[hL]at hlb ⊢;exact (h.mc hlb).1
 have hsz:SZ2 c:=by
  have:=hM1.b.h (nc,c) (by rw[hLd];simp)
  exact ⟨this.1,this.2⟩
 have hMo:MC (oneL nc c):=by rw[←hL];exact hM1
 obtain ⟨a1,a2⟩:=one_sum hMo
 obtain ⟨b1,b2⟩:=one_wor hMo
 rw[←hL]at a1 a2 b1 b2
 have g2e:g2 L=mchk L:=by rw[←hg2,a1]
 have g4e:g4 L=mchk L:=by rw[←hg4,b1]
 have hcc:eqRs (cpRs c) c=true:=by
  unfold eqRs
  have:cpRs (cpRs c)=cpRs c:=by unfold cpRs;rw[List.map_map];rfl
  exact decide_eq_true this
 have hok:g2 L=0→EQP (g1 L)∧g9 (g1 L) c=true∧EQP (g3 L)∧g9 (g3 L) c=true∧g5 L A=g7 c A∧g6 L A=g8 c A:=fun h4=>by
  rw[g2e]at h4
  have e1:g1 L=cpRs c:=by rw[←hg1];exact a2 h4
  have e3:g3 L=cpRs c:=by rw[←hg3];exact b2 h4
  have hq:EQP (cpRs c):=⟨⟨by unfold cpRs;rw[List.length_map];exact hsz.n⟩,⟨fun x hx=>by
   obtain ⟨y,hy,rfl⟩:=List.mem_map.1 hx
   exact hsz.s.h y hy⟩⟩
  have h5:mchk (oneL nc c)=0:=by rw[←hL];exact h4
  obtain ⟨c1,c2⟩:=one_best (A:=A) h5
  rw[e1,e3,←hg9,←hg5,←hg6,←hg7,←hg8,hL]
  exact ⟨hq,hcc,hq,hcc,c2,c1⟩
 have hj:g10 l=0→0<N∧IXP l m∧g12 l [m]=0∧0≤g11 l [m]∧g11 l [m]<N∧g11 l [m]≤m∧IXP l (g11 l [m])∧g13 l m=g13 l (g11 l [m]):=fun h4=>by
  rw[←hg10]at h4
  have hl0:0<l.length:=by
   refine Nat.pos_of_ne_zero fun h=>?_
   unfold advE at h4;rw[if_pos h]at h4;exact absurd h4 (by decide)
  have hmm:m=n % N:=by
   rw[hm,r2,r1]
   show ((IntKind.i64.wrap n).tmod _)=_
   rw[wrap64 (n:=n) (by omega) (by omega)]
   exact Int.tmod_eq_emod_of_nonneg hn0
  have m0:0≤m:=by rw[hmm];exact Int.emod_nonneg _ (by omega)
  have m1:m<l.length:=by rw[hmm,←hN];exact Int.emod_lt_of_pos _ (by omega)
  obtain ⟨j1,j2,j3,j4,j5⟩:=join_one h4 m0 m1
  rw[←hg11,←hg12,←hg13]
  exact ⟨by omega,⟨m0,.inr m1⟩,j1,j2,by omega,j4,⟨j2,.inr j3⟩,j5.symm⟩
 clear hlb hMo a1 a2 b1 b2 hcc hm
 refine ⟨hM1,hM1,hM1,hsz,?_⟩
 rw[g2e,g4e]
 rw[g2e]at hok
 refine BR.nn r0 (BR.eql r0 (fun h4=>?_) (fun h4=>?_))
 ·obtain ⟨o1,o2,o3,o4,o5,o6⟩:=hok h4
  rw[o2,o4,o5,o6,BR_true,BR_true]
  refine ⟨o1,o3,BR.nn r0 (BR.nn r0 ?_)⟩
  refine BR.neq r0 (fun _=>trivial) (fun h5=>?_)
  obtain ⟨p1',p2',p3',p4',p5',p6',p7',p8'⟩:=hj (Classical.not_not.1 h5)
  rw[p3',p8']
  exact ⟨⟨by omega⟩,BR.nn r0 (BR.lss r0 (fun h=>absurd h (by omega)) (fun _=>BR.geq r0 (fun h=>absurd h (by omega)) (fun _=>⟨p2',p7',BR.eql r0 (fun _=>BR.eql r0 (fun _=>BR.leq r0 (fun _=>trivial) (fun h=>absurd p6' h)) (fun h=>absurd rfl h)) (fun h=>absurd rfl h)⟩)))⟩
 ·refine BR.neq r0 (fun _=>trivial) (fun h5=>?_)
  obtain ⟨p1',p2',p3',p4',p5',p6',p7',p8'⟩:=hj (Classical.not_not.1 h5)
  rw[p3',p8']
  exact ⟨⟨by omega⟩,BR.nn r0 (BR.lss r0 (fun h=>absurd h (by omega)) (fun _=>BR.geq r0 (fun h=>absurd h (by omega)) (fun _=>⟨p2',p7',BR.eql r0 (fun _=>BR.eql r0 (fun _=>BR.leq r0 (fun _=>trivial) (fun h=>absurd p6' h)) (fun h=>absurd rfl h)) (fun h=>absurd rfl h)⟩)))⟩
theorem single_typed:∀ xs,TyVs Tryz.prog [27,23,65] xs→PurFn Tryz.prog 9 (xs.map .p) (.v (.bool true)):=law3 (P:=Tryz.prog) (f:=9) (t1:=27) (t2:=23) (t3:=65) (T1:=tRs) (T2:=.sl .bool) (T3:=tCh) (by kernel_rfl) fun c A x hc _ hx=>cSingle c.1 c.2 A.1 A.2 x.1.1 x.1.2 x.2 (ARGR.one hc) (wfB hx.2).1 (wfB hx.2).2
end Go.Ab
