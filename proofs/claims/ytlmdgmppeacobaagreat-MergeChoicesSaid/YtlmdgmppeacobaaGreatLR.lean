/- MergeChoices. -/
import Derived.Test.YtlmdgmppeacobaaGreatLQ
set_option linter.unusedSimpArgs false
set_option linter.unusedVariables false
set_option maxRecDepth 20000
set_option maxHeartbeats 4000000
namespace Go.Ab
open Go.Proofs
theorem cChoices (nl:Option Bool) (l:List AT) (nc:Option Bool) (c:List Int):PurS Tryz.prog 4 [injT (.sl tA) (nl,l),injT (.sl tI) (nc,c)] (.sb true):=by
 refine PurS.of (S:=[(11,_),(23,_),(28,_),(24,_),(25,_),(26,_),(27,_)]) (T:=[]) (U:=[]) (tbl:=[]) (n:=84) hm31 cfg (.cons (spT0.ok cAwake) (.cons (spT1.ok (a:=(.sl (.int .i64))) fun x0 h=>cCpInts x0.1 x0.2 h) (.cons (spT2.ok (a:=(.sl (.int .i64))) (b:=(.sl (.int .i64))) fun x0 x1 h=>cEqInts x0.1 x0.2 x1.1 x1.2 h) (.cons (spT2.ok (a:=(.sl (.pair (.int .u8) (.pair (.int .i64) (.int .i64))))) (b:=(.sl (.int .i64))) (pre:=fun _ _=>True) fun x0 x1 _=>cBound x0.1 x0.2 x1.1 x1.2) (.cons (spT2.ok (a:=(.sl (.pair (.int .u8) (.pair (.int .i64) (.int .i64))))) (b:=(.sl (.int .i64))) (pre:=fun _ _=>True) fun x0 x1 _=>cRBound x0.1 x0.2 x1.1 x1.2) (.cons (spT2.ok (a:=(.sl (.pair (.int .u8) (.pair (.int .i64) (.int .i64))))) (b:=(.sl (.int .i64))) (pre:=fun _ _=>True) fun x0 x1 _=>cJoin x0.1 x0.2 x1.1 x1.2) (.cons (spT2.ok (a:=(.sl (.pair (.int .u8) (.pair (.int .i64) (.int .i64))))) (b:=(.sl (.int .i64))) (pre:=fun _ _=>True) fun x0 x1 _=>cRJoin x0.1 x0.2 x1.1 x1.2) .nil))))))) .nil .nil .nil 0 Tryz.call4 Tryz.func4 (ac4_ok (some (0,0))) (by rw[Tryz.ntmps4];exact Nat.le_refl _) rfl ⟨_,rfl⟩ ?_
 intro cmp ar cv tn ic ai mx an ad ml sb mn ln em gt up ap sc vw cp rp p1 p2 s1 s2 X Y hX hY r0 r1 r2 r3 r4 r5 r6 r7 r8 r9 r10 r11 r12 r13 r14 r15 r16 r17 r18 r19 r20 r21 r22 r23 r24
 generalize hg0:bndLo=g0
 generalize hg1:bndHi=g1
 generalize hg2:bndE=g2
 generalize hg3:joinN=g3
 generalize hg4:eqI=g4
 cbv
 have z:∀ {x:Int} {A B:Prop},A→BR (cmp .eql x x) A B:=fun h=>BR.eql r0 (fun _=>h) (fun h=>absurd rfl h)
 have hlc:ic (ln tI c)=c.length:=by rw[r4,r12]
 have hee:g4 c c=true:=by rw[←hg4];exact decide_eq_true rfl
 rw[hlc]
 dsimp only
 rw[hee]
 refine BR.gtr r0 (fun _=>BR.mk (fun _=>trivial) (fun h=>by cases h)) (fun _=>BR.gtr r0 (fun _=>BR.mk (fun _=>trivial) (fun h=>by cases h)) (fun h=>?_))
 have hs:Short 2000 c:=⟨by omega⟩
 exact ⟨hs,z (z (z (z (z ⟨hs,BR.mk (fun _=>BR.mk (fun _=>trivial) (fun h=>by cases h)) (fun h=>by cases h)⟩))))⟩
theorem choices_typed:∀ xs,TyVs Tryz.prog [38,39] xs→PurFn Tryz.prog 4 (xs.map .p) (.v (.bool true)):=law2 (P:=Tryz.prog) (f:=4) (t1:=38) (t2:=39) (T1:=.sl tA) (T2:=.sl tI) (by kernel_rfl) fun l c _ _=>cChoices l.1 l.2 c.1 c.2
end Go.Ab
