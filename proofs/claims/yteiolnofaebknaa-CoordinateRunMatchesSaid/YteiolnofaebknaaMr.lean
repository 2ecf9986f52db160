/- CoordinateRunMatches. -/
import Derived.Test.YteiolnofaebknaaMq
import Derived.Test.YteiolnofaebknaaAw
set_option linter.unusedSimpArgs false
set_option linter.unusedVariables false
set_option maxRecDepth 100000
set_option maxHeartbeats 8000000
namespace Go.Ab
open Go.Proofs
theorem caw34r:PurS Try.prog 21 [] (.p (.v (.bool true))):=⟨_,rfl,s34_awake⟩
structure RNP (w:List tW.den) (F G:List Int):Prop where
 w:w.length≤80
 f:F.length≤300
 g:G.length≤300
theorem rRunP (a b:Int) (nw:Option Bool) (w:List tW.den) (nf:Option Bool) (F:List Int) (ng:Option Bool) (G:List Int) (h:RNP w F G):PurS Try.prog 22 [injT tI a,injT tI b,injT (.sl tW) (nw,w),injT (.sl tI) (nf,F),injT (.sl tI) (ng,G)] (.tup [.tl none tMeet (runR a b w F G),.p (iv (runE a b w F G))]):=rRun a b nw w nf F ng G _ _ rfl rfl (Nat.le_trans h.w (by decide))
structure SMP (a b:List tMeet.den):Prop where
 e:a=b
 l:a.length≤2000
theorem cSame (na:Option Bool) (a:List tMeet.den) (nb:Option Bool) (b:List tMeet.den) (h:SMP a b):PurS Try.prog 24 [injT (.sl tMeet) (na,a),injT (.sl tMeet) (nb,b)] (.sb true):=by
 refine PurS.of (S:=[]) (T:=[]) (U:=[]) (tbl:=[]) (n:=26) hm33 cfg .nil .nil .nil .nil 0 Try.call24 Try.func24 (ac24_ok (some (0,0))) (by rw[Try.ntmps24];exact Nat.le_refl _) rfl ⟨_,rfl⟩ ?_
 intro cmp ar cv tn ic ai mx an ad ml sb mn ln em gt up ap sc vw cp rp p1 p2 s1 s2 X Y hX hY r0 r1 r2 r3 r4 r5 r6 r7 r8 r9 r10 r11 r12 r13 r14 r15 r16 r17 r18 r19 r20 r21 r22 r23 r24
 cbv
 obtain ⟨rfl,hl⟩:=h
 have hla:ic (ln tMeet a)=a.length:=by rw[r4,r12]
 obtain ⟨N,hN⟩:∃ N:Int,N=a.length:=⟨_,rfl⟩
 have hN2:N≤2000:=by omega
 rw[←hN]at hla
 refine BR.nn r0 ?_
 refine LOOP.ind (σ:=Int) (fun i=>[(0,.tl na tMeet a),(1,.tl nb tMeet a),(5,.p (iv i))]) (fun _=>⟨[],[]⟩) (fun i=>(N - i).toNat) (fun i=>0≤i∧i≤N) 0 ⟨by omega,by omega⟩ (.inl ⟨rfl,rfl⟩) ?_
 intro i hI X1 hX
 obtain ⟨hI1,hI2⟩:=hI
 have hadd:i<N→ar .add .i64 i 1=i+1:=fun h=>by rw[r1];exact wrap64 (n:=i+1) (by omega) (by omega)
 cbv
 try simp only[nc_eq]at *
 rw[hla]
 refine BR.lss r0 (fun hc=>?_) fun hc=>trivial
 have hi:INB i N:=⟨hI1,hc⟩
 rw[hadd hc]
 have hfin:=NEXT.mk (hX (i+1) _ _ ⟨by omega,by omega⟩ (by show (N - (i+1)).toNat<(N - i).toNat;omega) (.inl ⟨rfl,rfl⟩))
 have hce:∀ x:Int,cmp .eql x x=true:=fun x=>by rw[r0];simp[cmpR]
 refine ⟨hi,hi,hi,hi,BR.mk (fun _=>hfin) fun h=>?_⟩
 clear hfin hX
 exfalso
 simp only[hce]at h
 rw[r7]at h
 simp at h
def argT5 (a b c d e:Ty):List DC→Option (a.den×b.den×c.den×d.den×e.den)
 | [x,y,z,u,v]=>match getT a x,getT b y,getT c z,getT d u,getT e v with | some x,some y,some z,some u,some v=>some (x,y,z,u,v) | _,_,_,_,_=>none
 | _=>none
theorem argT5.ok {a b c d e:Ty} {Q:List DC→a.den×b.den×c.den×d.den×e.den→Prop} (hq:∀ xs ys x,concL xs=concL ys→Q ys x→Q xs x) (h:∀ x y z u v,Q [injT a x,injT b y,injT c z,injT d u,injT e v] (x,y,z,u,v)):∀ xs x,argT5 a b c d e xs=some x→Q xs x:=fun xs x hx=>by
 unfold argT5 at hx
 split at hx
 ·split at hx
  ·rename_i h1 h2 h3 h4 h5
   obtain rfl:=Option.some.inj hx
   exact hq _ _ _ (by simp only[concL,getT_conc h1,getT_conc h2,getT_conc h3,getT_conc h4,getT_conc h5]) (h _ _ _ _ _)
  ·cases hx
 ·cases hx
theorem tRun:∀ ds st K,spOwn (argT5 tI tI (.sl tW) (.sl tI) (.sl tI)) (fun x=>RNP x.2.2.1.2 x.2.2.2.1.2 x.2.2.2.2.2) tMeet 45 (fun x=>runR x.1 x.2.1 x.2.2.1.2 x.2.2.2.1.2 x.2.2.2.2.2) (fun x=>shT (iv (runE x.1 x.2.1 x.2.2.1.2 x.2.2.2.1.2 x.2.2.2.2.2))) OpsS.real 23 ds st K→FnS Try.prog 23 ds st K:=
 spOwn.ok (fun _=>shT.ok _ _) (argT5.ok (a:=tI) (b:=tI) (c:=.sl tW) (d:=.sl tI) (e:=.sl tI) (Q:=fun xs x=>RNP x.2.2.1.2 x.2.2.2.1.2 x.2.2.2.2.2→OwnL Try.prog 23 xs tMeet 45 (runR x.1 x.2.1 x.2.2.1.2 x.2.2.2.1.2 x.2.2.2.2.2) (shT (iv (runE x.1 x.2.1 x.2.2.1.2 x.2.2.2.1.2 x.2.2.2.2.2)))) (fun _ _ _ he h hp=>(h hp).cong he) fun a b w F G h=>cRunO a b w.1 w.2 F.1 F.2 G.1 G.2 _ _ rfl rfl (Nat.le_trans h.w (by decide)) h.f h.g)
theorem lawRun (a b:Int) (nw:Option Bool) (w:List tW.den) (n1:Option Bool) (F:List Int) (n2:Option Bool) (G:List Int) (hw:w.length≤maxLen) (hF:F.length≤maxLen) (hG:G.length≤maxLen):PurS Try.prog 4 [injT (.pair tI tI) (a,b),injT (.sl tW) (nw,w),injT (.pair (.sl tI) (.sl tI)) ((n1,F),(n2,G))] (.sb true):=by
 refine PurS.of (S:=[(21,_),(22,_),(24,_)]) (T:=[(23,_)]) (U:=[]) (tbl:=[]) (n:=107) hm33 cfg (.cons (spT0.ok caw34r) (.cons (spT5.ok (a:=(.int .i64)) (b:=(.int .i64)) (c:=(.sl (.pair (.int .u8) (.int .u8)))) (d:=(.sl (.int .i64))) (e:=(.sl (.int .i64))) fun x0 x1 x2 x3 x4 h=>rRunP x0 x1 x2.1 x2.2 x3.1 x3.2 x4.1 x4.2 h) (.cons (spT2.ok (a:=(.sl (.pair (.pair (.int .i64) (.pair (.int .i64) (.pair (.int .u8) (.pair (.int .i64) (.pair (.int .u8) (.int .i64)))))) (.pair (.int .i64) (.pair (.int .i64) (.pair (.int .u8) (.pair (.int .i64) (.pair (.int .u8) (.int .i64))))))))) (b:=(.sl (.pair (.pair (.int .i64) (.pair (.int .i64) (.pair (.int .u8) (.pair (.int .i64) (.pair (.int .u8) (.int .i64)))))) (.pair (.int .i64) (.pair (.int .i64) (.pair (.int .u8) (.pair (.int .i64) (.pair (.int .u8) (.int .i64))))))))) fun x0 x1 h=>cSame x0.1 x0.2 x1.1 x1.2 h) .nil))) (.cons tRun .nil) .nil .nil 0 Try.call4 Try.func4 (ac4_ok (some (0,0))) (by rw[Try.ntmps4];exact Nat.le_refl _) rfl ⟨_,rfl⟩ ?_
 intro cmp ar cv tn ic ai mx an ad ml sb mn ln em gt up ap sc vw cp rp p1 p2 s1 s2 X Y hX hY r0 r1 r2 r3 r4 r5 r6 r7 r8 r9 r10 r11 r12 r13 r14 r15 r16 r17 r18 r19 r20 r21 r22 r23 r24
 generalize hg0:runR=g0
 generalize hg1:runE=g1
 cbv
 dsimp only
 have hlw:ic (ln tW w)=w.length:=by rw[r4,r12]
 have hlF:ic (ln tI F)=F.length:=by rw[r4,r12]
 have hlG:ic (ln tI G)=G.length:=by rw[r4,r12]
 have hap:ap tW [] w=w:=by rw[r16];rfl
 obtain ⟨L,hL⟩:∃ L,L=g0 a b w F G:=⟨_,rfl⟩
 obtain ⟨E,hE⟩:∃ E,E=g1 a b w F G:=⟨_,rfl⟩
 have hLl:L.length≤w.length:=by
  rw[hL,←hg0];unfold runR
  split
  ·rw[runP_len];exact Nat.le_refl _
  ·exact Nat.zero_le _
 have hg80:∀ u:Int,u=ic (ln tW w)→u=(w.length:Int):=fun u h=>h.trans hlw
 refine BR.gtr r0 (fun _=>trivial) fun h1=>?_
 rw[hg80 _ rfl]at h1
 have j0:INB 0 (ic 2):=INB.lit r4 (by decide)
 have j1:INB 1 (ic 2):=INB.lit r4 (by decide)
 rw[hlF,hlG]
 refine ⟨j0,BR.gtr r0 (fun _=>trivial) fun h2=>⟨j1,BR.gtr r0 (fun _=>trivial) fun h3=>?_⟩⟩
 have hrn:RNP w F G:=⟨by omega,by omega,by omega⟩
 have q1:EQN 0 (ml (ln tW []) 2):=⟨by rw[r9,r12];rfl⟩
 have q2:LIM (ad (ln tW []) (ln tW w)) 2:=by
  rw[r8,r12];exact LIM_iff.2 ⟨by show (0+w.length)*2≤_;omega,by show 0+w.length≤_;omega⟩
 have q3:LIM (ln tI F) 8:=by rw[r12];exact LIM_iff.2 ⟨by show F.length*8≤_;omega,by show F.length≤_;omega⟩
 have q4:LIM (ln tI G) 8:=by rw[r12];exact LIM_iff.2 ⟨by show G.length*8≤_;omega,by show G.length≤_;omega⟩
 have hL80:L.length≤80:=Nat.le_trans hLl hrn.w
 obtain ⟨N,hN⟩:∃ N:Int,N=w.length:=⟨_,rfl⟩
 have hN80:N≤80:=by omega
 have hlN:ic (ln tW w)=N:=by rw[hlw,hN]
 have hsm:SMP L L:=⟨rfl,Nat.le_trans hL80 (by decide)⟩
 rw[hap,←hL,←hE]
 refine ⟨q1,q2,j0,j1,q3,q4,j0,j1,j0,j1,hrn,?_⟩
 clear h1 h2 h3 q1 q2 q3 q4 hlw hg80 hlF hlG
 refine LOOP.ind (σ:=Int) (fun r=>[(1,.tl nw tW w),(3,.ptr 0 0),(7,.gr 0 tW w),(8,.tl none tI F),(9,.tl none tI G),(10,.tl none tMeet L),(11,.p (iv E)),(12,.p (iv r))])
  (fun _=>⟨[{ cells:=[.p (iv a),.p (iv b)],e:=36,fz:=false },{ cells:=[.tl n1 tI F,.tl n2 tI G],e:=39,fz:=false }],[(ml (ln tW w) 2,46)]⟩) (fun r=>(2 - r).toNat) (fun r=>0≤r∧r≤2) 0 ⟨by omega,by omega⟩ (.inl ⟨rfl,rfl⟩) ?_
 intro r hI X1 hX
 obtain ⟨hI1,hI2⟩:=hI
 have hadd:r<2→ar .add .i64 r 1=r+1:=fun h=>by rw[r1];exact wrap64 (n:=r+1) (by omega) (by omega)
 cbv
 try simp only[nc_eq]at *
 try dsimp only
 refine BR.lss r0 (fun hc=>?_) fun hc=>?_
 ·refine ⟨j0,j1,hrn,OWNK.mk (fun hT0=>?_) fun M hT0 hM=>?_⟩
  ·have hL0:L=[]:=by rw[hL];exact hT0
   have hz0:ic 0=0:=by rw[r4];rfl
   have hsm0:SMP [] L:=⟨hL0.symm,by simp⟩
   cbv
   try simp only[nc_eq]at *
   rw[←hE]
   refine BR.nn r0 ⟨hsm0,BR.mk (fun _=>?_) fun h=>by cases h⟩
   refine LOOP.ind (σ:=Unit) (fun _=>[(1,.tl nw tW w),(3,.ptr 0 0),(7,.gr 0 tW w),(8,.tl none tI F),(9,.tl none tI G),(10,.tl none tMeet L),(11,.p (iv E)),(12,.p (iv r)),(13,.p (.sl (some true) 0 [])),(15,.p (iv 0))])
    (fun _=>⟨[{ cells:=[.p (iv a),.p (iv b)],e:=36,fz:=false },{ cells:=[.tl n1 tI F,.tl n2 tI G],e:=39,fz:=false }],[(ml (ln tW w) 2,46)]⟩) (fun _=>0) (fun _=>True) () trivial (.inl ⟨rfl,rfl⟩) ?_
   intro _ _ X2 hY
   cbv
   try simp only[nc_eq]at *
   rw[hz0,hadd hc]
   exact BR.lss r0 (fun h=>absurd h (by decide)) fun _=>NEXT.mk (hX (r+1) _ _ ⟨by omega,by omega⟩ (by show (2 - (r+1)).toNat<(2 - r).toNat;omega) (.inl ⟨rfl,rfl⟩))
  ·have hML:M=L.length:=by rw[hL];exact hM
   have hvw:vw tMeet M L 0 M=L:=by rw[r18,hML];exact vwR_all (t:=tMeet) rfl
   have had:ad 0 M=M:=by rw[r8];exact Nat.zero_add M
   obtain ⟨m,hm⟩:∃ m:Int,m=M:=⟨_,rfl⟩
   have hic:ic M=m:=by rw[r4,hm]
   have hm80:m≤80:=by omega
   rw[←hL]
   cbv
   try simp only[nc_eq]at *
   rw[←hE,hvw,had]
   refine BR.nn r0 ⟨⟨⟨Nat.le_refl _⟩,trivial⟩,hsm,BR.mk (fun _=>?_) fun h=>by cases h⟩
   refine LOOP.ind (σ:=List tMeet.den×Int) (fun (_,i)=>[(1,.tl nw tW w),(3,.ptr 0 0),(7,.gr 0 tW w),(8,.tl none tI F),(9,.tl none tI G),(10,.tl none tMeet L),(11,.p (iv E)),(12,.p (iv r)),(13,.ms 2 0 12 none M),(15,.p (iv i))])
    (fun (Q,_)=>⟨[{ cells:=[.p (iv a),.p (iv b)],e:=36,fz:=false },{ cells:=[.tl n1 tI F,.tl n2 tI G],e:=39,fz:=false },{ cells:=[.arr M tMeet Q],e:=45,fz:=false }],[(ml (ln tW w) 2,46)]⟩) (fun (_,i)=>(m - i).toNat) (fun (_,i)=>0≤i∧i≤m) (L,0) ⟨by show (0:Int)≤0;omega,by show (0:Int)≤m;omega⟩ (.inl ⟨rfl,rfl⟩) ?_
   intro ⟨Q,i⟩ hJ X2 hY
   obtain ⟨hJ1,hJ2⟩:=hJ
   have hiad:i<m→ar .add .i64 i 1=i+1:=fun h=>by rw[r1];exact wrap64 (n:=i+1) (by omega) (by omega)
   cbv
   try simp only[nc_eq]at *
   rw[hic,hadd hc]
   refine BR.lss r0 (fun hi=>?_) fun _=>NEXT.mk (hX (r+1) _ _ ⟨by omega,by omega⟩ (by show (2 - (r+1)).toNat<(2 - r).toNat;omega) (.inr ⟨[some 0,some 1],[some 0],?_⟩))
   ·have h0:INB i m:=⟨hJ1,hi⟩
    rw[hiad hi]
    exact ⟨h0,h0,NEXT.mk (hY (_,i+1) _ _ ⟨by show 0≤i+1;omega,by show i+1≤m;omega⟩ (by show (m - (i+1)).toNat<(m - i).toNat;omega) (.inl ⟨rfl,rfl⟩))⟩
   ·rw[SIM_iff];cbv;simp[nlLe_self]
 ·refine LOOP.ind (σ:=Int) (fun i=>[(1,.tl nw tW w),(7,.gr 0 tW w),(16,.p (iv i))])
   (fun _=>⟨[{ cells:=[.p (iv a),.p (iv b)],e:=36,fz:=false },{ cells:=[.tl n1 tI F,.tl n2 tI G],e:=39,fz:=false }],[(ml (ln tW w) 2,46)]⟩) (fun i=>(N - i).toNat) (fun i=>0≤i∧i≤N) 0 ⟨by omega,by omega⟩ (.inl ⟨rfl,rfl⟩) ?_
  intro i hJ X2 hY
  obtain ⟨hJ1,hJ2⟩:=hJ
  have hiad:i<N→ar .add .i64 i 1=i+1:=fun h=>by rw[r1];exact wrap64 (n:=i+1) (by omega) (by omega)
  have hce:∀ x:Int,cmp .eql x x=true:=fun x=>by rw[r0];simp[cmpR]
  cbv
  try simp only[nc_eq]at *
  rw[hlN]
  refine BR.lss r0 (fun hi=>?_) fun _=>?_
  ·have h0:INB i N:=⟨hJ1,hi⟩
   rw[hiad hi]
   have hfin:=NEXT.mk (hY (i+1) _ _ ⟨by omega,by omega⟩ (by show (N - (i+1)).toNat<(N - i).toNat;omega) (.inl ⟨rfl,rfl⟩))
   refine ⟨h0,h0,h0,h0,BR.mk (fun _=>hfin) fun h=>?_⟩
   clear hfin hY hX
   exfalso
   simp only[hce]at h
   rw[r7]at h
   simp at h
  ·first | exact trivial | (refine BR.mk (fun _=>trivial) fun h=>by cases h)
theorem runMatches_typed:∀ xs,TyVs Try.prog [36,37,39] xs→PurFn Try.prog 4 (xs.map .p) (.v (.bool true)):=law3 (P:=Try.prog) (f:=4) (t1:=36) (t2:=37) (t3:=39) (T1:=.pair tI tI) (T2:=.sl tW) (T3:=.pair (.sl tI) (.sl tI)) (by kernel_rfl) fun a w f ha hw hf=>lawRun a.1 a.2 w.1 w.2 f.1.1 f.1.2 f.2.1 f.2.2 hw.1 hf.1.1 hf.2.1
end Go.Ab
