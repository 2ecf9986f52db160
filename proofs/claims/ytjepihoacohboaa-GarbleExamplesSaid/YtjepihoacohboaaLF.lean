/- GarbleExamples: results as flat data,a guess that may be written to. -/
import Derived.Test.YtjepihoacohboaaLD
import Derived.Test.YtjepihoacohboaaLj
set_option linter.unusedSimpArgs false
set_option linter.unusedVariables false
set_option maxRecDepth 20000
set_option maxHeartbeats 8000000
namespace Go.Ab
open Go.Proofs
theorem cFitsE (x:Int) (nb nl:Option Bool) (b l:List Int) (he:fitE b l≠0) (h:LENB b) (h0:∀ y∈b,0≤y) (hl:LENB l):PurS Try.prog 33 [injT tG (x,nb,b),injT (.sl tI) (nl,l)] (.tup [.p (.sl (some true) 0 []),.p (iv (fitE b l))]):=by
 refine PurS.of (S:=[(19,_)]) (T:=[(40,_),(41,_)]) (U:=[]) (tbl:=[(60,ac60 none,[.tmp 4],9),(78,ac78 none,[.tmp 4],19),(61,ac61 none,[.tmp 2],9)]) (n:=43) hm11 cfg (.cons (spT1.ok (a:=(.pair (.int .i64) (.sl (.int .u8)))) fun x0 h=>cGChkP x0.1 x0.2.1 x0.2.2 h) .nil) (.cons cOfT (.cons cSolveT .nil)) .nil (.cons Try.call60 Try.func60 (ac60_ok none) (by rw[Try.ntmps60];exact Nat.le_refl _) (.cons Try.call78 Try.func78 (ac78_ok none) (by rw[Try.ntmps78];exact Nat.le_refl _) (.cons Try.call61 Try.func61 (ac61_ok none) (by rw[Try.ntmps61];exact Nat.le_refl _) .nil))) 6 Try.call33 Try.func33 (ac33_ok (some (0,0))) (by rw[Try.ntmps33];exact Nat.le_refl _) rfl ⟨_,rfl⟩ ?_
 intro cmp ar cv tn ic ai mx an ad ml sb mn ln em gt up ap sc vw cp rp p1 p2 s1 s2 X Y hX hY r0 r1 r2 r3 r4 r5 r6 r7 r8 r9 r10 r11 r12 r13 r14 r15 r16 r17 r18 r19 r20 r21 r22 r23 r24
 generalize hg0:gchk=g0
 generalize hg1:fitE=g1
 cbv
 have eE:g1 b l=if g0 b≠0 then g0 b else if l.length>64 then 10 else if outA l then 1 else 0:=by rw[←hg0,←hg1];rfl
 rw[hg1]at he
 have hla:ic (ln tI l)=l.length:=by rw[r4,r12]
 refine ⟨h,BR.neq r0 (fun h1=>?_) fun h1=>?_⟩
 ·rw[if_pos h1]at eE
  exact ⟨nlLe_self.2 trivial,eE.symm,trivial⟩
 rw[if_neg h1]at eE
 rw[hla]
 refine BR.gtr r0 (fun h2=>?_) fun h2=>?_
 ·rw[if_pos (by omega)]at eE
  exact ⟨nlLe_self.2 trivial,eE.symm,trivial⟩
 rw[if_neg (by omega)]at eE
 obtain ⟨w,hw⟩:∃ w,w=outA l:=⟨_,rfl⟩
 rw[←hw]at eE
 have hofp:=gchk_ok h0
 rw[hg0]at hofp
 have hofp:=hofp (Classical.not_not.1 h1)
 obtain ⟨N,hN⟩:∃ N:Int,N=l.length:=⟨_,rfl⟩
 rw[←hN]at hla ⊢
 refine LOOP.ind0 (σ:=Int) (fun k=>[(0,.tl nl tI l),(1,.fn (.func 61) [] []),(7,.p (iv N)),(8,.p (iv k))]) (fun _=>⟨[{ cells:=[.p (iv x),.tl nb tB b],e:=24,fz:=false }],[]⟩) (fun k=>(N - k).toNat) (fun k=>0≤k∧k≤N∧outA (l.drop k.toNat)=w) 0 ⟨by omega,by omega,by rw[hw];rfl⟩ (.inl ⟨rfl,rfl⟩) ?_
 intro k hJ X2 hY
 obtain ⟨hJ1,hJ2,hJ3⟩:=hJ
 obtain ⟨y,hy⟩:∃ y:Int,y=gt tI l k:=⟨_,rfl⟩
 have hst:k<N→w=(decide (y<0∨y>16777215) || outA (l.drop (k+1).toNat)):=fun h=>by
  rw[←hJ3,outA_cons hJ1 (by omega),hy,r14]
 have hend:¬ k<N→w=false:=fun h=>by rw[←hJ3,gtR_end (by omega)];rfl
 have hadd:k<N→ar .add .i64 k 1=k+1:=fun h=>by rw[r1];exact wrap64 (n:=k+1) (by omega) (by omega)
 have hbad:w=true→nlLe (some true) (some true)∧1=g1 b l∧True:=fun h=>by
  rw[if_pos h]at eE
  exact ⟨nlLe_self.2 trivial,eE.symm,trivial⟩
 cbv
 try simp only[nc_eq]at *
 rw[hla,←hy]
 refine BR.lss r0 (fun hc=>?_) fun hc=>?_
 ·have h3:INB k N:=⟨hJ1,hc⟩
  have hs:=hst hc
  rw[hadd hc]
  refine ⟨h3,h3,BR.lss r0 (fun h4=>?_) fun h4=>BR.gtr r0 (fun h5=>?_) fun h5=>?_⟩
  ·have hw1:=hbad (by rw[hs,decide_eq_true (.inl h4)];rfl)
   exact BR.geq r0 (fun _=>hw1) fun h=>absurd hJ1 h
  ·have hw1:=hbad (by rw[hs,decide_eq_true (.inr h5)];rfl)
   exact BR.geq r0 (fun _=>hw1) fun h=>absurd hJ1 h
  ·refine NEXT.mk (hY (k+1) _ _ ⟨by omega,by omega,?_⟩ (by show (N - (k+1)).toNat<(N - k).toNat;omega) (.inl ⟨rfl,rfl⟩))
   rw[hs,decide_eq_false (by omega)];rfl
 ·have hwf:=hend hc
  rw[hwf,if_neg (by decide)]at eE
  exact absurd eE he
inductive CH2 (A B:Unit→Prop):Prop
 | l (h:A ()):CH2 A B
 | r (h:B ()):CH2 A B
def spFit (fL:List Int→List Int→List Int) (fE:List Int→List Int→Int):List DC→(DC→Prop)→Prop:=fun xs K=>match xs with
 | [x,y]=>(match getT tG x,getT (.sl tI) y with
  | some x,some y=>CH2 (fun _=>ARF x.2.2 y.2∧fE x.2.2 y.2≠0∧K (.tup [.p (.sl (some true) 0 []),.p (iv (fE x.2.2 y.2))])) (fun _=>ARF x.2.2 y.2∧K (.tup [.tl none tI (fL x.2.2 y.2),.p (iv (fE x.2.2 y.2))]))
  | _,_=>False)
 | _=>False
theorem spFit.ok (_:Unit):∀ xs K,spFit fitL fitE xs K→∃ x,PurS Try.prog 33 xs x∧K x:=fun xs K hs=>by
 unfold spFit at hs
 split at hs
 ·split at hs
  ·rename_i _ _ x y h1 h2
   rcases hs with ⟨h,he,hk⟩ | ⟨h,hk⟩
   ·exact ⟨_,(cFitsE x.1 x.2.1 y.1 x.2.2 y.2 he h.h h.h0 h.hl).cong (by simp only[concL,getT_conc h1,getT_conc h2]),hk⟩
   ·exact ⟨_,(cFits x.1 x.2.1 y.1 x.2.2 y.2 _ rfl h.h h.h0 h.hl).cong (by simp only[concL,getT_conc h1,getT_conc h2]),hk⟩
  ·exact hs.elim
 ·exact hs.elim
theorem cBlurM (f t:Int) (L:List Int) (hL:L=blurL f t) (h:BLP f t):FnS Try.prog 37 ([injT tI f,injT tI t]) (⟨[],[]⟩) fun x_ s_=>x_=(.agg [.p (iv 7),.ms 0 0 1 none 56])∧s_=(⟨[{ cells:=[.arr 56 tB L],e:=5,fz:=false,ap:=true }],[]⟩):=by
 refine FnS.of (S:=[]) (T:=[]) (U:=[]) (tbl:=[]) (n:=20) hm11 cfg .nil .nil .nil .nil 0 Try.call37 Try.func37 (ac37_ok (some (0,0))) (by rw[Try.ntmps37];exact Nat.le_refl _) rfl _ _ _ (by rfl) ?_
 intro cmp ar cv tn ic ai mx an ad ml sb mn ln em gt up ap sc vw cp rp p1 p2 s1 s2 X Y hX hY r0 r1 r2 r3 r4 r5 r6 r7 r8 r9 r10 r11 r12 r13 r14 r15 r16 r17 r18 r19 r20 r21 r22 r23 r24
 cbv
 obtain ⟨h0,h1,h2⟩:=h
 have htn:tn 56=56:=by rw[r3];rfl
 have hrp:rp tB 56 0=List.replicate 56 0:=by rw[r20]
 have hic:ic 56=56:=by rw[r4];rfl
 rw[htn,hrp]
 refine ⟨MK_iff.2 ⟨by decide,by decide,by decide,by decide⟩,?_⟩
 refine LOOP.ind (σ:=Int×List Int) (fun (i,_)=>[(1,.p (iv t)),(4,.ptr 0 0),(5,.ptr 2 0),(6,.p (iv i))]) (fun (_,O)=>⟨[{ cells:=[.p (iv 0),.p (.sl (some true) 0 [])],e:=24,fz:=false },{ cells:=[.arr 56 tB O],e:=5,fz:=false,ap:=true },{ cells:=[.p (iv 7),.ms 1 0 1 none 56],e:=24,fz:=false }],[]⟩)
  (fun (i,_)=>(t+1 - i).toNat) (fun (i,O)=>f≤i∧i≤t+1∧O=blurA f i) (f,List.replicate 56 0) ⟨Int.le_refl _,by show f≤t+1;omega,(blurA_zero f).symm⟩ (.inl ⟨rfl,rfl⟩) ?_
 intro ⟨i,O⟩ hI X' hX
 obtain ⟨hI1,hI2,hI3⟩:=hI
 have hOl:O.length=56:=by rw[hI3,blurA_len]
 have hadd:i≤t→ar .add .i64 i 1=i+1:=fun h=>by rw[r1];exact wrap64 (n:=i+1) (by omega) (by omega)
 have hup:i≤t→up tB 56 O i 2=blurA f (i+1):=fun h=>by
  rw[r15];unfold upR;rw[Ty.norm_eq tB hOl,hI3,blurA_succ h0 hI1 (by omega)]
 have hend:¬ i≤t→O=L:=fun h=>by rw[hI3,hL];unfold blurL;rw[show i=t+1 by omega]
 cbv
 try simp only[nc_eq]at *
 rw[hic]
 refine BR.leq r0 (fun hc=>?_) (fun hc=>?_)
 ·have hi:INB i 56:=⟨by omega,by omega⟩
  rw[hadd hc,hup hc]
  refine ⟨hi,hi,NEXT.mk (hX (i+1,_) _ _ ⟨by omega,by omega,rfl⟩ (by show (t+1 - (i+1)).toNat<(t+1 - i).toNat;omega) (.inl ⟨rfl,rfl⟩))⟩
 ·refine RET.mk ⟨[some 1],[],?_⟩
  rw[SIM_iff];cbv;simp[nlLe_self,hend hc]
def spBlur (bl:Int→Int→List Int):OpsS→CallS:=fun _ _ ds st K=>match ds with
 | [.p (.v (.int .i64 a)),.p (.v (.int .i64 b))]=>CH2 (fun _=>BLP a b∧K (.agg [.p (iv 7),.tl none tB (bl a b)]) st)
   (fun _=>BLP a b∧frS [] [] [.p (iv a),.p (iv b)] ⟨[],[]⟩ (.agg [.p (iv 7),.ms 0 0 1 none 56]) ⟨[{ cells:=[.arr 56 tB (bl a b)],e:=5,fz:=false,ap:=true }],[]⟩ ds st K)
 | _=>False
theorem cBlurT:∀ ds st K,spBlur blurL OpsS.real 37 ds st K→FnS Try.prog 37 ds st K:=fun ds st K h=>by
 unfold spBlur at h
 split at h
 ·rcases h with ⟨h,hk⟩ | ⟨h,hk⟩
  ·intro c
   obtain ⟨y,hy,hp⟩:=cBlurP _ _ h
   have:=KP.mk (K:=K) hk
   rw[hy]at this
   exact hp.cwP (pureN_as (ds:=[.p (iv _),.p (iv _)]) rfl) this
  ·exact frS_ok (cBlurM _ _ _ rfl h) hk
 ·exact h.elim
def oddL:List Int:=(blurL 0 0).set 3 3
theorem lawEx  : PurS Try.prog 9 [] (.sb true):=by
 refine PurS.of (S:=[(11,_),(13,_),(15,_),(33,_),(17,_),(35,_),(37,_),(22,_),(38,_)]) (T:=[(37,_)]) (U:=[]) (tbl:=[]) (n:=144) hm11 cfg (.cons (spT0.ok cAwake) (.cons (spT2.ok (a:=(.pair (.int .i64) (.sl (.int .u8)))) (b:=(.int .i64)) fun x0 x1 h=>cCountP x0.1 x0.2.1 x0.2.2 x1 h) (.cons (spT2.ok (a:=(.pair (.int .i64) (.sl (.int .u8)))) (b:=(.int .i64)) fun x0 x1 h=>cSolveP x0.1 x0.2.1 x0.2.2 x1 h) (.cons (spFit.ok ()) (.cons (spT2.ok (a:=(.pair (.int .i64) (.sl (.int .u8)))) (b:=(.int .i64)) fun x0 x1 h=>cCertP x0.1 x0.2.1 x0.2.2 x1 h) (.cons (spT2.ok (a:=(.sl (.int .i64))) (b:=(.sl (.int .i64))) fun x0 x1 h=>cEqInts x0.1 x0.2 x1.1 x1.2 h) (.cons (spT2.ok (a:=(.int .i64)) (b:=(.int .i64)) fun x0 x1 h=>cBlurP x0 x1 h) (.cons (spT2.ok (a:=(.pair (.int .i64) (.sl (.int .u8)))) (b:=(.pair (.int .i64) (.sl (.int .u8)))) fun x0 x1 h=>cEqG x0.1 x0.2.1 x0.2.2 x1.1 x1.2.1 x1.2.2 h) (.cons (spT3.ok (a:=(.pair (.int .i64) (.sl (.int .u8)))) (b:=(.int .i64)) (c:=(.int .i64)) fun x0 x1 x2 h=>cCounts x0.1 x0.2.1 x0.2.2 x1 x2 h) .nil))))))))) (.cons cBlurT .nil) .nil .nil 0 Try.call9 Try.func9 (ac9_ok (some (0,0))) (by rw[Try.ntmps9];exact Nat.le_refl _) rfl ⟨_,rfl⟩ ?_
 intro cmp ar cv tn ic ai mx an ad ml sb mn ln em gt up ap sc vw cp rp p1 p2 s1 s2 X Y hX hY r0 r1 r2 r3 r4 r5 r6 r7 r8 r9 r10 r11 r12 r13 r14 r15 r16 r17 r18 r19 r20 r21 r22 r23 r24
 generalize hg0:blurL=g0
 generalize hg1:solR=g1
 generalize hg2:solE=g2
 generalize hg3:cntN=g3
 generalize hg4:cntE=g4
 generalize hg5:cerX=g5
 generalize hg6:cerR=g6
 generalize hg7:wrnG=g7
 generalize hg8:eqI=g8
 generalize hg9:eqG=g9
 generalize hg10:cntsB=g10
 generalize hg11:fitL=g11
 generalize hg12:fitE=g12
 cbv
 have b0:BLP 0 0:=⟨by decide,by decide,by decide⟩
 have b1:BLP 0 55:=⟨by decide,by decide,by decide⟩
 have had:ad 0 56=56:=by rw[r8]
 have hic:ic 56=56:=by rw[r4];rfl
 have i3:INB 3 (ic 56):=⟨by decide,by rw[hic];decide⟩
 have l56:LEN (ad 0 56) 56:=⟨by omega⟩
 obtain ⟨W,hW⟩:∃ W,W=vw tB 56 (up tB 56 (g0 0 0) 3 3) 0 56:=⟨_,rfl⟩
 have hWo:W=oddL:=by
  rw[hW,r18,r15,←hg0]
  have h1:upR tB 56 (blurL 0 0) 3 3=oddL:=rfl
  rw[h1];exact vw_all (t:=tB) rfl
 have aN:ARG []:=⟨by simp,by simp⟩
 have aW:ARG W:=by rw[hWo];exact ⟨by decide,by decide +kernel⟩
 have aB:∀ f t,ARG (g0 f t):=fun f t=>by rw[←hg0];exact blurARG f t
 refine BR.mk (fun _=>CH2.r ?_) fun h=>by cases h
 cbv
 rw[←hW]
 refine ⟨b0,i3,i3,aN,⟨⟨l56,trivial⟩,trivial⟩,aW,CH2.l ⟨b1,?_⟩⟩
 cbv
 refine ⟨aB _ _,CH2.l ⟨b1,?_⟩⟩
 cbv
 rw[←hW]
 try dsimp only
 obtain ⟨Z,hZ⟩:∃ Z,Z=vw tI (tn 65) (rp tI (tn 65) 0) 0 (tn 65):=⟨_,rfl⟩
 have hZo:Z=List.replicate 65 0:=by rw[hZ,r18,r20,r3];exact vw_all (t:=tI) (by simp)
 have m65:MK 65 65 8:=MK_iff.2 ⟨by decide,by decide,by decide,by decide⟩
 have l65:LEN (ad 0 (tn 65)) (tn 65):=⟨by rw[r8];exact Nat.le_of_eq (Nat.zero_add _)⟩
 have e1:g12 W Z=1:=by rw[hWo,hZo,←hg12];decide +kernel
 have f1:ARF W Z:=⟨aW.ln,aW.h0,⟨by rw[hZo];simp[maxLen]⟩⟩
 rw[←hZ]
 refine ⟨aB _ _,m65,⟨⟨l56,trivial⟩,l65,trivial⟩,CH2.l ⟨f1,by rw[e1];decide,rfl,?_⟩⟩
 clear hZ
 cbv
 try dsimp only
 obtain ⟨Y,hY⟩:∃ Y,Y=vw tI (ad (tn 64) (ln tI [-1])) (ap tI (vw tI (tn 64) (rp tI (tn 64) 0) 0 (tn 64)) [-1]) 0 (ad (tn 64) (ln tI [-1])):=⟨_,rfl⟩
 have hn65:ad (tn 64) (ln tI [-1])=65:=by rw[r8,r3,r12];rfl
 have hYo:Y=List.replicate 64 0 ++ [-1]:=by
  have h1:vwR tI 64 (List.replicate 64 (0:Int)) 0 64=List.replicate 64 0:=vw_all (t:=tI) (by simp)
  rw[hY,hn65,r18,r20,r3,r16]
  show vwR tI 65 (vwR tI 64 (List.replicate 64 0) 0 64 ++ [-1]) 0 65=_
  rw[h1];exact vw_all (t:=tI) (by simp)
 have m64:MK 64 64 8:=MK_iff.2 ⟨by decide,by decide,by decide,by decide⟩
 have l64:LEN (tn 64) (tn 64):=⟨Nat.le_refl _⟩
 have lim:LIM (ad (tn 64) (ln tI [-1])) 8:=by rw[hn65];exact LIM_iff.2 ⟨by decide,by decide⟩
 have l65:LEN (ad 0 (ad (tn 64) (ln tI [-1]))) (ad (tn 64) (ln tI [-1])):=⟨by rw[r8];exact Nat.le_of_eq (Nat.zero_add _)⟩
 have e2:g12 (g0 0 0) Y=10:=by rw[hYo,←hg12,←hg0];decide +kernel
 have f2:ARF (g0 0 0) Y:=⟨(aB 0 0).ln,(aB 0 0).h0,⟨by rw[hYo];simp[maxLen]⟩⟩
 rw[←hY]
 refine ⟨b0,m64,l64,lim,⟨l65,trivial⟩,CH2.l ⟨f2,by rw[e2];decide,rfl,?_⟩⟩
 clear hY
 cbv
 try dsimp only
 refine CH2.l ⟨b0,?_⟩
 cbv
 try dsimp only
 have e3:g12 (g0 0 0) [1,-1]=1:=by rw[←hg12,←hg0];decide +kernel
 have f3:ARF (g0 0 0) [1,-1]:=⟨(aB 0 0).ln,(aB 0 0).h0,⟨by decide⟩⟩
 refine CH2.l ⟨f3,by rw[e3];decide,?_⟩
 cbv
 try dsimp only
 refine CH2.l ⟨b0,?_⟩
 cbv
 try dsimp only
 have b2:BLP 54 55:=⟨by decide,by decide,by decide⟩
 have b3:BLP 55 55:=⟨by decide,by decide,by decide⟩
 refine ⟨aB _ _,CH2.l ⟨b2,?_⟩⟩
 cbv
 try dsimp only
 have f4:ARF (g0 54 55) [3,4,0,3,1,8,2]:=⟨(aB 54 55).ln,(aB 54 55).h0,⟨by decide⟩⟩
 refine CH2.r ⟨f4,?_⟩
 cbv
 try dsimp only
 refine CH2.l ⟨b3,?_⟩
 cbv
 try dsimp only
 have x1:g4 [] (-1)=2:=by rw[←hg4];decide +kernel
 have x2:g4 W (-1)=1:=by rw[hWo,←hg4];decide +kernel
 have x3:g2 (g0 0 55) (-1)=1:=by rw[←hg2,←hg0];decide +kernel
 have x4:g2 (g0 0 55) 16777216=1:=by rw[←hg2,←hg0];decide +kernel
 have x5:g7 (g0 0 0) (-1)=1:=by rw[←hg7,←hg0];decide +kernel
 have x6:g12 (g0 54 55) [3,4,0,3,1,8,2]=0:=by rw[←hg12,←hg0];decide +kernel
 have x7:g11 (g0 54 55) [3,4,0,3,1,8,2]=[3,0,3,1,2]:=by rw[←hg11,←hg0];decide +kernel
 have x8:g7 (g0 55 55) 2=0:=by rw[←hg7,←hg0];decide +kernel
 have x9:g6 (g0 55 55) 2=g0 55 55:=by rw[←hg6,←hg0];decide +kernel
 have x10:g5 7 (g0 55 55) 2=7:=by rw[←hg5,←hg0];decide +kernel
 have y1:∀ a,g8 a a=true:=fun a=>by rw[←hg8];exact decide_eq_true rfl
 have y2:∀ x a,g9 x a x a=true:=fun x a=>by rw[←hg9];unfold eqG eqI;simp
 have z1:g10 (g0 2 55) 77 1073741824=true:=by rw[←hg10,←hg0];decide +kernel
 have z2:g10 (g0 32 55) 77 1=true:=by rw[←hg10,←hg0];decide +kernel
 have s1:Short 2000 [(3:Int),0,3,1,2]:=⟨by decide⟩
 have s2:Short 2000 (g0 55 55):=⟨by rw[←hg0];unfold blurL;rw[blurA_len];decide⟩
 have b4:BLP 2 55:=⟨by decide,by decide,by decide⟩
 have b5:BLP 32 55:=⟨by decide,by decide,by decide⟩
 rw[x7,x9,x10]
 refine ⟨aB _ _,BR.eqlT r0 x1 (BR.eqlT r0 x2 (BR.eqlT r0 x3 (BR.eqlT r0 x4 (BR.eqlT r0 e1 (BR.eqlT r0 e2 (BR.eqlT r0 e3 (BR.eqlT r0 x5 (BR.eqlT r0 x6 ⟨s1,BR.tt (y1 _) (BR.eqlT r0 x8 ⟨b3,s2,BR.tt (y2 _ _) (CH2.l ⟨b4,?_⟩)⟩)⟩))))))))⟩
 clear x1 x2 x3 x4 x5 x6 x7 x8 x9 x10 e1 e2 e3
 cbv
 try dsimp only
 refine ⟨aB _ _,BR.tt z1 (CH2.l ⟨b5,?_⟩)⟩
 cbv
 try dsimp only
 exact ⟨aB _ _,BR.tt z2 trivial⟩
theorem gex_typed:∀ xs,TyVs Try.prog [] xs→PurFn Try.prog 9 (xs.map .p) (.v (.bool true)):=fun xs hx=>by
 match xs,hx with
 | [],_=>
  exact lawEx.true
end Go.Ab
