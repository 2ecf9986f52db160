/- GarbleFits. -/
import Derived.Test.YtjepihoacohboaaLD
import Derived.Test.YtjepihoacohboaaLj
set_option linter.unusedSimpArgs false
set_option linter.unusedVariables false
set_option maxRecDepth 20000
set_option maxHeartbeats 8000000
namespace Go.Ab
open Go.Proofs
theorem cRFitsP (x:Int) (nb:Option Bool) (b:List Int) (nl:Option Bool) (l:List Int) (h:ARF b l):PurS Try.prog 34 [injT tG (x,nb,b),injT (.sl tI) (nl,l)] (.tup [.tl none tI (fitL b l),.p (iv (fitE b l))]):=cRFits x nb nl b l _ rfl h.h h.h0 h.hl
theorem fitL_len (b l:List Int):(fitL b l).length≤l.length:=by
 unfold fitL
 split
 ·exact List.length_filter_le _ _
 ·exact Nat.zero_le _
theorem lawFits (x:Int) (nb nl:Option Bool) (b l:List Int) (hb:ARG b) (hl:l.length≤maxLen):PurS Try.prog 8 [injT tG (x,nb,b),injT (.sl tI) (nl,l)] (.sb true):=by
 refine PurS.of (S:=[(10,_),(11,_),(12,_),(32,_),(34,_),(35,_),(22,_)]) (T:=[(33,_)]) (U:=[]) (tbl:=[(36,ac36 none,[],12)]) (n:=57) hm11 cfg (.cons (spT1.ok (a:=(.pair (.int .i64) (.sl (.int .u8)))) (pre:=fun _=>True) fun x0 _=>cLong x0.1 x0.2.1 x0.2.2) (.cons (spT0.ok cAwake) (.cons (spT1.ok (a:=(.pair (.int .i64) (.sl (.int .u8)))) fun x0 h=>cCpG x0.1 x0.2.1 x0.2.2 h) (.cons (spT1.ok (a:=(.sl (.int .i64))) fun x0 h=>cCpInts x0.1 x0.2 h) (.cons (spT2.ok (a:=(.pair (.int .i64) (.sl (.int .u8)))) (b:=(.sl (.int .i64))) fun x0 x1 h=>cRFitsP x0.1 x0.2.1 x0.2.2 x1.1 x1.2 h) (.cons (spT2.ok (a:=(.sl (.int .i64))) (b:=(.sl (.int .i64))) fun x0 x1 h=>cEqInts x0.1 x0.2 x1.1 x1.2 h) (.cons (spT2.ok (a:=(.pair (.int .i64) (.sl (.int .u8)))) (b:=(.pair (.int .i64) (.sl (.int .u8)))) fun x0 x1 h=>cEqG x0.1 x0.2.1 x0.2.2 x1.1 x1.2.1 x1.2.2 h) .nil))))))) (.cons tFits .nil) .nil (.cons Try.call36 Try.func36 (ac36_ok none) (by rw[Try.ntmps36];exact Nat.le_refl _) .nil) 6 Try.call8 Try.func8 (ac8_ok (some (0,0))) (by rw[Try.ntmps8];exact Nat.le_refl _) rfl ⟨_,rfl⟩ ?_
 intro cmp ar cv tn ic ai mx an ad ml sb mn ln em gt up ap sc vw cp rp p1 p2 s1 s2 X Y hX hY r0 r1 r2 r3 r4 r5 r6 r7 r8 r9 r10 r11 r12 r13 r14 r15 r16 r17 r18 r19 r20 r21 r22 r23 r24
 generalize hg0:fitL=g0
 generalize hg1:fitE=g1
 generalize hg2:eqI=g2
 generalize hg3:eqG=g3
 generalize hg4:lngB=g4
 cbv
 dsimp only
 have hlng:g4 b=decide (b.length>130):=by rw[←hg4];rfl
 have hla:ic (ln tI l)=l.length:=by rw[r4,r12]
 have hTl:(g0 b l).length≤l.length:=by rw[←hg0];exact fitL_len b l
 obtain ⟨T,hT⟩:∃ T,T=g0 b l:=⟨_,rfl⟩
 obtain ⟨E,hE⟩:∃ E,E=g1 b l:=⟨_,rfl⟩
 rw[←hT]at hTl ⊢
 rw[←hE]
 have heq:∀ a,g2 a a=true:=fun a=>by rw[←hg2];exact decide_eq_true rfl
 have heg:∀ x a,g3 x a x a=true:=fun x a=>by rw[←hg3];unfold eqG eqI;simp
 have hfin:BR true True (false=true):=BR.mk (fun _=>trivial) fun h=>by cases h
 rw[hla]
 refine BR.mk (fun _=>hfin) fun h4=>BR.gtr r0 (fun _=>hfin) fun h70=>?_
 have hb130:b.length≤130:=by
  rw[h4]at hlng
  have:=of_decide_eq_false hlng.symm
  omega
 have hsb:Short 2000 b:=⟨by omega⟩
 have hsl:Short 2000 l:=⟨by omega⟩
 have hsT:Short 2000 T:=⟨by omega⟩
 have harf:ARF b l:=⟨hb.ln,hb.h0,⟨hl⟩⟩
 refine ⟨hsb,hsl,harf,OWNK.mk (fun hT0=>?_) fun N hT0 hN=>?_⟩
 ·cbv
  try simp only[nc_eq]at *
  rw[←hE,←hT,hT0]
  refine ⟨harf,BR.neqF r0 rfl ⟨⟨by simp⟩,BR.tt (heq _) ?_⟩⟩
  refine LOOP.ind0 (σ:=Unit) (fun _=>[(0,.p (.sl (some true) 0 [])),(2,.p (iv 0))]) (fun _=>⟨[{ cells:=[.p (iv x),.tl nb tB b],e:=24,fz:=false },{ cells:=[.p (iv x),.tl none tB b],e:=24,fz:=false }],[]⟩) (fun _=>0) (fun _=>True) () trivial (.inl ⟨rfl,rfl⟩) ?_
  intro _ _ X' hX'
  cbv
  try simp only[nc_eq]at *
  have hz0:ic 0=0:=by rw[r4];rfl
  rw[hz0]
  exact BR.lss r0 (fun h=>absurd h (by decide)) fun _=>⟨hsb,BR.tt (heg _ _) ⟨hsl,BR.tt (heq _) hfin⟩⟩
 ·have hvw:vw tI N T 0 N=T:=by rw[r18];exact vw_all (t:=tI) hN.symm
  have had:ad 0 N=N:=by rw[r8];exact Nat.zero_add N
  obtain ⟨k0,hk0⟩:∃ k0:Int,k0=N:=⟨_,rfl⟩
  have hic:ic N=k0:=by rw[r4,hk0]
  have hk:k0≤70:=by omega
  cbv
  try simp only[nc_eq]at *
  rw[←hE,←hT,hvw,had]
  refine ⟨harf,BR.neqF r0 rfl ⟨⟨⟨Nat.le_refl _⟩,trivial⟩,hsT,BR.tt (heq _) ?_⟩⟩
  refine LOOP.ind0 (σ:=List Int×Int) (fun (L,i)=>[(0,.ms 2 0 1 none N),(2,.p (iv i))]) (fun (L,i)=>⟨[{ cells:=[.p (iv x),.tl nb tB b],e:=24,fz:=false },{ cells:=[.p (iv x),.tl none tB b],e:=24,fz:=false },{ cells:=[.arr N tI L],e:=3,fz:=false }],[]⟩) (fun (L,i)=>(k0 - i).toNat) (fun (L,i)=>0≤i∧i≤k0) (T,0) ⟨by show (0:Int)≤0;omega,by show (0:Int)≤k0;omega⟩ (.inl ⟨rfl,rfl⟩) ?_
  intro ⟨L,i⟩ hI X' hX'
  obtain ⟨hI1,hI2⟩:=hI
  have hadd:i<k0→ar .add .i64 i 1=i+1:=fun h=>by rw[r1];exact wrap64 (n:=i+1) (by omega) (by omega)
  cbv
  try simp only[nc_eq]at *
  rw[hic]
  refine BR.lss r0 (fun hc=>?_) fun _=>⟨hsb,BR.tt (heg _ _) ⟨hsl,BR.tt (heq _) hfin⟩⟩
  have hi:INB i k0:=⟨hI1,hc⟩
  rw[hadd hc]
  exact ⟨hi,hi,NEXT.mk (hX' (_,i+1) _ _ ⟨by show 0≤i+1;omega,by show i+1≤k0;omega⟩ (by show (k0 - (i+1)).toNat<(k0 - i).toNat;omega) (.inl ⟨rfl,rfl⟩))⟩
theorem wf_argE {g:tG.den} (h:wfT tG g):ARG g.2.2:=by
 obtain ⟨_,h1,_,h3⟩:=h
 exact ⟨h1,fun y hy=>(wf_u8 (h3 y hy)).1⟩
theorem fits_typed:∀ xs,TyVs Try.prog [24,48] xs→PurFn Try.prog 8 (xs.map .p) (.v (.bool true)):=law2 (P:=Try.prog) (f:=8) (t1:=24) (t2:=48) (T1:=tG) (T2:=.sl tI) (by kernel_rfl) fun g l hg hl=>lawFits g.1 g.2.1 l.1 g.2.2 l.2 (wf_argE hg) hl.1
end Go.Ab
