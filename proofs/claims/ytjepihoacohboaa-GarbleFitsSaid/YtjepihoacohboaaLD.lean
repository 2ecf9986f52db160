/- Fits: the reference's; the program's with a result of the caller's own. -/
import Derived.Test.YtjepihoacohboaaLC
set_option linter.unusedSimpArgs false
set_option linter.unusedVariables false
set_option maxRecDepth 20000
set_option maxHeartbeats 8000000
namespace Go.Ab
open Go.Proofs
theorem cRChkP (x:Int) (nb:Option Bool) (b:List Int) (h:LENB b):PurS Try.prog 20 [injT tG (x,nb,b)] (.p (iv (gchk b))):=cRChk x nb b h.h
theorem pow_is {b:List Int} {y:Int}:powI b y≥0↔isG b y.toNat=true:=by
 unfold powI powR
 split
 ·rename_i h;exact ⟨fun _=>h,fun _=>Int.natCast_nonneg _⟩
 ·rename_i h;exact ⟨fun h=>absurd h (by decide),fun h'=>absurd h' h⟩
theorem cRFits (x:Int) (nb nl:Option Bool) (b l L:List Int) (hL:L=fitL b l) (h:LENB b) (h0:∀ y∈b,0≤y) (hl:LENB l):PurS Try.prog 34 [injT tG (x,nb,b),injT (.sl tI) (nl,l)] (.tup [.tl none tI L,.p (iv (fitE b l))]):=by
 refine PurS.of (S:=[(20,_),(43,_)]) (T:=[]) (U:=[]) (tbl:=[]) (n:=57) hm11 cfg (.cons (spT1.ok (a:=(.pair (.int .i64) (.sl (.int .u8)))) fun x0 h=>cRChkP x0.1 x0.2.1 x0.2.2 h) (.cons (spT2.ok (a:=(.pair (.int .i64) (.sl (.int .u8)))) (b:=(.int .i64)) fun x0 x1 h=>cRPow x0.1 x0.2.1 x0.2.2 x1 h) .nil)) .nil .nil .nil 0 Try.call34 Try.func34 (ac34_ok (some (0,0))) (by rw[Try.ntmps34];exact Nat.le_refl _) rfl ⟨_,rfl⟩ ?_
 intro cmp ar cv tn ic ai mx an ad ml sb mn ln em gt up ap sc vw cp rp p1 p2 s1 s2 X Y hX hY r0 r1 r2 r3 r4 r5 r6 r7 r8 r9 r10 r11 r12 r13 r14 r15 r16 r17 r18 r19 r20 r21 r22 r23 r24
 generalize hg0:gchk=g0
 generalize hg1:fitE=g1
 generalize hg2:powI=g2
 cbv
 have eE:g1 b l=if g0 b≠0 then g0 b else if l.length>64 then 10 else if outA l then 1 else 0:=by rw[←hg0,←hg1];rfl
 have eL:L=if g1 b l=0 then fitF b l else []:=by rw[hL,←hg1];rfl
 have hpw:∀ y,g2 b y≥0↔isG b y.toNat=true:=fun y=>by rw[←hg2];exact pow_is
 have hla:ic (ln tI l)=l.length:=by rw[r4,r12]
 refine ⟨h,BR.neq r0 (fun h1=>?_) fun h1=>?_⟩
 ·rw[if_pos h1]at eE
  rw[eE,if_neg h1]at eL
  exact ⟨⟨nlLe_none.2 trivial,eL⟩,eE.symm,trivial⟩
 rw[if_neg h1]at eE
 rw[hla]
 refine BR.gtr r0 (fun h2=>?_) fun h2=>?_
 ·rw[if_pos (by omega)]at eE
  rw[eE,if_neg (by decide)]at eL
  exact ⟨⟨nlLe_none.2 trivial,eL⟩,eE.symm,trivial⟩
 rw[if_neg (by omega)]at eE
 obtain ⟨w,hw⟩:∃ w,w=outA l:=⟨_,rfl⟩
 rw[←hw]at eE
 have hofp:=gchk_ok h0
 rw[hg0]at hofp
 have hofp:=hofp (Classical.not_not.1 h1)
 obtain ⟨N,hN⟩:∃ N:Int,N=l.length:=⟨_,rfl⟩
 rw[←hN]at hla
 refine LOOP.ind (σ:=Int) (fun k=>[(1,.tl nl tI l),(2,.ptr 0 0),(7,.p (iv k))]) (fun _=>⟨[{ cells:=[.p (iv x),.tl nb tB b],e:=24,fz:=false }],[]⟩) (fun k=>(N - k).toNat) (fun k=>0≤k∧k≤N∧outA (l.drop k.toNat)=w) 0 ⟨by omega,by omega,by rw[hw];rfl⟩ (.inl ⟨rfl,rfl⟩) ?_
 intro k hJ X2 hY
 obtain ⟨hJ1,hJ2,hJ3⟩:=hJ
 obtain ⟨y,hy⟩:∃ y:Int,y=gt tI l k:=⟨_,rfl⟩
 have hst:k<N→w=(decide (y<0∨y>16777215) || outA (l.drop (k+1).toNat)):=fun h=>by
  rw[←hJ3,outA_cons hJ1 (by omega),hy,r14]
 have hend:¬ k<N→w=false:=fun h=>by rw[←hJ3,gtR_end (by omega)];rfl
 have hadd:k<N→ar .add .i64 k 1=k+1:=fun h=>by rw[r1];exact wrap64 (n:=k+1) (by omega) (by omega)
 have hbad:w=true→(nlLe (some true) none∧L=[])∧1=g1 b l∧True:=fun h=>by
  rw[if_pos h]at eE
  rw[eE,if_neg (by decide)]at eL
  exact ⟨⟨nlLe_none.2 trivial,eL⟩,eE.symm,trivial⟩
 cbv
 try simp only[nc_eq]at *
 rw[hla,←hy]
 refine BR.lss r0 (fun hc=>?_) fun hc=>?_
 ·have h3:INB k N:=⟨hJ1,hc⟩
  have hs:=hst hc
  rw[hadd hc]
  refine ⟨h3,h3,BR.lss r0 (fun h4=>hbad (by rw[hs,decide_eq_true (.inl h4)];rfl)) fun h4=>⟨h3,h3,BR.gtr r0 (fun h5=>hbad (by rw[hs,decide_eq_true (.inr h5)];rfl)) fun h5=>?_⟩⟩
  refine NEXT.mk (hY (k+1) _ _ ⟨by omega,by omega,?_⟩ (by show (N - (k+1)).toNat<(N - k).toNat;omega) (.inl ⟨rfl,rfl⟩))
  rw[hs,decide_eq_false (by omega)];rfl
 ·have hwf:=hend hc
  rw[hwf,if_neg (by decide)]at eE
  rw[eE,if_pos rfl]at eL
  clear hbad hY X2 hst hadd hJ1 hJ2 hJ3 hc hend hy y k
  have hin:∀ a∈l,0≤a∧a≤16777215:=fun a ha=>by
   have h2:outA l=false:=by rw[←hw,hwf]
   unfold outA at h2
   rw[List.any_eq_false]at h2
   have:=h2 a ha
   simp only[decide_eq_true_eq]at this
   omega
  refine LOOP.ind (σ:=Int×List Int) (fun (i,O)=>[(1,.tl nl tI l),(2,.ptr 0 0),(8,.og 0 tI O),(9,.p (iv i))]) (fun (i,O)=>⟨[{ cells:=[.p (iv x),.tl nb tB b],e:=24,fz:=false }],[(ml (ln tI O) 1,3)]⟩) (fun (i,_)=>(N - i).toNat) (fun (i,O)=>0≤i∧i≤N∧O.length≤i∧O ++ fitF b (l.drop i.toNat)=L) (0,[]) ⟨by omega,by show (0:Int)≤N;omega,by simp,by rw[eL];rfl⟩ (.inr ⟨[some 0],[none],?_⟩) ?_
  ·rw[SIM_iff];cbv;simp[nlLe_self]
  intro ⟨i,O⟩ hJ X2 hY
  obtain ⟨hJ1,hJ2,hJ3,hJ4⟩:=hJ
  obtain ⟨y,hy⟩:∃ y:Int,y=gt tI l i:=⟨_,rfl⟩
  have hyb:i<N→0≤y∧y≤16777215:=fun h=>hin y (by rw[hy,r14];exact gtR_mem (t:=tI) hJ1 (by omega))
  have hst:i<N→fitF b (l.drop i.toNat)=if isG b y.toNat=true then y :: fitF b (l.drop (i+1).toNat) else fitF b (l.drop (i+1).toNat):=fun h=>by
   rw[gtR_drop (t:=tI) hJ1 (by omega),show gtR tI l i=y by rw[hy,r14]]
   unfold fitF
   rw[List.filter_cons]
  have hend:¬ i<N→O=L:=fun h=>by rw[←hJ4,gtR_end (by omega)];unfold fitF;rw[List.filter_nil,List.append_nil]
  have hadd:i<N→ar .add .i64 i 1=i+1:=fun h=>by rw[r1];exact wrap64 (n:=i+1) (by omega) (by omega)
  have hap:ap tI O [y]=O ++ [y]:=by rw[r16]
  have hll:=hl.h
  have hli:i<N→LIM (ad (ln tI O) (ln tI [y])) 8:=fun h=>by
   rw[r8,r12];show LIM (O.length+1) 8
   exact LIM_iff.2 ⟨by omega,by omega⟩
  have hnn:nlLe none none:=nlLe_none.2 trivial
  have hpy:=hpw y
  clear hpw hin
  cbv
  try simp only[nc_eq]at *
  rw[hla,←hy]
  refine BR.lss r0 (fun hc=>?_) fun hc=>⟨⟨hnn,hend hc⟩,eE.symm,trivial⟩
  have h3:INB i N:=⟨hJ1,hc⟩
  have hb:=hyb hc
  have hs:=hst hc
  rw[hadd hc,hap]
  refine ⟨h3,h3,⟨hofp,hb.1,hb.2⟩,BR.geq r0 (fun h=>?_) fun h=>?_⟩
  ·rw[if_pos (hpy.1 h)]at hs
   refine ⟨h3,h3,⟨rfl⟩,hli hc,NEXT.mk (hY (i+1,O ++ [y]) _ _ ⟨by omega,by omega,by show ((O ++ [y]).length:Int)≤i+1;rw[List.length_append,List.length_singleton];omega,by rw[List.append_assoc,List.singleton_append,←hs];exact hJ4⟩ (by show (N - (i+1)).toNat<(N - i).toNat;omega) (.inl ⟨rfl,rfl⟩))⟩
  ·rw[if_neg (fun h'=>h (hpy.2 h'))]at hs
   refine NEXT.mk (hY (i+1,O) _ _ ⟨by omega,by omega,by show (O.length:Int)≤i+1;omega,by rw[←hs];exact hJ4⟩ (by show (N - (i+1)).toNat<(N - i).toNat;omega) (.inl ⟨rfl,rfl⟩))
theorem OWD.nilT' {t:Ty} {e:TypeId} {l:List t.den} {d:DC} {bs:List BoxS} {st:StS} {y z:PD} (h:OWD t e l d bs) (hl:l=[]) (hyz:y=z) (hy:flatP y=true) {x:DC} (hx:x=.p (.sl (some true) 0 [])):OWNF (.tup [d,.p y]) bs (.tup [x,.p z]) st:=by
 subst hyz;exact h.nilT hl hy hx
theorem OWD.ogT' {t:Ty} {e:TypeId} {l m:List t.den} {d:DC} {bs:List BoxS} {st:StS} {y z:PD} (h:OWD t e l d bs) (hl:l=m) (hyz:y=z) {g:Nat} (hg:nthD st.grp g=some (m.length*t.size,e)) (hf:(t.rows l).all flatP=true) (hy:flatP y=true):OWNF (.tup [d,.p y]) bs (.tup [.og g t m,.p z]) st:=by
 subst hl hyz;exact h.ogT hg hf hy
structure ARF (b l:List Int):Prop where
 h:LENB b
 h0:∀ y∈b,0≤y
 hl:LENB l
theorem cFitsO (x:Int) (nb nl:Option Bool) (b l L:List Int) (E:Int) (hE:E=fitE b l) (hL:L=fitL b l) (h:LENB b) (h0:∀ y∈b,0≤y) (hl:LENB l):OwnL Try.prog 33 ([injT tG (x,nb,b),injT (.sl tI) (nl,l)]) (tI) 3 (L) (shT (iv E)):=by
 refine OwnL.of fun d bs hD=>OwnS.of (S:=[(19,_)]) (T:=[(40,_),(41,_)]) (U:=[]) (tbl:=[(60,ac60 none,[.tmp 4],9),(78,ac78 none,[.tmp 4],19),(61,ac61 none,[.tmp 2],9)]) (n:=43) hm11 cfg (.cons (spT1.ok (a:=(.pair (.int .i64) (.sl (.int .u8)))) fun x0 h=>cGChkP x0.1 x0.2.1 x0.2.2 h) .nil) (.cons cOfT (.cons cSolveT .nil)) .nil (.cons Try.call60 Try.func60 (ac60_ok none) (by rw[Try.ntmps60];exact Nat.le_refl _) (.cons Try.call78 Try.func78 (ac78_ok none) (by rw[Try.ntmps78];exact Nat.le_refl _) (.cons Try.call61 Try.func61 (ac61_ok none) (by rw[Try.ntmps61];exact Nat.le_refl _) .nil))) 6 Try.call33 Try.func33 (ac33_ok (some (0,0))) (by rw[Try.ntmps33];exact Nat.le_refl _) rfl _ _ ?_
 intro cmp ar cv tn ic ai mx an ad ml sb mn ln em gt up ap sc vw cp rp p1 p2 s1 s2 X Y hX hY r0 r1 r2 r3 r4 r5 r6 r7 r8 r9 r10 r11 r12 r13 r14 r15 r16 r17 r18 r19 r20 r21 r22 r23 r24
 generalize hg0:gchk=g0
 generalize hg1:fitE=g1
 cbv
 have eE:E=if g0 b≠0 then g0 b else if l.length>64 then 10 else if outA l then 1 else 0:=by rw[hE,←hg0];rfl
 have eL:L=if E=0 then fitF b l else []:=by rw[hL,hE];rfl
 clear hE hL
 have hla:ic (ln tI l)=l.length:=by rw[r4,r12]
 refine ⟨h,BR.neq r0 (fun h1=>?_) fun h1=>?_⟩
 ·rw[if_pos h1]at eE
  rw[eE,if_neg h1]at eL
  exact hD.nilT' eL (by rw[eE]) rfl rfl
 rw[if_neg h1]at eE
 rw[hla]
 refine BR.gtr r0 (fun h2=>?_) fun h2=>?_
 ·rw[if_pos (by omega)]at eE
  rw[eE,if_neg (by decide)]at eL
  exact hD.nilT' eL (by rw[eE]) rfl rfl
 rw[if_neg (by omega)]at eE
 obtain ⟨w,hw⟩:∃ w,w=outA l:=⟨_,rfl⟩
 rw[←hw]at eE
 have hofp:=gchk_ok h0
 rw[hg0]at hofp
 have hofp:=hofp (Classical.not_not.1 h1)
 obtain ⟨N,hN⟩:∃ N:Int,N=l.length:=⟨_,rfl⟩
 rw[←hN]at hla ⊢
 refine LOOP.ind0 (σ:=Int) (fun k=>[(0,.tl nl tI l),(1,.fn (.func 61) [] []),(7,.p (iv N)),(8,.p (iv k))]) (fun _=>⟨[{ cells:=[.p (iv x),.tl nb tB b],e:=24,fz:=false }],[]⟩) (fun k=>(N - k).toNat) (fun k=>0≤k∧k≤N∧outA (l.drop k.toNat)=w) 0 ⟨by omega,by omega,by rw[hw];rfl⟩ (.inl ⟨rfl,rfl⟩) ?_
 intro k hJ X2 hY
 obtain ⟨hJ1,hJ2,hJ3⟩:=hJ
 obtain ⟨y,hy⟩:∃ y:Int,y=gt tI l k:=⟨_,rfl⟩
 have hst:k<N→w=(decide (y<0∨y>16777215) || outA (l.drop (k+1).toNat)):=fun h=>by
  rw[←hJ3,outA_cons hJ1 (by omega),hy,r14]
 have hend:¬ k<N→w=false:=fun h=>by rw[←hJ3,gtR_end (by omega)];rfl
 have hadd:k<N→ar .add .i64 k 1=k+1:=fun h=>by rw[r1];exact wrap64 (n:=k+1) (by omega) (by omega)
 have hbad:w=true→E=1∧L=[]:=fun h=>by
  rw[if_pos h]at eE
  rw[eE,if_neg (by decide)]at eL
  exact ⟨eE,eL⟩
 cbv
 try simp only[nc_eq]at *
 rw[hla,←hy]
 refine BR.lss r0 (fun hc=>?_) fun hc=>?_
 ·have h3:INB k N:=⟨hJ1,hc⟩
  have hs:=hst hc
  rw[hadd hc]
  refine ⟨h3,h3,BR.lss r0 (fun h4=>?_) fun h4=>BR.gtr r0 (fun h5=>?_) fun h5=>?_⟩
  ·have hw1:=hbad (by rw[hs,decide_eq_true (.inl h4)];rfl)
   exact BR.geq r0 (fun _=>hD.nilT' hw1.2 (by rw[hw1.1]) rfl rfl) fun h=>absurd hJ1 h
  ·have hw1:=hbad (by rw[hs,decide_eq_true (.inr h5)];rfl)
   exact BR.geq r0 (fun _=>hD.nilT' hw1.2 (by rw[hw1.1]) rfl rfl) fun h=>absurd hJ1 h
  ·refine NEXT.mk (hY (k+1) _ _ ⟨by omega,by omega,?_⟩ (by show (N - (k+1)).toNat<(N - k).toNat;omega) (.inl ⟨rfl,rfl⟩))
   rw[hs,decide_eq_false (by omega)];rfl
 ·have hwf:=hend hc
  rw[hwf,if_neg (by decide)]at eE
  rw[eE,if_pos rfl]at eL
  refine BR.geq r0 (fun h=>absurd h (by decide)) fun _=>OFK.mk hofp ?_
  intro B P R F M p f hsys hp hf
  clear hbad hY X2 hst hadd hJ1 hJ2 hJ3 hc hend hy y k
  cbv
  try simp only[nc_eq]at *
  refine ⟨⟨⟨⟨nlLe_self.2 trivial,trivial⟩,trivial⟩,trivial⟩,?_⟩
  have hin:∀ a∈l,0≤a∧a≤16777215:=fun a ha=>by
   have h2:outA l=false:=by rw[←hw,hwf]
   unfold outA at h2
   rw[List.any_eq_false]at h2
   have:=h2 a ha
   simp only[decide_eq_true_eq]at this
   omega
  rw[hla]
  refine LOOP.ind (σ:=Int×List Int) (fun (i,O)=>[(4,.og 2 tI O),(7,.ptr 3 0),(24,.tl nl tI l),(25,.p (iv N)),(26,.p (iv i))]) (fun (i,O)=>⟨[{ cells:=[.p (iv x),.tl nb tB b],e:=24,fz:=false },{ cells:=[.p (iv x),.tl nb tB b],e:=24,fz:=false },{ cells:=[.arr M tB B],e:=5,fz:=false },
   { cells:=[.p (iv x),.tl nb tB b,.ms 2 0 1 none M,.og 0 tI P,.arr 24 tRw R,.og 1 tC F],e:=75,fz:=false }],[(p,3),(f,67),(ml (ln tI O) 1,3)]⟩) (fun (i,_)=>(N - i).toNat) (fun (i,O)=>0≤i∧i≤N∧O.length≤i∧O ++ fitF b (l.drop i.toNat)=L) (0,[]) ⟨by omega,by show (0:Int)≤N;omega,by simp,by rw[eL];rfl⟩ (.inr ⟨[some 0,some 1,some 2,some 3],[some 0,some 1,none],?_⟩) ?_
  ·rw[SIM_iff];cbv;simp[nlLe_self]
  intro ⟨i,O⟩ hJ X2 hY
  obtain ⟨hJ1,hJ2,hJ3,hJ4⟩:=hJ
  obtain ⟨y,hy⟩:∃ y:Int,y=gt tI l i:=⟨_,rfl⟩
  have hyb:i<N→0≤y∧y≤16777215:=fun h=>hin y (by rw[hy,r14];exact gtR_mem (t:=tI) hJ1 (by omega))
  have hst:i<N→fitF b (l.drop i.toNat)=if isG b y.toNat=true then y :: fitF b (l.drop (i+1).toNat) else fitF b (l.drop (i+1).toNat):=fun h=>by
   rw[gtR_drop (t:=tI) hJ1 (by omega),show gtR tI l i=y by rw[hy,r14]]
   unfold fitF
   rw[List.filter_cons]
  have hend:¬ i<N→O=L:=fun h=>by rw[←hJ4,gtR_end (by omega)];unfold fitF;rw[List.filter_nil,List.append_nil]
  have hadd:i<N→ar .add .i64 i 1=i+1:=fun h=>by rw[r1];exact wrap64 (n:=i+1) (by omega) (by omega)
  have hap:ap tI O [y]=O ++ [y]:=by rw[r16]
  have hll:=hl.h
  have hli:i<N→LIM (ad (ln tI O) (ln tI [y])) 8:=fun h=>by
   rw[r8,r12];show LIM (O.length+1) 8
   exact LIM_iff.2 ⟨by omega,by omega⟩
  have hnn:nlLe none none:=nlLe_none.2 trivial
  cbv
  try simp only[nc_eq]at *
  rw[hla,←hy]
  refine BR.lss r0 (fun hc=>?_) fun hc=>?_
  ·have h3:INB i N:=⟨hJ1,hc⟩
   have hb:=hyb hc
   refine ⟨h3,h3,SLK.mk ⟨hsys,hb.1,hb.2⟩ ?_⟩
   intro is a0 a1 hr
   have hrh:=hr.h
   have hs:=hst hc
   rw[←hrh]at hs
   cbv
   try simp only[nc_eq]at *
   rw[hadd hc,hap]
   refine ⟨⟨⟨⟨⟨nlLe_self.2 trivial,trivial⟩,trivial⟩,trivial⟩,trivial⟩,BR.mk (fun h=>?_) fun h=>?_⟩
   ·rw[if_pos h]at hs
    refine ⟨⟨rfl⟩,hli hc,NEXT.mk (hY (i+1,O ++ [y]) _ _ ⟨by omega,by omega,by show ((O ++ [y]).length:Int)≤i+1;rw[List.length_append,List.length_singleton];omega,by rw[List.append_assoc,List.singleton_append,←hs];exact hJ4⟩ (by show (N - (i+1)).toNat<(N - i).toNat;omega) (.inr ⟨[some 0,some 1,some 2,some 3],[some 0,some 1,some 2],?_⟩))⟩
    rw[SIM_iff];cbv;simp[nlLe_self]
   ·rw[if_neg (by rw[h];decide)]at hs
    refine NEXT.mk (hY (i+1,O) _ _ ⟨by omega,by omega,by show (O.length:Int)≤i+1;omega,by rw[←hs];exact hJ4⟩ (by show (N - (i+1)).toNat<(N - i).toNat;omega) (.inr ⟨[some 0,some 1,some 2,some 3],[some 0,some 1,some 2],?_⟩))
    rw[SIM_iff];cbv;simp[nlLe_self]
  ·exact hD.ogT' (hend hc).symm (by rw[eE]) (by simp only[nthD];rw[r12,r9];rfl) (rows_int _) rfl
theorem tFits:∀ ds st K,spOwn (argT2 tG (.sl tI)) (fun x=>ARF x.1.2.2 x.2.2) tI 3 (fun x=>fitL x.1.2.2 x.2.2) (fun x=>shT (iv (fitE x.1.2.2 x.2.2))) OpsS.real 33 ds st K→FnS Try.prog 33 ds st K:=
 spOwn.ok (fun _=>shT.ok _ _) (argT2.ok (a:=tG) (b:=.sl tI) (Q:=fun xs x=>ARF x.1.2.2 x.2.2→OwnL Try.prog 33 xs tI 3 (fitL x.1.2.2 x.2.2) (shT (iv (fitE x.1.2.2 x.2.2)))) (fun _ _ _ he h hp=>(h hp).cong he) fun x y h=>cFitsO x.1 x.2.1 y.1 x.2.2 y.2 _ _ rfl rfl h.h h.h0 h.hl)
end Go.Ab
