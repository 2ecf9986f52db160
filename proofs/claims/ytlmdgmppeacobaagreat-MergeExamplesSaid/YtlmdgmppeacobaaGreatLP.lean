/- One threat: plain laws. -/
import Derived.Test.YtlmdgmppeacobaaGreatLT
set_option linter.unusedSimpArgs false
set_option linter.unusedVariables false
set_option maxRecDepth 20000
set_option maxHeartbeats 4000000
namespace Go.Ab
open Go.Proofs
def lsF (l:List RT) (A:List Bool):Int:=bst (fun i=>[rvT (gtR tR l i)]) A 0 (-1)
def lstE (l:List RT) (A:List Bool):Int:=if l.length=0 then 3 else if l.length≠A.length then 16 else if fe l≠0 then fe l else if lsF l A<0 then 9 else 0
def lstN (l:List RT) (A:List Bool):Int:=if lstE l A=0 then lsF l A else 0
abbrev oneL (n:Option Bool) (c:List RT):List RS:=[(n,c)]
theorem one_col {n:Option Bool} {c:List RT} (b:Int):colL (oneL n c) b=[gtR tR c b]:=rfl
theorem one_row {n:Option Bool} {c:List RT}:row0 (oneL n c)=c:=rfl
theorem one_chk (n:Option Bool) (c:List RT):mchk (oneL n c)=if c.length=0 then 3 else if c.length>6 then 4 else fe c:=by
 unfold mchk
 rw[one_row,if_neg (show ¬ (oneL n c).length=0 from fun h=>by cases h),if_neg (show ¬ (oneL n c).length>8 from fun h=>absurd h (show ¬ 1>8 by decide))]
 have h1:sameL c.length (oneL n c)=true:=by simp[sameL]
 have h2:cat (oneL n c)=c:=by simp[cat]
 rw[if_pos h1,h2]
theorem map_get:∀ (c:List RT) (k:Nat),(List.range c.length).map (fun j:Nat=>gtR tR (List.replicate k tR.dflt ++ c) ((k+j:Nat):Int))=c
 | [],_=>rfl
 | x :: c,k=>by
  rw[List.length_cons,List.range_succ_eq_map,List.map_cons,List.map_map]
  have h1:gtR tR (List.replicate k tR.dflt ++ x :: c) ((k+0:Nat):Int)=x:=by
   unfold gtR
   rw[List.getD_eq_getElem?_getD,Int.toNat_natCast,List.getElem?_append_right (by simp)]
   simp
  have h2:=map_get c (k+1)
  refine List.cons_eq_cons.2 ⟨h1,?_⟩
  conv=>rhs;rw[←h2]
  refine List.map_congr_left fun j _=>?_
  show gtR tR (List.replicate k tR.dflt ++ x :: c) ((k+(j+1):Nat):Int)=_
  unfold gtR
  rw[List.getD_eq_getElem?_getD,List.getD_eq_getElem?_getD,Int.toNat_natCast,Int.toNat_natCast,List.getElem?_append_right (by simp),List.getElem?_append_right (by simp)]
  simp only[List.length_replicate]
  rw[show k+(j+1) - k=j+1 by omega,show k+1+j - (k+1)=j by omega];rfl
theorem one_rsL (n:Option Bool) (c:List RT):∀ (k:Nat) (i:Int),rsL (oneL n c) k i=(List.range k).map fun j:Nat=>gtR tR c (i+(j:Int))
 | 0,_=>rfl
 | k+1,i=>by
  rw[rsL,one_rsL n c k (i+1),List.range_succ_eq_map,List.map_cons,List.map_map]
  have h1:cmF (oneL n c) i=gtR tR c i:=rfl
  rw[h1]
  refine List.cons_eq_cons.2 ⟨by show _=gtR tR c (i+((0:Nat):Int));rw[Int.natCast_zero,Int.add_zero],List.map_congr_left fun j _=>?_⟩
  show gtR tR c (i+1+j)=gtR tR c (i+((j+1:Nat):Int))
  rw[show i+1+(j:Int)=i+((j+1:Nat):Int) by omega]
theorem one_rsE (n:Option Bool) (c:List RT):∀ (k:Nat) (i:Int),rsE (oneL n c) k i=0
 | 0,_=>rfl
 | k+1,i=>by
  rw[rsE,if_neg (fun h=>h (by rfl)),one_rsE n c k (i+1)]
theorem one_sum {n:Option Bool} {c:List RT} (h:MC (oneL n c)):sumE (oneL n c)=mchk (oneL n c)∧(mchk (oneL n c)=0→sumL (oneL n c)=cpRs c):=by
 obtain ⟨h1,h2⟩:=h.sum
 have e:rsumE (oneL n c)=mchk (oneL n c):=by
  unfold rsumE
  by_cases hc:mchk (oneL n c)≠0
  ·rw[if_pos hc]
  ·rw[if_neg hc,one_rsE];exact (Classical.not_not.1 hc).symm
 refine ⟨h1.trans e,fun hc=>?_⟩
 rw[h2]
 unfold rsumL
 rw[e,if_pos hc,one_row,one_rsL]
 have:=map_get c 0
 simp only[List.replicate_zero,List.nil_append,Nat.zero_add]at this
 simp only[Int.zero_add]
 rw[this]
theorem one_wor {n:Option Bool} {c:List RT} (h:MC (oneL n c)):worE (oneL n c)=mchk (oneL n c)∧(mchk (oneL n c)=0→worL (oneL n c)=cpRs c):=by
 obtain ⟨h1,h2⟩:=h.wor
 refine ⟨h1,fun hc=>?_⟩
 rw[h2,if_pos hc,one_row]
 have:=map_get c 0
 simp only[List.replicate_zero,List.nil_append,Nat.zero_add]at this
 conv=>rhs;unfold cpRs;rw[←this]
 rw[List.map_map];rfl
theorem bst_congr {f g:Int→List Rat}:∀ (A:List Bool) (i best:Int),(best<0∨f best=g best)→(∀ j:Int,i≤j→j<i+A.length→f j=g j)→bst f A i best=bst g A i best
 | [],_,_,_,_=>rfl
 | a :: A,i,best,hb,h=>by
  have hi:f i=g i:=h i (Int.le_refl _) (by rw[List.length_cons];omega)
  rw[bst,bst]
  have e:(best<0∨cmpV (f i) (f best)<0)↔(best<0∨cmpV (g i) (g best)<0):=by
   rcases hb with hb | hb
   ·simp[hb]
   ·rw[hi,hb]
  simp only[e]
  refine bst_congr A (i+1) _ ?_ fun j j0 j1=>h j (by omega) (by rw[List.length_cons];omega)
  split
  ·exact .inr hi
  ·exact hb
theorem srtD_one (x:RT):srtD [x]=[x]:=List.mergeSort_singleton ..
theorem one_val {n:Option Bool} {c:List RT} (b:Int):valP (oneL n c) b=[rvT (gtR tR c b)]:=by
 unfold valP proL
 rw[one_col]
 show List.map rvT (srtD [clR _])=_
 rw[srtD_one];rfl
theorem one_best {n:Option Bool} {c:List RT} {A:List Bool} (hc:mchk (oneL n c)=0):bstE (oneL n c) A=lstE c A∧bstN (oneL n c) A=lstN c A:=by
 have h0:¬ c.length=0∧fe c=0:=by
  rw[one_chk]at hc
  by_cases h1:c.length=0
  ·rw[if_pos h1]at hc;exact absurd hc (by decide)
  ·rw[if_neg h1]at hc
   by_cases h2:c.length>6
   ·rw[if_pos h2]at hc;exact absurd hc (by decide)
   ·rw[if_neg h2]at hc;exact ⟨h1,hc⟩
 have hb:bst (valP (oneL n c)) A 0 (-1)=lsF c A:=bst_congr A 0 (-1) (.inl (by decide)) fun j _ _=>one_val j
 have e:bstE (oneL n c) A=lstE c A:=by
  unfold bstE lstE
  rw[if_neg (fun h=>h hc),one_row,hb,if_neg h0.1,if_neg (fun h:fe c≠0=>h h0.2)]
  by_cases h:A.length≠c.length
  ·rw[if_pos h,if_pos (fun h2=>h h2.symm)]
  ·rw[if_neg h,if_neg (show ¬ c.length≠A.length from fun h2=>h fun h3=>h2 h3.symm)]
 refine ⟨e,?_⟩
 unfold bstN lstN
 rw[e,hb]
theorem jnF_first {l:List AT} {lo hi:Int}:∀ (n:Nat) (b best:Int),0≤best→best<b→(∀ j:Int,0≤j→j<b→¬ (excA l lo hi j<excA l lo hi best∨(excA l lo hi j=excA l lo hi best∧widA l j>widA l best))) →
  (∀ j:Int,0≤j→j<best→excA l lo hi best<excA l lo hi j∨(excA l lo hi best=excA l lo hi j∧widA l best>widA l j)) →
  (∀ j:Int,0≤j→j<b+n→¬ (excA l lo hi j<excA l lo hi (jnF l lo hi n b best)∨(excA l lo hi j=excA l lo hi (jnF l lo hi n b best)∧widA l j>widA l (jnF l lo hi n b best)))) ∧
  ∀ j:Int,0≤j→j<jnF l lo hi n b best→excA l lo hi (jnF l lo hi n b best)<excA l lo hi j∨(excA l lo hi (jnF l lo hi n b best)=excA l lo hi j∧widA l (jnF l lo hi n b best)>widA l j)
 | 0,b,best,h0,h1,h2,h3=>by rw[jnF];exact ⟨fun j j0 j1=>h2 j j0 (by omega),h3⟩
 | n+1,b,best,h0,h1,h2,h3=>by
  rw[jnF,show b+((n+1:Nat):Int)=(b+1)+(n:Int) by omega]
  obtain ⟨e0,he0⟩:∃ e,e=excA l lo hi b:=⟨_,rfl⟩
  obtain ⟨w0,hw0⟩:∃ e,e=widA l b:=⟨_,rfl⟩
  refine jnF_first n (b+1) _ (by split <;> omega) (by split <;> omega) (fun j j0 j1=>?_) fun j j0 j1=>?_
  ·by_cases hj:j=b
   ·subst hj;split <;> omega
   ·have:=h2 j j0 (by omega)
    split <;> omega
  ·split at j1
   ·rename_i hc
    rw[if_pos hc]
    have:=h2 j j0 (by omega)
    omega
   ·rename_i hc
    rw[if_neg hc]
    exact h3 j j0 j1
theorem join_one {l:List AT} {n:Int} (h:advE l=0) (n0:0≤n) (n1:n<l.length):bndE l [n]=0∧0≤joinN l [n]∧joinN l [n]<l.length∧joinN l [n]≤n∧ownA l (joinN l [n])=ownA l n:=by
 have hE:bndE l [n]=0:=by
  unfold bndE
  rw[if_neg (fun h1=>h1 h),if_neg (by simp),if_neg (by simp),if_pos (okI_iff.2 fun x hx=>by simp at hx;subst hx;exact ⟨n0,n1⟩)]
 obtain ⟨k1,k2,k3⟩:=join_ok hE
 have ho:=own_ok h n0 n1
 have hlo:bndLo l [n]=(ownA l n).1:=by unfold bndLo;rw[if_pos hE,loF,loF];omega
 have hhi:bndHi l [n]=(ownA l n).2:=by unfold bndHi;rw[if_pos hE,hiF,hiF];omega
 have hK:joinN l [n]=jnF l (ownA l n).1 (ownA l n).2 (l.length - 1) 1 0:=by unfold joinN;rw[if_pos hE,hlo,hhi]
 have hs:=jnF_first (l:=l) (lo:=(ownA l n).1) (hi:=(ownA l n).2) (l.length - 1) 1 0 (Int.le_refl _) (by decide) (fun j j0 j1=>by
  have:j=0:=by omega
  subst this;omega) (fun j j0 j1=>by omega)
 rw[←hK]at hs
 have hk:=own_ok h k1 k2
 have hn:=hs.1 n n0 (by omega)
 have hex:excA l (ownA l n).1 (ownA l n).2 n=0:=by unfold excA;omega
 have hw:widA l n=(ownA l n).2 - (ownA l n).1:=rfl
 have hwk:widA l (joinN l [n])=(ownA l (joinN l [n])).2 - (ownA l (joinN l [n])).1:=rfl
 have hek:excA l (ownA l n).1 (ownA l n).2 (joinN l [n])=max 0 ((ownA l n).1 - (ownA l (joinN l [n])).1)+max 0 ((ownA l (joinN l [n])).2 - (ownA l n).2):=rfl
 have heq:ownA l (joinN l [n])=ownA l n:=by
  refine Prod.ext ?_ ?_ <;> omega
 refine ⟨hE,k1,k2,?_,heq⟩
 refine Int.not_lt.1 fun hlt=>?_
 have:=hs.2 n n0 hlt
 rw[heq]at hek hwk
 omega
end Go.Ab
namespace Go.Ab
open Go.Proofs
structure SZ2 (l:List RT):Prop where
 n:l.length≤2000
 s:SZ 2000 l
theorem cChkC (nl:Option Bool) (l:List RT) (h:SZ2 l):PurS Tryz.prog 60 [injT tRs (nl,l)] (.p (iv (fe l))):=by
 refine PurS.of (S:=[(57,_)]) (T:=[]) (U:=[]) (tbl:=[]) (n:=18) hm31 cfg (.cons (spT1.ok (a:=(.pair .bool (.pair (.sl (.int .u32)) (.sl (.int .u32))))) fun x0 h=>cRatChk x0.1 x0.2.1.1 x0.2.1.2 x0.2.2.1 x0.2.2.2 h) .nil) .nil .nil .nil 0 Tryz.call60 Tryz.func60 (ac60_ok (some (0,0))) (by rw[Tryz.ntmps60];exact Nat.le_refl _) rfl ⟨_,rfl⟩ ?_
 intro cmp ar cv tn ic ai mx an ad ml sb mn ln em gt up ap sc vw cp rp p1 p2 s1 s2 X Y hX hY r0 r1 r2 r3 r4 r5 r6 r7 r8 r9 r10 r11 r12 r13 r14 r15 r16 r17 r18 r19 r20 r21 r22 r23 r24
 generalize hg0:rchk=g0
 generalize hg1:fe=g1
 cbv
 have hn:=h.n
 obtain ⟨N,hN⟩:∃ N:Int,N=l.length:=⟨_,rfl⟩
 have hll:ic (ln tR l)=N:=by rw[r4,r12,hN]
 obtain ⟨z,hz⟩:∃ z,z=g1 l:=⟨_,rfl⟩
 have hz':z=fe l:=by rw[hz,←hg1]
 rw[←hz,hll]
 refine LOOP.ind (σ:=Int) (fun i=>[(6,.tl nl tR l),(7,.p (iv N)),(8,.p (iv i))]) (fun _=>⟨[],[]⟩) (fun i=>(N - i).toNat) (fun i=>0≤i∧i≤N∧fe (l.drop i.toNat)=z) 0 ⟨by omega,by omega,hz'.symm⟩ (.inl ⟨rfl,rfl⟩) ?_
 intro i ⟨i0,i1,i2⟩ X' hX
 obtain ⟨x,hx⟩:∃ x:RT,x=gt tR l i:=⟨_,rfl⟩
 obtain ⟨w,hw⟩:∃ w,w=fe (l.drop (i+1).toNat):=⟨_,rfl⟩
 obtain ⟨c,hc⟩:∃ c,c=g0 x.1 x.2.1.2 x.2.2.2:=⟨_,rfl⟩
 have hcc:c=rck x:=by rw[hc,←hg0];rfl
 have hst:i<N→z=if c≠0 then c else w:=fun h1=>by
  rw[←i2,gtR_drop (t:=tR) i0 (by omega),show gtR tR l i=x by rw[hx,r14],hw,hcc];rfl
 have hse:¬ i<N→z=0:=fun h1=>by rw[←i2,gtR_end (by omega)];rfl
 have hck:i<N→CKP x.2.1.2 x.2.2.2:=fun h1=>by
  obtain ⟨q1,q2,q3,q4⟩:=h.s.h x (by rw[hx,r14];exact gtR_mem (t:=tR) i0 (by omega))
  exact ⟨q1,q2,by omega,by omega⟩
 have hi1:i<N→ar .add .i64 i 1=i+1:=fun h2=>by rw[r1];exact wrap64 (n:=i+1) (by omega) (by omega)
 have hnx:∀ B,i<N→w=z→NEXT X' [(6,.tl nl tR l),(7,.p (iv N)),(8,.p (iv (i+1)))] ⟨[B],[]⟩:=fun B h1 h2=>NEXT.mk (hX (i+1) _ _ ⟨by omega,by omega,by rw[←hw];exact h2⟩ (by show (N - (i+1)).toNat<(N - i).toNat;omega) (.inr ⟨[],[],by rw[SIM_iff];cbv;simp[nlLe_self]⟩))
 clear hX i2 hw hcc hz'
 obtain ⟨s,⟨na',a'⟩,⟨nb',b'⟩⟩:=x
 dsimp only at hc hck
 cbv
 try simp only[nc_eq]at *
 rw[hll,←hx]
 simp only[r21,r22,r23,r24]
 rw[←hc]
 refine BR.lss r0 (fun h1=>?_) (fun h1=>(hse h1).symm)
 have hI:INB i N:=⟨i0,h1⟩
 have hst:=hst h1
 rw[hi1 h1]
 refine ⟨hI,hI,hck h1,BR.neq r0 (fun h2=>?_) (fun h2=>hnx _ h1 ?_)⟩
 ·rw[if_pos h2]at hst;exact hst.symm
 ·rw[if_neg h2]at hst;exact hst.symm
theorem cLeast (nl:Option Bool) (l:List RT) (na:Option Bool) (A:List Bool) (h:SZ2 l):PurS Tryz.prog 33 [injT tRs (nl,l),injT (.sl .bool) (na,A)] (.tup [.p (iv (lstN l A)),.p (iv (lstE l A))]):=by
 refine PurS.of (S:=[(60,_),(32,_)]) (T:=[]) (U:=[]) (tbl:=[(61,ac61 none (some (6,0)),[.cell 4 none,.cell 5 none],24),(62,ac62 none,[.tmp 4],6),(90,ac90 none,[],39),(63,ac63 none,[.tmp 4],15)]) (n:=35) hm31 cfg (.cons (spT1.ok (a:=(.sl (.pair .bool (.pair (.sl (.int .u32)) (.sl (.int .u32)))))) fun x0 h=>cChkC x0.1 x0.2 h) (.cons (spT2.ok (a:=(.pair .bool (.pair (.sl (.int .u32)) (.sl (.int .u32))))) (b:=(.pair .bool (.pair (.sl (.int .u32)) (.sl (.int .u32))))) fun x0 x1 h=>cRCmp x0.1 x0.2.1.1 x0.2.1.2 x0.2.2.1 x0.2.2.2 x1.1 x1.2.1.1 x1.2.1.2 x1.2.2.1 x1.2.2.2 h) .nil)) .nil .nil (.cons Tryz.call61 Tryz.func61 (ac61_ok none (some (6,0))) (by rw[Tryz.ntmps61];exact Nat.le_refl _) (.cons Tryz.call62 Tryz.func62 (ac62_ok none) (by rw[Tryz.ntmps62];exact Nat.le_refl _) (.cons Tryz.call90 Tryz.func90 (ac90_ok none) (by rw[Tryz.ntmps90];exact Nat.le_refl _) (.cons Tryz.call63 Tryz.func63 (ac63_ok none) (by rw[Tryz.ntmps63];exact Nat.le_refl _) .nil)))) 6 Tryz.call33 Tryz.func33 (ac33_ok (some (0,0))) (by rw[Tryz.ntmps33];exact Nat.le_refl _) rfl ⟨_,rfl⟩ ?_
 intro cmp ar cv tn ic ai mx an ad ml sb mn ln em gt up ap sc vw cp rp p1 p2 s1 s2 X Y hX hY r0 r1 r2 r3 r4 r5 r6 r7 r8 r9 r10 r11 r12 r13 r14 r15 r16 r17 r18 r19 r20 r21 r22 r23 r24
 generalize hg0:fe=g0
 generalize hg1:cmR=g1
 generalize hg2:cmE=g2
 generalize hg3:lstN=g3
 generalize hg4:lstE=g4
 cbv
 have hn:=h.n
 obtain ⟨N,hN⟩:∃ N:Int,N=l.length:=⟨_,rfl⟩
 have hll:ic (ln tR l)=N:=by rw[r4,r12,hN]
 obtain ⟨M,hM⟩:∃ N:Int,N=A.length:=⟨_,rfl⟩
 have hla:ic (ln .bool A)=M:=by rw[r4,r12,hM]
 have e0:g0 l=fe l:=by rw[←hg0]
 have e4:g4 l A=if l.length=0 then 3 else if l.length≠A.length then 16 else if fe l≠0 then fe l else if lsF l A<0 then 9 else 0:=by rw[←hg4];rfl
 have e3:g3 l A=if g4 l A=0 then lsF l A else 0:=by rw[←hg3,←hg4];rfl
 rw[hll,hla]
 refine BR.eql r0 (fun h1=>?_) (fun h1=>BR.neq r0 (fun h2=>?_) (fun h2=>⟨h,BR.neq r0 (fun h3=>?_) (fun h3=>?_)⟩))
 ·rw[if_pos (by omega)]at e4
  rw[e4,if_neg (by decide)]at e3
  exact ⟨e3.symm,e4.symm,trivial⟩
 ·rw[if_neg (by omega),if_pos (by omega)]at e4
  rw[e4,if_neg (by decide)]at e3
  exact ⟨e3.symm,e4.symm,trivial⟩
 ·rw[if_neg (by omega),if_neg (by omega),←e0,if_pos h3]at e4
  rw[e4,if_neg h3]at e3
  exact ⟨e3.symm,e4.symm,trivial⟩
 have hfe:fe l=0:=by rw[←e0];exact Classical.not_not.1 h3
 rw[if_neg (by omega),if_neg (by omega),if_neg (fun h=>h hfe)]at e4
 refine ALLY.mk fun y=>?_
 cbv
 try simp only[nc_eq]at *
 rw[hll]
 obtain ⟨B,hB⟩:∃ B,B=lsF l A:=⟨_,rfl⟩
 rw[←hB]at e3 e4
 refine LOOP.ind (σ:=(Bool×Int×Bool×Option Bool×List Int×Option Bool×List Int)×Int) (fun (_,i)=>[(0,.fn (.yield y) [] []),(2,.ptr 1 0),(9,.tl nl tR l),(10,.p (iv N)),(11,.p (iv i))])
  (fun ((fd,K,s,na',a',nb',b'),_)=>⟨[{ cells:=[.tl nl tR l],e:=27,fz:=false },{ cells:=[.tl (some false) (.sl .bool) [(na,A)]],e:=121,fz:=false },{ cells:=[.fn (.func 63) [] []],e:=76,fz:=false },{ cells:=[.p (iv K)],e:=3,fz:=false },{ cells:=[.p (.v (.bool fd))],e:=4,fz:=false },{ cells:=[.sb s,.tl na' tW a',.tl nb' tW b'],e:=49,fz:=false }],[]⟩) (fun (_,i)=>(N - i).toNat)
  (fun ((fd,K,s,na',a',nb',b'),i)=>0≤i∧i≤N∧bst (fun i=>[rvT (gtR tR l i)]) (A.drop i.toNat) i (if fd=true then K else -1)=B∧(fd=true→0≤K∧K<i∧(s,(na',a'),(nb',b'))=gtR tR l K)) ((false,0,false,none,[],none,[]),0) ⟨by omega,by show (0:Int)≤N;omega,hB.symm,fun h=>by cases h⟩ (.inr ⟨[some 0,some 1,some 2,some 3,some 4,some 5],[],?_⟩) ?_
 ·rw[SIM_iff];cbv;simp[nlLe_self,nlLe_none,lstEq]
 intro ⟨⟨fd,K,s,na',a',nb',b'⟩,i⟩ ⟨i0,i1,i2,i3⟩ X' hX
 obtain ⟨av,hav⟩:∃ a:Bool,a=gt .bool A i:=⟨_,rfl⟩
 obtain ⟨x,hx⟩:∃ x:RT,x=gt tR l i:=⟨_,rfl⟩
 have hi1:i<N→ar .add .i64 i 1=i+1:=fun h2=>by rw[r1];exact wrap64 (n:=i+1) (by omega) (by omega)
 have hVT:∀ j:Int,0≤j→j<N→VT (gtR tR l j):=fun j j0 j1=>by
  have hm:=gtR_mem (t:=tR) (l:=l) j0 (by omega)
  obtain ⟨q1,q2,_,_⟩:=h.s.h _ hm
  exact ⟨(rchk_ok q1 q2).1 (fe_ok hfe _ hm)⟩
 have hxl:x=gtR tR l i:=by rw[hx,r14]
 have e1:∀ j k:Int,cmpV [rvT (gtR tR l j)] [rvT (gtR tR l k)]<0↔rvT (gtR tR l j)<rvT (gtR tR l k):=fun j k=>by
  rw[cmpV_cons]
  constructor
  ·rintro (h2 | ⟨_,h2⟩)
   ·exact h2
   ·exact absurd h2 (by decide)
  ·exact .inl
 have hgA:gt (.sl .bool) [(na,A)] 0=(na,A):=by rw[r14];rfl
 have hs2:s2 .bool (na,A)=A:=by rw[r24]
 have hone:ic (ln (.sl .bool) [(na,A)])=1:=by rw[r4,r12];rfl
 have har1:ar .add .i64 0 1=1:=by rw[r1];rfl
 have hI1:INB 0 1:=⟨by decide,by decide⟩
 have hsim:∀ (fd':Bool) (K':Int) (s1:Bool) (n1:Option Bool) (x1:List Int) (n2:Option Bool) (x2:List Int) G,i<N→bst (fun i=>[rvT (gtR tR l i)]) (A.drop (i+1).toNat) (i+1) (if fd'=true then K' else -1)=B→(fd'=true→0≤K'∧K'<i+1∧(s1,(n1,x1),(n2,x2))=gtR tR l K') →
   NEXT X' [(0,.fn (.yield y) [] []),(2,.ptr 1 0),(9,.tl nl tR l),(10,.p (iv N)),(11,.p (iv (i+1)))] ⟨{ cells:=[.tl nl tR l],e:=27,fz:=false } :: { cells:=[.tl (some false) (.sl .bool) [(na,A)]],e:=121,fz:=false } :: { cells:=[.fn (.func 63) [] []],e:=76,fz:=false } :: { cells:=[.p (iv K')],e:=3,fz:=false } :: { cells:=[.p (.v (.bool fd'))],e:=4,fz:=false } :: { cells:=[.sb s1,.tl n1 tW x1,.tl n2 tW x2],e:=49,fz:=false } :: G,[]⟩:=fun fd' K' s1 n1 x1 n2 x2 G h1 h2 h3=>by
  refine NEXT.mk (hX ((fd',K',s1,n1,x1,n2,x2),i+1) _ _ ⟨by omega,by show i+1≤N;omega,h2,h3⟩ (by show (N - (i+1)).toNat<(N - i).toNat;omega) (.inr ⟨[some 0,some 1,some 2,some 3,some 4,some 5],[],?_⟩))
  rw[SIM_iff];cbv;simp[nlLe_self]
 clear hX
 cases fd
 ·simp only[Bool.false_eq_true,if_false]at i2
  have hstep:i<N→bst (fun i=>[rvT (gtR tR l i)]) (A.drop (i+1).toNat) (i+1) (if av=true then i else -1)=B:=fun h1=>by
   rw[gtR_drop (t:=.bool) i0 (by omega),bst]at i2
   have e:(av=true)↔(gtR .bool A i=true∧((-1:Int)<0∨cmpV [rvT (gtR tR l i)] [rvT (gtR tR l (-1))]<0)):=by
    rw[hav,r14];simp
   simp only[e]
   exact i2
  have hend:¬ i<N→-1=B:=fun h1=>by rw[gtR_end (by omega),bst]at i2;exact i2
  have hno:i<N→¬ av=true→∀ G,NEXT X' [(0,.fn (.yield y) [] []),(2,.ptr 1 0),(9,.tl nl tR l),(10,.p (iv N)),(11,.p (iv (i+1)))] ⟨{ cells:=[.tl nl tR l],e:=27,fz:=false } :: { cells:=[.tl (some false) (.sl .bool) [(na,A)]],e:=121,fz:=false } :: { cells:=[.fn (.func 63) [] []],e:=76,fz:=false } :: { cells:=[.p (iv K)],e:=3,fz:=false } :: { cells:=[.p (.v (.bool false))],e:=4,fz:=false } :: { cells:=[.sb s,.tl na' tW a',.tl nb' tW b'],e:=49,fz:=false } :: G,[]⟩:=fun h1 h2 G=>hsim false K s na' a' nb' b' G h1 (by have:=hstep h1;rw[if_neg h2]at this;rw[if_neg (by decide)];exact this) (fun h=>by cases h)
  have hyes:i<N→av=true→∀ G,NEXT X' [(0,.fn (.yield y) [] []),(2,.ptr 1 0),(9,.tl nl tR l),(10,.p (iv N)),(11,.p (iv (i+1)))] ⟨{ cells:=[.tl nl tR l],e:=27,fz:=false } :: { cells:=[.tl (some false) (.sl .bool) [(na,A)]],e:=121,fz:=false } :: { cells:=[.fn (.func 63) [] []],e:=76,fz:=false } :: { cells:=[.p (iv i)],e:=3,fz:=false } :: { cells:=[.p (.v (.bool true))],e:=4,fz:=false } :: { cells:=[.sb x.1,.tl x.2.1.1 tW x.2.1.2,.tl x.2.2.1 tW x.2.2.2],e:=49,fz:=false } :: G,[]⟩:=fun h1 h2 G=>hsim true i x.1 x.2.1.1 x.2.1.2 x.2.2.1 x.2.2.2 G h1 (by have:=hstep h1;rw[if_pos h2]at this;rw[if_pos rfl];exact this) (fun _=>⟨i0,by omega,by rw[←hxl]⟩)
  clear hsim hstep hVT e1 i2 i3
  obtain ⟨s',⟨nc',c'⟩,⟨nd',d'⟩⟩:=x
  dsimp only at hyes
  have f1:p1 .bool (.pair tN tN) (s',(nc',c'),(nd',d'))=s':=by rw[r21]
  have f2:p2 .bool (.pair tN tN) (s',(nc',c'),(nd',d'))=((nc',c'),(nd',d')):=by rw[r22]
  have f3:p1 tN tN ((nc',c'),(nd',d'))=(nc',c'):=by rw[r21]
  have f4:p2 tN tN ((nc',c'),(nd',d'))=(nd',d'):=by rw[r22]
  have f5:s1 tW (nc',c')=nc':=by rw[r23]
  have f6:s2 tW (nc',c')=c':=by rw[r24]
  have f7:s1 tW (nd',d')=nd':=by rw[r23]
  have f8:s2 tW (nd',d')=d':=by rw[r24]
  cbv
  try simp only[nc_eq]at *
  rw[hll,←hx,hone]
  simp only[f1,f2,f3,f4,f5,f6,f7,f8]
  refine BR.lss r0 (fun h1=>⟨⟨i0,h1⟩,⟨i0,h1⟩,?_⟩) (fun h1=>?_)
  ·have hno:=hno h1
   have hyes:=hyes h1
   refine LOOP.ind (σ:=Bool×Int) (fun (m,j)=>[(0,.fn (.yield y) [] []),(2,.ptr 1 0),(4,.p (iv i)),(5,.ptr 6 0),(6,.p (.v (.bool m))),(9,.tl nl tR l),(10,.p (iv N)),(11,.p (iv i)),(16,.tl (some false) (.sl .bool) [(na,A)]),(17,.p (iv 1)),(18,.p (iv j))]) (fun _=>⟨[{ cells:=[.tl nl tR l],e:=27,fz:=false },{ cells:=[.tl (some false) (.sl .bool) [(na,A)]],e:=121,fz:=false },{ cells:=[.fn (.func 63) [] []],e:=76,fz:=false },{ cells:=[.p (iv K)],e:=3,fz:=false },{ cells:=[.p (.v (.bool false))],e:=4,fz:=false },{ cells:=[.sb s,.tl na' tW a',.tl nb' tW b'],e:=49,fz:=false },{ cells:=[.sb s',.tl nc' tW c',.tl nd' tW d'],e:=49,fz:=false }],[]⟩) (fun (_,j)=>(1 - j).toNat)
    (fun (m,j)=>(j=0∧m=true)∨(j=1∧m=av)) (true,0) (.inl ⟨rfl,rfl⟩) (.inl ⟨rfl,rfl⟩) ?_
   intro ⟨m,j⟩ hmj X2 hX2
   rcases hmj with ⟨hj,hm⟩ | ⟨hj,hm⟩
   ·subst hj hm
    have hn2:∀ mv:Bool,mv=av→NEXT X2 [(0,.fn (.yield y) [] []),(2,.ptr 1 0),(4,.p (iv i)),(5,.ptr 6 0),(6,.p (.v (.bool mv))),(9,.tl nl tR l),(10,.p (iv N)),(11,.p (iv i)),(16,.tl (some false) (.sl .bool) [(na,A)]),(17,.p (iv 1)),(18,.p (iv 1))] ⟨[{ cells:=[.tl nl tR l],e:=27,fz:=false },{ cells:=[.tl (some false) (.sl .bool) [(na,A)]],e:=121,fz:=false },{ cells:=[.fn (.func 63) [] []],e:=76,fz:=false },{ cells:=[.p (iv K)],e:=3,fz:=false },{ cells:=[.p (.v (.bool false))],e:=4,fz:=false },{ cells:=[.sb s,.tl na' tW a',.tl nb' tW b'],e:=49,fz:=false },{ cells:=[.sb s',.tl nc' tW c',.tl nd' tW d'],e:=49,fz:=false }],[]⟩:=fun mv h=>NEXT.mk (hX2 (mv,1) _ _ (.inr ⟨rfl,h⟩) (by show (1 - 1:Int).toNat<(1 - 0:Int).toNat;decide) (.inl ⟨rfl,rfl⟩))
    clear hX2 hno hyes
    cbv
    try simp only[nc_eq]at *
    rw[hone,hgA,hs2,hla,←hav,har1]
    have hIi:INB i M:=⟨i0,by omega⟩
    refine BR.lss r0 (fun _=>⟨hI1,hI1,hIi,hIi,BR.mk (fun h2=>hn2 true h2.symm) (fun h2=>hn2 false h2.symm)⟩) (fun h=>absurd (by decide) h)
   ·subst hj hm
    clear hX2
    cases m
    all_goals
     cbv
     try simp only[nc_eq]at *
     refine BR.lss r0 (fun h=>absurd h (by decide)) (fun _=>?_)
     try rw[hi1 h1]
    ·first | exact hno (by decide) _ | exact hno (by simp) _
    ·first | exact hyes rfl _ | exact hyes trivial _
  ·have:=hend h1
   rw[←this,if_pos (by decide)]at e4
   rw[e4,if_neg (by decide)]at e3
   exact ⟨e3.symm,e4.symm,trivial⟩
 ·simp only[if_true,forall_const]at i2 i3
  obtain ⟨k0,k1,k2⟩:=i3
  obtain ⟨z,hz⟩:∃ z,z=cmQ (rvT x) (rvT (gtR tR l K)):=⟨_,rfl⟩
  have hg1':i<N→g1 x.1 x.2.1.2 x.2.2.2 s a' b'=z∧CK2 x.2.1.2 x.2.2.2 a' b':=fun h2=>by
   have v1:=hVT i i0 h2
   have v2:=hVT K k0 (by omega)
   rw[←hxl]at v1
   have e1:=v1.cm v2
   have e2:=v1.ckp
   have e3:=v2.ckp
   rw[←k2]at e1 e3
   rw[←hg1,hz,←k2]
   exact ⟨e1,⟨e2,e3⟩⟩
  have hzl:z<0↔rvT (gtR tR l i)<rvT (gtR tR l K):=by rw[hz,cmQ_lt,hxl]
  have hstep:i<N→bst (fun i=>[rvT (gtR tR l i)]) (A.drop (i+1).toNat) (i+1) (if av=true∧z<0 then i else K)=B:=fun h1=>by
   rw[gtR_drop (t:=.bool) i0 (by omega),bst]at i2
   simp only[e1]at i2
   have e:(av=true∧z<0)↔(gtR .bool A i=true∧(K<0∨rvT (gtR tR l i)<rvT (gtR tR l K))):=by
    rw[hav,r14,hzl]
    constructor
    ·exact fun h2=>⟨h2.1,.inr h2.2⟩
    ·rintro ⟨h2,h3 | h3⟩
     ·omega
     ·exact ⟨h2,h3⟩
   simp only[e]
   exact i2
  have hend:¬ i<N→K=B:=fun h1=>by rw[gtR_end (by omega),bst]at i2;exact i2
  have hno:i<N→¬ (av=true∧z<0)→∀ G,NEXT X' [(0,.fn (.yield y) [] []),(2,.ptr 1 0),(9,.tl nl tR l),(10,.p (iv N)),(11,.p (iv (i+1)))] ⟨{ cells:=[.tl nl tR l],e:=27,fz:=false } :: { cells:=[.tl (some false) (.sl .bool) [(na,A)]],e:=121,fz:=false } :: { cells:=[.fn (.func 63) [] []],e:=76,fz:=false } :: { cells:=[.p (iv K)],e:=3,fz:=false } :: { cells:=[.p (.v (.bool true))],e:=4,fz:=false } :: { cells:=[.sb s,.tl na' tW a',.tl nb' tW b'],e:=49,fz:=false } :: G,[]⟩:=fun h1 h2 G=>hsim true K s na' a' nb' b' G h1 (by have:=hstep h1;rw[if_neg h2]at this;rw[if_pos rfl];exact this) (fun _=>⟨k0,by omega,k2⟩)
  have hyes:i<N→av=true∧z<0→∀ G,NEXT X' [(0,.fn (.yield y) [] []),(2,.ptr 1 0),(9,.tl nl tR l),(10,.p (iv N)),(11,.p (iv (i+1)))] ⟨{ cells:=[.tl nl tR l],e:=27,fz:=false } :: { cells:=[.tl (some false) (.sl .bool) [(na,A)]],e:=121,fz:=false } :: { cells:=[.fn (.func 63) [] []],e:=76,fz:=false } :: { cells:=[.p (iv i)],e:=3,fz:=false } :: { cells:=[.p (.v (.bool true))],e:=4,fz:=false } :: { cells:=[.sb x.1,.tl x.2.1.1 tW x.2.1.2,.tl x.2.2.1 tW x.2.2.2],e:=49,fz:=false } :: G,[]⟩:=fun h1 h2 G=>hsim true i x.1 x.2.1.1 x.2.1.2 x.2.2.1 x.2.2.2 G h1 (by have:=hstep h1;rw[if_pos h2]at this;rw[if_pos rfl];exact this) (fun _=>⟨i0,by omega,by rw[←hxl]⟩)
  clear hsim hstep hVT hz hzl e1 i2 k2
  obtain ⟨s',⟨nc',c'⟩,⟨nd',d'⟩⟩:=x
  dsimp only at hg1' hyes
  have f1:p1 .bool (.pair tN tN) (s',(nc',c'),(nd',d'))=s':=by rw[r21]
  have f2:p2 .bool (.pair tN tN) (s',(nc',c'),(nd',d'))=((nc',c'),(nd',d')):=by rw[r22]
  have f3:p1 tN tN ((nc',c'),(nd',d'))=(nc',c'):=by rw[r21]
  have f4:p2 tN tN ((nc',c'),(nd',d'))=(nd',d'):=by rw[r22]
  have f5:s1 tW (nc',c')=nc':=by rw[r23]
  have f6:s2 tW (nc',c')=c':=by rw[r24]
  have f7:s1 tW (nd',d')=nd':=by rw[r23]
  have f8:s2 tW (nd',d')=d':=by rw[r24]
  cbv
  try simp only[nc_eq]at *
  rw[hll,←hx,hone]
  simp only[f1,f2,f3,f4,f5,f6,f7,f8]
  refine BR.lss r0 (fun h1=>⟨⟨i0,h1⟩,⟨i0,h1⟩,?_⟩) (fun h1=>?_)
  ·have hno:=hno h1
   have hyes:=hyes h1
   refine LOOP.ind (σ:=Bool×Int) (fun (m,j)=>[(0,.fn (.yield y) [] []),(2,.ptr 1 0),(4,.p (iv i)),(5,.ptr 6 0),(6,.p (.v (.bool m))),(9,.tl nl tR l),(10,.p (iv N)),(11,.p (iv i)),(16,.tl (some false) (.sl .bool) [(na,A)]),(17,.p (iv 1)),(18,.p (iv j))]) (fun _=>⟨[{ cells:=[.tl nl tR l],e:=27,fz:=false },{ cells:=[.tl (some false) (.sl .bool) [(na,A)]],e:=121,fz:=false },{ cells:=[.fn (.func 63) [] []],e:=76,fz:=false },{ cells:=[.p (iv K)],e:=3,fz:=false },{ cells:=[.p (.v (.bool true))],e:=4,fz:=false },{ cells:=[.sb s,.tl na' tW a',.tl nb' tW b'],e:=49,fz:=false },{ cells:=[.sb s',.tl nc' tW c',.tl nd' tW d'],e:=49,fz:=false }],[]⟩) (fun (_,j)=>(1 - j).toNat)
    (fun (m,j)=>(j=0∧m=true)∨(j=1∧m=av)) (true,0) (.inl ⟨rfl,rfl⟩) (.inl ⟨rfl,rfl⟩) ?_
   intro ⟨m,j⟩ hmj X2 hX2
   rcases hmj with ⟨hj,hm⟩ | ⟨hj,hm⟩
   ·subst hj hm
    have hn2:∀ mv:Bool,mv=av→NEXT X2 [(0,.fn (.yield y) [] []),(2,.ptr 1 0),(4,.p (iv i)),(5,.ptr 6 0),(6,.p (.v (.bool mv))),(9,.tl nl tR l),(10,.p (iv N)),(11,.p (iv i)),(16,.tl (some false) (.sl .bool) [(na,A)]),(17,.p (iv 1)),(18,.p (iv 1))] ⟨[{ cells:=[.tl nl tR l],e:=27,fz:=false },{ cells:=[.tl (some false) (.sl .bool) [(na,A)]],e:=121,fz:=false },{ cells:=[.fn (.func 63) [] []],e:=76,fz:=false },{ cells:=[.p (iv K)],e:=3,fz:=false },{ cells:=[.p (.v (.bool true))],e:=4,fz:=false },{ cells:=[.sb s,.tl na' tW a',.tl nb' tW b'],e:=49,fz:=false },{ cells:=[.sb s',.tl nc' tW c',.tl nd' tW d'],e:=49,fz:=false }],[]⟩:=fun mv h=>NEXT.mk (hX2 (mv,1) _ _ (.inr ⟨rfl,h⟩) (by show (1 - 1:Int).toNat<(1 - 0:Int).toNat;decide) (.inl ⟨rfl,rfl⟩))
    clear hX2 hno hyes
    cbv
    try simp only[nc_eq]at *
    rw[hone,hgA,hs2,hla,←hav,har1]
    have hIi:INB i M:=⟨i0,by omega⟩
    refine BR.lss r0 (fun _=>⟨hI1,hI1,hIi,hIi,BR.mk (fun h2=>hn2 true h2.symm) (fun h2=>hn2 false h2.symm)⟩) (fun h=>absurd (by decide) h)
   ·subst hj hm
    clear hX2
    cases m
    all_goals
     cbv
     try simp only[nc_eq]at *
     refine BR.lss r0 (fun h=>absurd h (by decide)) (fun _=>?_)
     try rw[hi1 h1]
    ·exact hno (fun h=>by cases h.1) _
    ·obtain ⟨u1,u2⟩:=hg1' h1
     rw[u1]
     exact ⟨u2,BR.lss r0 (fun h2=>hyes ⟨trivial,h2⟩ _) (fun h2=>hno (fun h3=>h2 h3.2) _)⟩
  ·have:=hend h1
   rw[←this,if_neg (by omega)]at e4
   rw[e4,if_pos rfl,←this]at e3
   exact ⟨e3.symm,e4.symm,trivial⟩
end Go.Ab
