/- The advisory that fits best. -/
import Derived.Test.YtlmdgmppeacobaaGreatLM
set_option linter.unusedSimpArgs false
set_option linter.unusedVariables false
set_option maxRecDepth 20000
set_option maxHeartbeats 4000000
namespace Go.Ab
open Go.Proofs
def excA (l:List AT) (lo hi b:Int):Int:=max 0 (lo - (ownA l b).1)+max 0 ((ownA l b).2 - hi)
def widA (l:List AT) (b:Int):Int:=(ownA l b).2 - (ownA l b).1
def jnF (l:List AT) (lo hi:Int):Nat→Int→Int→Int
 | 0,_,best=>best
 | n+1,b,best=>jnF l lo hi n (b+1) (if excA l lo hi b<excA l lo hi best∨(excA l lo hi b=excA l lo hi best∧widA l b>widA l best) then b else best)
def joinN (l:List AT) (c:List Int):Int:=if bndE l c=0 then jnF l (bndLo l c) (bndHi l c) (l.length - 1) 1 0 else 0
theorem bnd_ok {l:List AT} {c:List Int} (h:bndE l c=0):advE l=0∧0<l.length∧l.length≤6∧(-100≤bndLo l c∧bndLo l c≤100)∧(-100≤bndHi l c∧bndHi l c≤100)∧c≠[]∧c.length≤8∧okI l.length c=true:=by
 have h0:=h
 unfold bndE at h
 by_cases h1:advE l≠0
 ·rw[if_pos h1]at h;exact absurd h h1
 rw[if_neg h1]at h
 have h1:=Classical.not_not.1 h1
 split at h
 ·exact absurd h (by decide)
 split at h
 ·exact absurd h (by decide)
 split at h
 ·rename_i h2 h3 h4
  unfold bndLo bndHi
  rw[if_pos h0,if_pos h0]
  have h5:0<l.length∧l.length≤6:=by
   have h6:=h1
   unfold advE at h6
   split at h6
   ·exact absurd h6 (by decide)
   ·split at h6
    ·exact absurd h6 (by decide)
    ·omega
  exact ⟨h1,h5.1,h5.2,lo_ok h1 h4 (by decide) (by decide),hi_ok h1 h4 (by decide) (by decide),fun e=>by rw[e]at h2;exact h2 rfl,by omega,h4⟩
 ·exact absurd h (by decide)
theorem cRJoin (nl:Option Bool) (l:List AT) (nc:Option Bool) (c:List Int):PurS Tryz.prog 27 [injT (.sl tA) (nl,l),injT (.sl tI) (nc,c)] (.tup [.p (iv (joinN l c)),.p (iv (bndE l c))]):=by
 refine PurS.of (S:=[(25,_),(52,_)]) (T:=[]) (U:=[]) (tbl:=[]) (n:=82) hm31 cfg (.cons (spT2.ok (a:=(.sl (.pair (.int .u8) (.pair (.int .i64) (.int .i64))))) (b:=(.sl (.int .i64))) (pre:=fun _ _=>True) fun x0 x1 _=>cRBound x0.1 x0.2 x1.1 x1.2) (.cons (spT2.ok (a:=(.sl (.pair (.int .u8) (.pair (.int .i64) (.int .i64))))) (b:=(.int .i64)) fun x0 x1 h=>cOwn x0.1 x0.2 x1 h) .nil)) .nil .nil .nil 0 Tryz.call27 Tryz.func27 (ac27_ok (some (0,0))) (by rw[Tryz.ntmps27];exact Nat.le_refl _) rfl ⟨_,rfl⟩ ?_
 intro cmp ar cv tn ic ai mx an ad ml sb mn ln em gt up ap sc vw cp rp p1 p2 s1 s2 X Y hX hY r0 r1 r2 r3 r4 r5 r6 r7 r8 r9 r10 r11 r12 r13 r14 r15 r16 r17 r18 r19 r20 r21 r22 r23 r24
 generalize hg0:ownA=g0
 generalize hg1:bndLo=g1
 generalize hg2:bndHi=g2
 generalize hg3:bndE=g3
 generalize hg4:joinN=g4
 cbv
 have e4:g4 l c=if bndE l c=0 then jnF l (bndLo l c) (bndHi l c) (l.length - 1) 1 0 else 0:=by rw[←hg4];rfl
 have e3:g3 l c=bndE l c:=by rw[←hg3]
 refine BR.neq r0 (fun h1=>?_) (fun h1=>?_)
 ·rw[←e3,if_neg h1]at e4
  exact ⟨e4.symm,rfl,trivial⟩
 have h1':bndE l c=0:=by rw[←e3];exact Classical.not_not.1 h1
 have e3z:g3 l c=0:=Classical.not_not.1 h1
 obtain ⟨k1,k2,k3,k4,k5,_⟩:=bnd_ok h1'
 rw[if_pos h1']at e4
 obtain ⟨lo,hlo⟩:∃ x,x=bndLo l c:=⟨_,rfl⟩
 obtain ⟨hi,hhi⟩:∃ x,x=bndHi l c:=⟨_,rfl⟩
 have e1:g1 l c=lo:=by rw[←hg1,hlo]
 have e2:g2 l c=hi:=by rw[←hg2,hhi]
 rw[←hlo,←hhi]at e4
 rw[←hlo]at k4
 rw[←hhi]at k5
 obtain ⟨N,hN⟩:∃ N:Int,N=l.length:=⟨_,rfl⟩
 have hll:ic (ln tA l)=N:=by rw[r4,r12,hN]
 have e1':g1 (nl,l).2 (nc,c).2=lo:=e1
 have e2':g2 (nl,l).2 (nc,c).2=hi:=e2
 rw[e1',e2']
 refine LOOP.ind (σ:=Int×Int) (fun (best,b)=>[(0,.tl nl tA l),(6,.p (iv lo)),(7,.p (iv hi)),(9,.p (iv best)),(10,.p (iv b))]) (fun _=>⟨[],[]⟩) (fun (_,b)=>(N - b).toNat)
  (fun (best,b)=>1≤b∧b≤N∧jnF l lo hi (N - b).toNat b best=g4 l c∧0≤best∧best<b) (0,1) ⟨by omega,by show (1:Int)≤N;omega,by rw[e4];show jnF l lo hi (N - 1).toNat 1 0=_;rw[show (N - 1).toNat=l.length - 1 by omega],by show (0:Int)≤0;omega,by show (0:Int)<1;omega⟩ (.inl ⟨rfl,rfl⟩) ?_
 intro ⟨best,b⟩ ⟨i0,i1,i2,i3,i4⟩ X' hX
 obtain ⟨⟨x,y⟩,hx⟩:∃ x,x=ownA l b:=⟨_,rfl⟩
 obtain ⟨⟨p,q⟩,hp⟩:∃ x,x=ownA l best:=⟨_,rfl⟩
 have ox:b<N→-100≤x∧x≤y∧y≤100:=fun h=>by have:=own_ok k1 (b:=b) (by omega) (by omega);rw[←hx]at this;exact this
 have op:b<N→-100≤p∧p≤q∧q≤100:=fun h=>by have:=own_ok k1 (b:=best) (by omega) (by omega);rw[←hp]at this;exact this
 have f0:g0 l b=(x,y):=by rw[←hg0,hx]
 have f1:g0 l best=(p,q):=by rw[←hg0,hp]
 have hst:b<N→jnF l lo hi (N - (b+1)).toNat (b+1) (if max 0 (lo - x)+max 0 (y - hi)<max 0 (lo - p)+max 0 (q - hi)∨(max 0 (lo - x)+max 0 (y - hi)=max 0 (lo - p)+max 0 (q - hi)∧y - x>q - p) then b else best)=g4 l c:=fun h=>by
  rw[show (N - b).toNat=(N - (b+1)).toNat+1 by omega,jnF]at i2
  unfold excA widA at i2
  rw[←hx,←hp]at i2
  exact i2
 have hse:¬ b<N→best=g4 l c:=fun h=>by rw[show (N - b).toNat=0 by omega,jnF]at i2;exact i2
 have hi1:b<N→ar .add .i64 b 1=b+1:=fun h2=>by rw[r1];exact wrap64 (n:=b+1) (by omega) (by omega)
 have hnx:b<N→∀ bb:Int,bb=(if max 0 (lo - x)+max 0 (y - hi)<max 0 (lo - p)+max 0 (q - hi)∨(max 0 (lo - x)+max 0 (y - hi)=max 0 (lo - p)+max 0 (q - hi)∧y - x>q - p) then b else best)→NEXT X' [(0,.tl nl tA l),(6,.p (iv lo)),(7,.p (iv hi)),(9,.p (iv bb)),(10,.p (iv (b+1)))] ⟨[],[]⟩:=fun h bb hb=>NEXT.mk (hX (bb,b+1) _ _ ⟨by omega,by show b+1≤N;omega,by show jnF l lo hi (N - (b+1)).toNat (b+1) bb=_;rw[hb];exact hst h,by show 0≤bb;rw[hb];split <;> omega,by show bb<b+1;rw[hb];split <;> omega⟩ (by show (N - (b+1)).toNat<(N - b).toNat;omega) (.inl ⟨rfl,rfl⟩))
 have hix:b<N→IXP l b∧IXP l best:=fun h=>⟨⟨by omega,.inr (by omega)⟩,⟨by omega,.inr (by omega)⟩⟩
 have sb1:b<N→ar .sub .i64 lo x=lo - x∧ar .sub .i64 y hi=y - hi∧ar .sub .i64 lo p=lo - p∧ar .sub .i64 q hi=q - hi∧ar .sub .i64 y x=y - x∧ar .sub .i64 q p=q - p:=fun h=>by
  have:=ox h;have:=op h
  rw[r1]
  exact ⟨wrap64 (n:=lo - x) (by omega) (by omega),wrap64 (n:=y - hi) (by omega) (by omega),wrap64 (n:=lo - p) (by omega) (by omega),wrap64 (n:=q - hi) (by omega) (by omega),wrap64 (n:=y - x) (by omega) (by omega),wrap64 (n:=q - p) (by omega) (by omega)⟩
 have m0:=fun x y=>mx_t r6 x y
 have ad1:b<N→ar .add .i64 (max 0 (lo - x)) (max 0 (y - hi))=max 0 (lo - x)+max 0 (y - hi)∧ar .add .i64 (max 0 (lo - p)) (max 0 (q - hi))=max 0 (lo - p)+max 0 (q - hi):=fun h=>by
  have:=ox h;have:=op h
  rw[r1]
  exact ⟨wrap64 (n:=max 0 (lo - x)+max 0 (y - hi)) (by omega) (by omega),wrap64 (n:=max 0 (lo - p)+max 0 (q - hi)) (by omega) (by omega)⟩
 clear hX hst i2 hx hp
 cbv
 try simp only[nc_eq]at *
 rw[hll,f0,f1]
 dsimp only
 refine BR.lss r0 (fun h=>?_) (fun h=>⟨hse h,e3z.symm,trivial⟩)
 have hn1:=hnx h
 obtain ⟨s1,s2,s3,s4,s5,s6⟩:=sb1 h
 obtain ⟨a1,a2⟩:=ad1 h
 rw[hi1 h,s1,s2,s3,s4,s5,s6,m0,m0,m0,m0,a1,a2]
 clear hnx s1 s2 s3 s4 s5 s6 a1 a2 m0 ox op hse hi1 sb1 ad1
 refine ⟨(hix h).1,(hix h).2,BR.lss r0 (fun h5=>hn1 _ (by rw[if_pos (.inl h5)])) (fun h5=>BR.eql r0 (fun h6=>BR.gtr r0 (fun h7=>hn1 _ (by rw[if_pos (.inr ⟨h6,h7⟩)])) (fun h7=>hn1 _ (by rw[if_neg (fun h=>by rcases h with h | h;exact h5 h;exact h7 h.2)]))) (fun h6=>hn1 _ (by rw[if_neg (fun h=>by rcases h with h | h;exact h5 h;exact h6 h.1)])))⟩
theorem cJoin (nl:Option Bool) (l:List AT) (nc:Option Bool) (c:List Int):PurS Tryz.prog 26 [injT (.sl tA) (nl,l),injT (.sl tI) (nc,c)] (.tup [.p (iv (joinN l c)),.p (iv (bndE l c))]):=by
 refine PurS.of (S:=[(24,_),(50,_)]) (T:=[]) (U:=[]) (tbl:=[(53,ac53 none,[.tmp 5],21),(54,ac54 none,[.tmp 3],13)]) (n:=56) hm31 cfg (.cons (spT2.ok (a:=(.sl (.pair (.int .u8) (.pair (.int .i64) (.int .i64))))) (b:=(.sl (.int .i64))) (pre:=fun _ _=>True) fun x0 x1 _=>cBound x0.1 x0.2 x1.1 x1.2) (.cons (spT2.ok (a:=(.sl (.pair (.int .u8) (.pair (.int .i64) (.int .i64))))) (b:=(.int .i64)) fun x0 x1 h=>cBnds x0.1 x0.2 x1 h) .nil)) .nil .nil (.cons Tryz.call53 Tryz.func53 (ac53_ok none) (by rw[Tryz.ntmps53];exact Nat.le_refl _) (.cons Tryz.call54 Tryz.func54 (ac54_ok none) (by rw[Tryz.ntmps54];exact Nat.le_refl _) .nil)) 6 Tryz.call26 Tryz.func26 (ac26_ok (some (0,0))) (by rw[Tryz.ntmps26];exact Nat.le_refl _) rfl ⟨_,rfl⟩ ?_
 intro cmp ar cv tn ic ai mx an ad ml sb mn ln em gt up ap sc vw cp rp p1 p2 s1 s2 X Y hX hY r0 r1 r2 r3 r4 r5 r6 r7 r8 r9 r10 r11 r12 r13 r14 r15 r16 r17 r18 r19 r20 r21 r22 r23 r24
 generalize hg0:bndS=g0
 generalize hg1:ownA=g1
 generalize hg2:bndLo=g2
 generalize hg3:bndHi=g3
 generalize hg4:bndE=g4
 generalize hg5:joinN=g5
 cbv
 have e4:g5 l c=if bndE l c=0 then jnF l (bndLo l c) (bndHi l c) (l.length - 1) 1 0 else 0:=by rw[←hg5];rfl
 have e3:g4 l c=bndE l c:=by rw[←hg4]
 refine BR.neq r0 (fun h1=>?_) (fun h1=>?_)
 ·rw[←e3,if_neg h1]at e4
  exact ⟨e4.symm,rfl,trivial⟩
 have h1':bndE l c=0:=by rw[←e3];exact Classical.not_not.1 h1
 have e3z:g4 l c=0:=Classical.not_not.1 h1
 obtain ⟨k1,k2,k3,k4,k5,_⟩:=bnd_ok h1'
 rw[if_pos h1']at e4
 obtain ⟨lo,hlo⟩:∃ x,x=bndLo l c:=⟨_,rfl⟩
 obtain ⟨hi,hhi⟩:∃ x,x=bndHi l c:=⟨_,rfl⟩
 have e1:g2 l c=lo:=by rw[←hg2,hlo]
 have e2:g3 l c=hi:=by rw[←hg3,hhi]
 rw[←hlo,←hhi]at e4
 rw[←hlo]at k4
 rw[←hhi]at k5
 obtain ⟨N,hN⟩:∃ N:Int,N=l.length:=⟨_,rfl⟩
 have hll:ic (ln tA l)=N:=by rw[r4,r12,hN]
 have e1':g2 (nl,l).2 (nc,c).2=lo:=e1
 have e2':g3 (nl,l).2 (nc,c).2=hi:=e2
 rw[e1',e2']
 refine LOOP.ind (σ:=Int×Int) (fun (best,b)=>[(2,.ptr 0 0),(9,.fn (.func 53) [] [.ptr 0 0,.ptr 1 0,.ptr 2 0]),(10,.fn (.func 54) [] [.ptr 0 0]),(11,.p (iv best)),(12,.p (iv b))]) (fun _=>⟨[{ cells:=[.tl nl tA l],e:=38,fz:=false },{ cells:=[.p (iv lo)],e:=3,fz:=false },{ cells:=[.p (iv hi)],e:=3,fz:=false }],[]⟩) (fun (_,b)=>(N - b).toNat)
  (fun (best,b)=>1≤b∧b≤N∧jnF l lo hi (N - b).toNat b best=g5 l c∧0≤best∧best<b) (0,1) ⟨by omega,by show (1:Int)≤N;omega,by rw[e4];show jnF l lo hi (N - 1).toNat 1 0=_;rw[show (N - 1).toNat=l.length - 1 by omega],by show (0:Int)≤0;omega,by show (0:Int)<1;omega⟩ (.inl ⟨rfl,rfl⟩) ?_
 intro ⟨best,b⟩ ⟨i0,i1,i2,i3,i4⟩ X' hX
 obtain ⟨⟨x,y⟩,hx⟩:∃ x,x=ownA l b:=⟨_,rfl⟩
 obtain ⟨⟨p,q⟩,hp⟩:∃ x,x=ownA l best:=⟨_,rfl⟩
 have ox:b<N→-100≤x∧x≤y∧y≤100:=fun h=>by have:=own_ok k1 (b:=b) (by omega) (by omega);rw[←hx]at this;exact this
 have op:b<N→-100≤p∧p≤q∧q≤100:=fun h=>by have:=own_ok k1 (b:=best) (by omega) (by omega);rw[←hp]at this;exact this
 have f0:g1 l b=(x,y):=by rw[←hg1,hx]
 have f1:g1 l best=(p,q):=by rw[←hg1,hp]
 have hst:b<N→jnF l lo hi (N - (b+1)).toNat (b+1) (if max 0 (lo - x)+max 0 (y - hi)<max 0 (lo - p)+max 0 (q - hi)∨(max 0 (lo - x)+max 0 (y - hi)=max 0 (lo - p)+max 0 (q - hi)∧y - x>q - p) then b else best)=g5 l c:=fun h=>by
  rw[show (N - b).toNat=(N - (b+1)).toNat+1 by omega,jnF]at i2
  unfold excA widA at i2
  rw[←hx,←hp]at i2
  exact i2
 have hse:¬ b<N→best=g5 l c:=fun h=>by rw[show (N - b).toNat=0 by omega,jnF]at i2;exact i2
 have hi1:b<N→ar .add .i64 b 1=b+1:=fun h2=>by rw[r1];exact wrap64 (n:=b+1) (by omega) (by omega)
 have hnx:b<N→∀ bb:Int,bb=(if max 0 (lo - x)+max 0 (y - hi)<max 0 (lo - p)+max 0 (q - hi)∨(max 0 (lo - x)+max 0 (y - hi)=max 0 (lo - p)+max 0 (q - hi)∧y - x>q - p) then b else best)→∀ B,NEXT X' [(2,.ptr 0 0),(9,.fn (.func 53) [] [.ptr 0 0,.ptr 1 0,.ptr 2 0]),(10,.fn (.func 54) [] [.ptr 0 0]),(11,.p (iv bb)),(12,.p (iv (b+1)))] ⟨{ cells:=[.tl nl tA l],e:=38,fz:=false } :: { cells:=[.p (iv lo)],e:=3,fz:=false } :: { cells:=[.p (iv hi)],e:=3,fz:=false } :: B,[]⟩:=fun h bb hb B=>NEXT.mk (hX (bb,b+1) _ _ ⟨by omega,by show b+1≤N;omega,by show jnF l lo hi (N - (b+1)).toNat (b+1) bb=_;rw[hb];exact hst h,by show 0≤bb;rw[hb];split <;> omega,by show bb<b+1;rw[hb];split <;> omega⟩ (by show (N - (b+1)).toNat<(N - b).toNat;omega) (.inr ⟨[some 0,some 1,some 2],[],by rw[SIM_iff];cbv;simp[nlLe_self]⟩))
 have hix:b<N→IXP l b∧IXP l best:=fun h=>⟨⟨by omega,.inr (by omega)⟩,⟨by omega,.inr (by omega)⟩⟩
 have sb1:b<N→ar .sub .i64 lo x=lo - x∧ar .sub .i64 y hi=y - hi∧ar .sub .i64 lo p=lo - p∧ar .sub .i64 q hi=q - hi∧ar .sub .i64 y x=y - x∧ar .sub .i64 q p=q - p:=fun h=>by
  have:=ox h;have:=op h
  rw[r1]
  exact ⟨wrap64 (n:=lo - x) (by omega) (by omega),wrap64 (n:=y - hi) (by omega) (by omega),wrap64 (n:=lo - p) (by omega) (by omega),wrap64 (n:=q - hi) (by omega) (by omega),wrap64 (n:=y - x) (by omega) (by omega),wrap64 (n:=q - p) (by omega) (by omega)⟩
 have m0:=fun x y=>mx_t r6 x y
 have ad1:b<N→ar .add .i64 (max 0 (lo - x)) (max 0 (y - hi))=max 0 (lo - x)+max 0 (y - hi)∧ar .add .i64 (max 0 (lo - p)) (max 0 (q - hi))=max 0 (lo - p)+max 0 (q - hi):=fun h=>by
  have:=ox h;have:=op h
  rw[r1]
  exact ⟨wrap64 (n:=max 0 (lo - x)+max 0 (y - hi)) (by omega) (by omega),wrap64 (n:=max 0 (lo - p)+max 0 (q - hi)) (by omega) (by omega)⟩
 have dd1:b<N→ar .sub .i64 (max 0 (lo - x)+max 0 (y - hi)) (max 0 (lo - p)+max 0 (q - hi))=(max 0 (lo - x)+max 0 (y - hi)) - (max 0 (lo - p)+max 0 (q - hi)):=fun h=>by
  have:=ox h;have:=op h
  rw[r1]
  exact wrap64 (n:=(max 0 (lo - x)+max 0 (y - hi)) - (max 0 (lo - p)+max 0 (q - hi))) (by omega) (by omega)
 clear hX hst i2 hx hp
 cbv
 try simp only[nc_eq]at *
 rw[hll,f0,f1]
 dsimp only
 refine BR.lss r0 (fun h=>?_) (fun h=>⟨hse h,e3z.symm,trivial⟩)
 have hn1:=hnx h
 obtain ⟨s1,s2,s3,s4,s5,s6⟩:=sb1 h
 obtain ⟨a1,a2⟩:=ad1 h
 rw[hi1 h,s1,s2,s3,s4,s5,s6,m0,m0,m0,m0,a1,a2,dd1 h]
 obtain ⟨E1,hE1⟩:∃ z,z=max 0 (lo - x)+max 0 (y - hi):=⟨_,rfl⟩
 obtain ⟨E2,hE2⟩:∃ z,z=max 0 (lo - p)+max 0 (q - hi):=⟨_,rfl⟩
 rw[←hE1,←hE2]at hn1 ⊢
 clear hnx s1 s2 s3 s4 s5 s6 a1 a2 m0 ox op hse hi1 sb1 ad1 dd1 hE1 hE2
 refine ⟨(hix h).1,(hix h).2,BR.lss r0 (fun h5=>hn1 _ (by rw[if_pos (.inl (by omega))]) _) (fun h5=>BR.eql r0 (fun h6=>⟨(hix h).1,(hix h).2,BR.gtr r0 (fun h7=>hn1 _ (by rw[if_pos (.inr ⟨by omega,h7⟩)]) _) (fun h7=>hn1 _ (by rw[if_neg (by omega)]) _)⟩) (fun h6=>hn1 _ (by rw[if_neg (by omega)]) _))⟩
end Go.Ab
