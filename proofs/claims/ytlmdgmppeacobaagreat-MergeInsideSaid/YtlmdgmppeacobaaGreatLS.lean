/- MergeInside. -/
import Derived.Test.YtlmdgmppeacobaaGreatLQ
set_option linter.unusedSimpArgs false
set_option linter.unusedVariables false
set_option maxRecDepth 20000
set_option maxHeartbeats 4000000
namespace Go.Ab
open Go.Proofs
theorem loF_spec {l:List AT}:∀ {c:List Int} {x:Int},x≤loF l c x∧(∀ y∈c,(ownA l y).1≤loF l c x)∧(loF l c x=x∨∃ y∈c,(ownA l y).1=loF l c x)
 | [],x=>⟨Int.le_refl _,(fun y hy=>by cases hy),.inl rfl⟩
 | y :: c,x=>by
  obtain ⟨h1,h2,h3⟩:=loF_spec (l:=l) (c:=c) (x:=max x (ownA l y).1)
  rw[loF]
  refine ⟨by omega,fun z hz=>?_,?_⟩
  ·rcases List.mem_cons.1 hz with rfl | hz
   ·omega
   ·exact h2 z hz
  ·rcases h3 with h3 | ⟨z,hz,h3⟩
   ·by_cases hm:x≤(ownA l y).1
    ·exact .inr ⟨y,by simp,by omega⟩
    ·exact .inl (by omega)
   ·exact .inr ⟨z,by simp[hz],h3⟩
theorem hiF_spec {l:List AT}:∀ {c:List Int} {x:Int},hiF l c x≤x∧(∀ y∈c,hiF l c x≤(ownA l y).2)∧(hiF l c x=x∨∃ y∈c,(ownA l y).2=hiF l c x)
 | [],x=>⟨Int.le_refl _,(fun y hy=>by cases hy),.inl rfl⟩
 | y :: c,x=>by
  obtain ⟨h1,h2,h3⟩:=hiF_spec (l:=l) (c:=c) (x:=min x (ownA l y).2)
  rw[hiF]
  refine ⟨by omega,fun z hz=>?_,?_⟩
  ·rcases List.mem_cons.1 hz with rfl | hz
   ·omega
   ·exact h2 z hz
  ·rcases h3 with h3 | ⟨z,hz,h3⟩
   ·by_cases hm:(ownA l y).2≤x
    ·exact .inr ⟨y,by simp,by omega⟩
    ·exact .inl (by omega)
   ·exact .inr ⟨z,by simp[hz],h3⟩
theorem jnF_spec {l:List AT} {lo hi:Int}:∀ (n:Nat) (b best:Int),0≤best→best<b→(∀ j,0≤j→j<b→excA l lo hi best≤excA l lo hi j) →
  0≤jnF l lo hi n b best∧jnF l lo hi n b best<b+n∧∀ j,0≤j→j<b+n→excA l lo hi (jnF l lo hi n b best)≤excA l lo hi j
 | 0,b,best,h0,h1,h2=>by rw[jnF];exact ⟨h0,by omega,fun j j0 j1=>h2 j j0 (by omega)⟩
 | n+1,b,best,h0,h1,h2=>by
  rw[jnF,show b+((n+1:Nat):Int)=(b+1)+(n:Int) by omega]
  refine jnF_spec n (b+1) _ (by split <;> omega) (by split <;> omega) fun j j0 j1=>?_
  by_cases hj:j=b
  ·subst hj;split <;> omega
  ·have:=h2 j j0 (by omega)
   split <;> omega
theorem join_ok {l:List AT} {c:List Int} (h:bndE l c=0):0≤joinN l c∧joinN l c<l.length∧∀ j:Int,0≤j→j<l.length→excA l (bndLo l c) (bndHi l c) (joinN l c)≤excA l (bndLo l c) (bndHi l c) j:=by
 obtain ⟨_,k2,_⟩:=bnd_ok h
 unfold joinN
 rw[if_pos h]
 have:=jnF_spec (l:=l) (lo:=bndLo l c) (hi:=bndHi l c) (l.length - 1) 1 0 (Int.le_refl _) (by decide) fun j j0 j1=>by
  have:j=0:=by omega
  subst this;exact Int.le_refl _
 rw[show (1:Int)+((l.length - 1:Nat):Int)=l.length by omega]at this
 exact this
theorem ends_ok {l:List AT} {c:List Int} (h:bndE l c=0):(∀ y∈c,(ownA l y).1≤bndLo l c∧bndHi l c≤(ownA l y).2)∧(∃ y∈c,(ownA l y).1=bndLo l c)∧∃ y∈c,(ownA l y).2=bndHi l c:=by
 obtain ⟨k1,_,_,_,_,k6,_,k7⟩:=bnd_ok h
 have e1:bndLo l c=loF l c (-100):=by unfold bndLo;rw[if_pos h]
 have e2:bndHi l c=hiF l c 100:=by unfold bndHi;rw[if_pos h]
 rw[e1,e2]
 obtain ⟨a1,a2,a3⟩:=loF_spec (l:=l) (c:=c) (x:=-100)
 obtain ⟨b1,b2,b3⟩:=hiF_spec (l:=l) (c:=c) (x:=100)
 obtain ⟨x,r,rfl⟩:=List.exists_cons_of_ne_nil k6
 have hx:=okI_iff.1 k7 x (by simp)
 have ho:=own_ok k1 hx.1 hx.2
 have h1:=a2 x (by simp)
 have h2:=b2 x (by simp)
 refine ⟨fun y hy=>⟨a2 y hy,b2 y hy⟩,?_,?_⟩
 ·rcases a3 with a3 | a3
  ·exact ⟨x,by simp,by omega⟩
  ·exact a3
 ·rcases b3 with b3 | b3
  ·exact ⟨x,by simp,by omega⟩
  ·exact b3
theorem BR.two {cmp:BinOp→Int→Int→Bool} (h:cmp=cmpR) {x y u v:Int} {A Y:Prop} (hn:¬ (x<y∧u<v)) (k:Y):BR (cmp .lss x y) (BR (cmp .lss u v) A Y) Y:=BR.lss h (fun h1=>BR.lss h (fun h2=>absurd ⟨h1,h2⟩ hn) (fun _=>k)) (fun _=>k)
def inL (n:Nat) (c:List Int):List Int:=(c.take 8).map fun x=>x % n
theorem cInside (nl:Option Bool) (l:List AT) (nc:Option Bool) (c:List Int) (hcc:∀ x∈c,0≤x∧x<256):PurS Tryz.prog 7 [injT (.sl tA) (nl,l),injT (.sl tB) (nc,c)] (.sb true):=by
 refine PurS.of (S:=[(11,_),(30,_),(24,_),(26,_),(31,_)]) (T:=[]) (U:=[]) (tbl:=[]) (n:=186) hm31 cfg (.cons (spT0.ok cAwake) (.cons (spT1.ok (a:=(.sl (.pair (.int .u8) (.pair (.int .i64) (.int .i64))))) (pre:=fun _=>True) fun x0 _=>cAdv x0.1 x0.2) (.cons (spT2.ok (a:=(.sl (.pair (.int .u8) (.pair (.int .i64) (.int .i64))))) (b:=(.sl (.int .i64))) (pre:=fun _ _=>True) fun x0 x1 _=>cBound x0.1 x0.2 x1.1 x1.2) (.cons (spT2.ok (a:=(.sl (.pair (.int .u8) (.pair (.int .i64) (.int .i64))))) (b:=(.sl (.int .i64))) (pre:=fun _ _=>True) fun x0 x1 _=>cJoin x0.1 x0.2 x1.1 x1.2) (.cons (spT2.ok (a:=(.sl (.pair (.int .u8) (.pair (.int .i64) (.int .i64))))) (b:=(.int .i64)) fun x0 x1 h=>cEnds x0.1 x0.2 x1 h) .nil))))) .nil .nil .nil 0 Tryz.call7 Tryz.func7 (ac7_ok (some (0,0))) (by rw[Tryz.ntmps7];exact Nat.le_refl _) rfl ⟨_,rfl⟩ ?_
 intro cmp ar cv tn ic ai mx an ad ml sb mn ln em gt up ap sc vw cp rp p1 p2 s1 s2 X Y hX hY r0 r1 r2 r3 r4 r5 r6 r7 r8 r9 r10 r11 r12 r13 r14 r15 r16 r17 r18 r19 r20 r21 r22 r23 r24
 generalize hg0:advE=g0
 generalize hg1:bndLo=g1
 generalize hg2:bndHi=g2
 generalize hg3:bndE=g3
 generalize hg4:joinN=g4
 generalize hg5:ownA=g5
 cbv
 have kT:BR true True (false=true):=BR.mk (fun _=>trivial) (fun h=>by cases h)
 obtain ⟨C,hC⟩:∃ C:Int,C=c.length:=⟨_,rfl⟩
 obtain ⟨N,hN⟩:∃ N:Int,N=l.length:=⟨_,rfl⟩
 have hlc:ic (ln tB c)=C:=by rw[r4,r12,hC]
 have hll:ic (ln tA l)=N:=by rw[r4,r12,hN]
 have e0:g0 l=advE l:=by rw[←hg0]
 rw[hlc,hll]
 refine BR.gtr r0 (fun _=>kT) (fun h1=>BR.eql r0 (fun _=>kT) (fun h2=>BR.neq r0 (fun _=>kT) (fun h3=>BR.mk (fun _=>?_) (fun h=>by cases h))))
 have h3:advE l=0:=by rw[←e0];exact Classical.not_not.1 h3
 have hl0:0<l.length:=by
  refine Nat.pos_of_ne_zero fun h=>?_
  unfold advE at h3;rw[if_pos h]at h3;exact absurd h3 (by decide)
 obtain ⟨I,hI⟩:∃ I,I=inL l.length c:=⟨_,rfl⟩
 obtain ⟨m,hm⟩:∃ m:Nat,m=min c.length 8:=⟨_,rfl⟩
 have hIl:I.length=m:=by rw[hI,hm];simp[inL];omega
 have hok:okI l.length I=true:=okI_iff.2 fun x hx=>by
  rw[hI]at hx
  obtain ⟨y,hy,rfl⟩:=List.mem_map.1 hx
  have:=hcc y (List.mem_of_mem_take hy)
  exact ⟨Int.emod_nonneg _ (by omega),Int.emod_lt_of_pos _ (by omega)⟩
 have hE:bndE l I=0:=by
  unfold bndE
  rw[if_neg (fun h=>h h3),if_neg (by omega),if_neg (by omega),if_pos hok]
 refine LOOP.ind (σ:=List Int×Int) (fun (O,i)=>[(0,.tl nl tA l),(1,.tl nc tB c),(5,.og 0 tI O),(6,.p (iv i))]) (fun (O,_)=>⟨[],[(ml (ln tI O) 1,3)]⟩) (fun (_,i)=>(8 - i).toNat)
  (fun (O,i)=>0≤i∧i≤m∧O=I.take i.toNat) ([],0) ⟨by omega,by show (0:Int)≤m;omega,rfl⟩ (.inr ⟨[],[none],?_⟩) ?_
 ·rw[SIM_iff];cbv;simp[nlLe_self,lstEq]
 intro ⟨O,i⟩ ⟨i0,i1,i2⟩ X' hX
 obtain ⟨x,hx⟩:∃ x:Int,x=gt tB c i:=⟨_,rfl⟩
 have hOl:O.length=i:=by rw[i2,List.length_take,hIl];omega
 obtain ⟨y,hy⟩:∃ y:Int,y=ar .rem .i64 (cv .i64 x) N:=⟨_,rfl⟩
 have hyI:i<C→i<8→O ++ [y]=I.take (i+1).toNat:=fun h4 h5=>by
  have hi:i.toNat<c.length:=by omega
  have hxx:x=c[i.toNat]:=by rw[hx,r14];unfold gtR;rw[List.getD_eq_getElem?_getD,List.getElem?_eq_getElem hi];rfl
  have hxr:=hcc x (by rw[hxx];exact List.getElem_mem hi)
  have hyy:y=x % (l.length:Int):=by
   rw[hy,r2,r1,hN]
   show ((IntKind.i64.wrap x).tmod _)=_
   rw[wrap64 (n:=x) (by omega) (by omega)]
   exact Int.tmod_eq_emod_of_nonneg hxr.1
  have hIi:I[i.toNat]? = some y:=by
   rw[hI,hyy,hxx]
   simp only[inL,List.getElem?_map,List.getElem?_take,if_pos (show i.toNat<8 by omega),List.getElem?_eq_getElem hi,Option.map_some]
  rw[show (i+1).toNat=i.toNat+1 by omega,List.take_add_one,hIi,i2];rfl
 have hend:¬ (i<C∧i<8)→O=I:=fun h4=>by
  rw[i2];exact List.take_of_length_le (by omega)
 have hi1:i<C→ar .add .i64 i 1=i+1:=fun h2=>by rw[r1];exact wrap64 (n:=i+1) (by omega) (by omega)
 have hap:ap tI O [y]=O ++ [y]:=by rw[r16]
 have had:ad (ln tI O) (ln tI [y])=O.length+1:=by rw[r8,r12];rfl
 have hnx:i<C→i<8→∀ O',O'=O ++ [y]→NEXT X' [(0,.tl nl tA l),(1,.tl nc tB c),(5,.og 0 tI O'),(6,.p (iv (i+1)))] ⟨[],[(ml (ln tI O') 1,3)]⟩:=fun h4 h5 O' hO=>NEXT.mk (hX (O',i+1) _ _ ⟨by omega,by show i+1≤(m:Int);omega,by rw[hO];exact hyI h4 h5⟩ (by show (8 - (i+1)).toNat<(8 - i).toNat;omega) (.inl ⟨rfl,rfl⟩))
 clear hX i2 hyI
 cbv
 try simp only[nc_eq]at *
 rw[hlc,←hx,hll,←hy,had,hap]
 by_cases hgo:i<C∧i<8
 ·obtain ⟨h4,h5⟩:=hgo
  refine BR.lss r0 (fun _=>BR.lss r0 (fun _=>?_) (fun h=>absurd h5 h)) (fun h=>absurd h4 h)
  have hII:INB i C:=⟨i0,h4⟩
  rw[hi1 h4]
  exact ⟨hII,hII,⟨by omega⟩,⟨rfl⟩,LIM_iff.2 ⟨by omega,by omega⟩,hnx h4 h5 _ rfl⟩
 refine BR.two r0 hgo ?_
 have hOI:=hend hgo
 subst hOI
 clear hnx hap had hi1 hend hgo hx hy i1 i0 hOl
 obtain ⟨jn1,jn2,jn3⟩:=join_ok hE
 obtain ⟨en1,en2,en3⟩:=ends_ok hE
 obtain ⟨K,hK⟩:∃ x,x=joinN l O:=⟨_,rfl⟩
 obtain ⟨lo,hlo⟩:∃ x,x=bndLo l O:=⟨_,rfl⟩
 obtain ⟨hi,hhi⟩:∃ x,x=bndHi l O:=⟨_,rfl⟩
 have bo:=bnd_ok hE
 have e1:g1 l O=lo:=by rw[←hg1,hlo]
 have e2:g2 l O=hi:=by rw[←hg2,hhi]
 have e3:g3 l O=0:=by rw[←hg3];exact hE
 have e4:g4 l O=K:=by rw[←hg4,hK]
 rw[←hlo,←hhi]at jn3 en1 bo
 rw[←hlo]at en2
 rw[←hhi]at en3
 rw[←hK]at jn1 jn2 jn3
 clear hlo hhi hK hI
 rw[e1,e2,e3,e4]
 refine BR.nn r0 (BR.nn r0 (BR.lss r0 (fun h=>absurd h (by omega)) (fun _=>BR.geq r0 (fun h=>absurd h (by omega)) (fun _=>?_))))
 obtain ⟨M,hM⟩:∃ M:Int,M=O.length:=⟨_,rfl⟩
 have hlO:ic (ln tI O)=M:=by rw[r4,r12,hM]
 have hix:∀ x∈O,IXP l x:=fun x hx=>by
  have:=okI_iff.1 hok x hx
  exact ⟨this.1,.inr this.2⟩
 refine LOOP.ind (σ:=Bool×Bool×Int) (fun (low,high,i)=>[(0,.tl nl tA l),(5,.og 0 tI O),(7,.p (iv K)),(9,.p (iv lo)),(10,.p (iv hi)),(12,.p (.v (.bool low))),(13,.p (.v (.bool high))),(14,.p (iv i))]) (fun _=>⟨[],[(ml (ln tI O) 1,3)]⟩) (fun (_,_,i)=>(M - i).toNat)
  (fun (low,high,i)=>0≤i∧i≤M∧(low=false→∃ y∈O.drop i.toNat,(ownA l y).1=lo)∧(high=false→∃ y∈O.drop i.toNat,(ownA l y).2=hi)) (false,false,0) ⟨by omega,by show (0:Int)≤M;omega,fun _=>en2,fun _=>en3⟩ (.inl ⟨rfl,rfl⟩) ?_
 clear en2 en3
 intro ⟨low,high,i⟩ ⟨i0,i1,i2,i3⟩ X' hX
 obtain ⟨x,hx⟩:∃ x:Int,x=gt tI O i:=⟨_,rfl⟩
 obtain ⟨⟨p,q⟩,hpq⟩:∃ z,z=ownA l x:=⟨_,rfl⟩
 have f0:g5 l x=(p,q):=by rw[←hg5,hpq]
 have hxm:i<M→x∈O:=fun h=>by rw[hx,r14];exact gtR_mem (t:=tI) i0 (by omega)
 have hxi:i<M→IXP l x∧p≤lo∧hi≤q:=fun h=>by
  have:=en1 x (hxm h);rw[←hpq]at this
  exact ⟨hix x (hxm h),this⟩
 have hdr:i<M→O.drop i.toNat=x :: O.drop (i+1).toNat:=fun h=>by rw[gtR_drop (t:=tI) i0 (by omega),hx,r14]
 have hi1:i<M→ar .add .i64 i 1=i+1:=fun h2=>by rw[r1];exact wrap64 (n:=i+1) (by omega) (by omega)
 have hnx:i<M→∀ lw hg,(low=true→lw=true)→(p=lo→lw=true)→(high=true→hg=true)→(q=hi→hg=true)→NEXT X' [(0,.tl nl tA l),(5,.og 0 tI O),(7,.p (iv K)),(9,.p (iv lo)),(10,.p (iv hi)),(12,.p (.v (.bool lw))),(13,.p (.v (.bool hg))),(14,.p (iv (i+1)))] ⟨[],[(ml (ln tI O) 1,3)]⟩:=fun h lw hg a1 a2 a3 a4=>by
  refine NEXT.mk (hX (lw,hg,i+1) _ _ ⟨by omega,by show i+1≤M;omega,fun hl=>?_,fun hh=>?_⟩ (by show (M - (i+1)).toNat<(M - i).toNat;omega) (.inl ⟨rfl,rfl⟩))
  ·have hl:lw=false:=hl
   have hlow:low=false:=by cases hc:low;rfl;rw[a1 hc]at hl;cases hl
   obtain ⟨y,hy,hy2⟩:=i2 hlow
   rw[hdr h]at hy
   rcases List.mem_cons.1 hy with rfl | hy
   ·rw[←hpq]at hy2;rw[a2 hy2]at hl;cases hl
   ·exact ⟨y,hy,hy2⟩
  ·have hh:hg=false:=hh
   have hhigh:high=false:=by cases hc:high;rfl;rw[a3 hc]at hh;cases hh
   obtain ⟨y,hy,hy2⟩:=i3 hhigh
   rw[hdr h]at hy
   rcases List.mem_cons.1 hy with rfl | hy
   ·rw[←hpq]at hy2;rw[a4 hy2]at hh;cases hh
   ·exact ⟨y,hy,hy2⟩
 have hend:¬ i<M→low=true∧high=true:=fun h=>by
  rw[List.drop_eq_nil_of_le (by omega)]at i2 i3
  constructor
  ·cases hc:low
   ·obtain ⟨_,h,_⟩:=i2 hc;cases h
   ·rfl
  ·cases hc:high
   ·obtain ⟨_,h,_⟩:=i3 hc;cases h
   ·rfl
 clear hX i2 i3 hdr hpq
 by_cases h:i<M
 ·have hII:INB i M:=⟨i0,h⟩
  obtain ⟨x1,x2,x3⟩:=hxi h
  have hn1:=hnx h
  have hi2:=hi1 h
  clear hnx hend hxi hi1 jn3 en1 hix hok
  cases low <;> cases high
  all_goals
   cbv
   try simp only[nc_eq]at *
   rw[hlO,←hx,f0]
   dsimp only
   refine BR.lss r0 (fun _=>?_) (fun h1=>absurd h h1)
   rw[hi2]
   refine ⟨hII,hII,x1,BR.gtr r0 (fun h1=>absurd h1 (by omega)) (fun _=>BR.lss r0 (fun h1=>absurd h1 (by omega)) (fun _=>?_))⟩
   repeat' (first | (refine BR.eql r0 (fun hq=>?_) (fun hq=>?_)))
   all_goals refine hn1 _ _ ?_ ?_ ?_ ?_
   all_goals first | (intro _;rfl) | (intro h1;cases h1;done) | (intro h1;exact absurd h1 ‹_›)
 ·obtain ⟨hl1,hl2⟩:=hend h
  subst hl1 hl2
  clear hnx hend hxi hi1
  obtain ⟨⟨p',q'⟩,hpq⟩:∃ z,z=ownA l K:=⟨_,rfl⟩
  have f1:g5 l K=(p',q'):=by rw[←hg5,hpq]
  obtain ⟨k1,_,_,k4,k5,_⟩:=bo
  have oK:=own_ok k1 (b:=K) jn1 jn2
  rw[←hpq]at oK
  change -100≤p'∧p'≤q'∧q'≤100 at oK
  have s1:ar .sub .i64 lo p'=lo - p'∧ar .sub .i64 q' hi=q' - hi:=by
   rw[r1];exact ⟨wrap64 (n:=lo - p') (by omega) (by omega),wrap64 (n:=q' - hi) (by omega) (by omega)⟩
  have m0:=fun x y=>mx_t r6 x y
  obtain ⟨E,hE2⟩:∃ E,E=max 0 (lo - p')+max 0 (q' - hi):=⟨_,rfl⟩
  have a1:ar .add .i64 (max 0 (lo - p')) (max 0 (q' - hi))=E:=by rw[r1,hE2];exact wrap64 (n:=max 0 (lo - p')+max 0 (q' - hi)) (by omega) (by omega)
  have hIK:IXP l K:=⟨jn1,.inr jn2⟩
  have hle:∀ j:Int,0≤j→j<N→E≤max 0 (lo - (ownA l j).1)+max 0 ((ownA l j).2 - hi):=fun j j0 j1=>by
   have:=jn3 j j0 (by omega)
   unfold excA at this
   rw[←hpq]at this
   rw[hE2];exact this
  have hok2:∀ j:Int,0≤j→j<N→-100≤(ownA l j).1∧(ownA l j).1≤(ownA l j).2∧(ownA l j).2≤100:=fun j j0 j1=>own_ok k1 j0 (by omega)
  clear jn3 en1 hix hok
  cbv
  try simp only[nc_eq]at *
  rw[hlO,f1]
  dsimp only
  rw[s1.1,s1.2,m0,m0,a1]
  refine BR.lss r0 (fun h1=>absurd h1 h) (fun _=>⟨hIK,?_⟩)
  refine LOOP.ind (σ:=Int) (fun b=>[(0,.tl nl tA l),(9,.p (iv lo)),(10,.p (iv hi)),(12,.p (.v (.bool true))),(13,.p (.v (.bool true))),(17,.p (iv p')),(18,.p (iv q')),(19,.p (iv E)),(20,.p (iv b))]) (fun _=>⟨[],[(ml (ln tI O) 1,3)]⟩) (fun b=>(N - b).toNat) (fun b=>0≤b∧b≤N) 0 ⟨by omega,by omega⟩ (.inl ⟨rfl,rfl⟩) ?_
  intro b ⟨b0,b1⟩ X2 hX2
  obtain ⟨⟨u,v⟩,huv⟩:∃ z,z=ownA l b:=⟨_,rfl⟩
  have f2:g5 l b=(u,v):=by rw[←hg5,huv]
  have q1:b<N→-100≤u∧u≤v∧v≤100:=fun h=>by have:=hok2 b b0 h;rw[←huv]at this;exact this
  have q2:b<N→E≤max 0 (lo - u)+max 0 (v - hi):=fun h=>by have:=hle b b0 h;rw[←huv]at this;exact this
  have s2:b<N→ar .sub .i64 lo u=lo - u∧ar .sub .i64 v hi=v - hi:=fun h=>by
   have:=q1 h
   rw[r1];exact ⟨wrap64 (n:=lo - u) (by omega) (by omega),wrap64 (n:=v - hi) (by omega) (by omega)⟩
  have a2:b<N→ar .add .i64 (max 0 (lo - u)) (max 0 (v - hi))=max 0 (lo - u)+max 0 (v - hi):=fun h=>by
   have:=q1 h
   rw[r1];exact wrap64 (n:=max 0 (lo - u)+max 0 (v - hi)) (by omega) (by omega)
  have hb1:b<N→ar .add .i64 b 1=b+1:=fun h2=>by rw[r1];exact wrap64 (n:=b+1) (by omega) (by omega)
  have hnb:b<N→NEXT X2 [(0,.tl nl tA l),(9,.p (iv lo)),(10,.p (iv hi)),(12,.p (.v (.bool true))),(13,.p (.v (.bool true))),(17,.p (iv p')),(18,.p (iv q')),(19,.p (iv E)),(20,.p (iv (b+1)))] ⟨[],[(ml (ln tI O) 1,3)]⟩:=fun h=>NEXT.mk (hX2 (b+1) _ _ ⟨by omega,by omega⟩ (by show (N - (b+1)).toNat<(N - b).toNat;omega) (.inl ⟨rfl,rfl⟩))
  have hib:b<N→IXP l b:=fun h=>⟨b0,.inr (by omega)⟩
  clear hX2 hle hok2 huv hpq
  cbv
  try simp only[nc_eq]at *
  rw[hll,f2]
  dsimp only
  rw[m0,m0]
  refine BR.lss r0 (fun h=>?_) (fun _=>trivial)
  have hn:=hnb h
  have q1:=q1 h
  have q2:=q2 h
  rw[(s2 h).1,(s2 h).2,a2 h,hb1 h]
  clear s2 a2 hnb
  exact ⟨hib h,BR.lss r0 (fun h1=>absurd h1 (by omega)) (fun _=>BR.geq r0 (fun h2=>BR.leq r0 (fun h3=>BR.lss r0 (fun h4=>absurd h4 (by omega)) (fun _=>BR.gtr r0 (fun h4=>absurd h4 (by omega)) (fun _=>hn))) (fun _=>hn)) (fun _=>hn))⟩
theorem inside_typed:∀ xs,TyVs Tryz.prog [38,55] xs→PurFn Tryz.prog 7 (xs.map .p) (.v (.bool true)):=law2 (P:=Tryz.prog) (f:=7) (t1:=38) (t2:=55) (T1:=.sl tA) (T2:=.sl tB) (by kernel_rfl) fun l c hl hc=>cInside l.1 l.2 c.1 c.2 (fun x hx=>by have:=hc.2.2 x hx;simp[wfT,Lit.wf,IntKind.min,IntKind.max,IntKind.bits,IntKind.signed]at this;exact ⟨this.1,Int.lt_of_le_of_lt this.2 (by decide)⟩)
end Go.Ab
