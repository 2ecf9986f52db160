/- The reference's parts,columns,the least rest,a basis. -/
import Derived.Test.YtjepihoacohboaaLf
import Derived.Test.YtjepihoacohboaaLA
set_option linter.unusedSimpArgs false
set_option linter.unusedVariables false
set_option maxRecDepth 20000
set_option maxHeartbeats 4000000
namespace Go.Ab
open Go.Proofs
def ofN (l:List Int):List Nat:=l.map Int.toNat
theorem ofN_plD (l:List Nat):ofN (plD l)=l:=by
 unfold ofN plD
 rw[List.map_map]
 have:(Int.toNat ∘ fun n:Nat=>(n:Int))=id:=by funext n;exact Int.toNat_natCast n
 rw[this,List.map_id]
theorem plD_len (l:List Nat):(plD l).length=l.length:=by simp[plD]
theorem plD_get {l:List Nat} {i:Int} (h0:0≤i) (h1:i<l.length):gtR tI (plD l) i=(l.getD i.toNat 0:Nat):=by
 show (plD l).getD i.toNat _=_
 unfold plD
 rw[List.getD_eq_getElem?_getD,List.getElem?_map,List.getElem?_eq_getElem (by omega),List.getD_eq_getElem?_getD,List.getElem?_eq_getElem (by omega)];rfl
theorem stB_get {b:List Int} {i:Int} (h0:0≤i) (h1:i<b.length):gtR tB (stB b i.toNat) i=b.getD i.toNat 0:=by
 show (stB b i.toNat).getD i.toNat 0=_
 unfold stB
 have e:(gbase (b.take i.toNat)).length=i.toNat:=by rw[gbase_len,List.length_take];omega
 rw[List.getD_eq_getElem?_getD,List.getElem?_append_right (by omega),e,Nat.sub_self,List.getElem?_drop,Nat.add_zero,List.getD_eq_getElem?_getD]
def gbaI (b:List Int):List Int:=gbase b
def gplI (b:List Int):List Int:=plD (gplaces b 0)
theorem cRParts (x:Int) (nb:Option Bool) (b:List Int) (h:OFP b):PurS Try.prog 48 [injT tG (x,nb,b)] (.tup [.tl none tB (gbaI b),.tl none tI (gplI b)]):=by
 refine PurS.of (S:=[]) (T:=[]) (U:=[]) (tbl:=[]) (n:=30) hm11 cfg .nil .nil .nil .nil 0 Try.call48 Try.func48 (ac48_ok (some (0,0))) (by rw[Try.ntmps48];exact Nat.le_refl _) rfl ⟨_,rfl⟩ ?_
 intro cmp ar cv tn ic ai mx an ad ml sb mn ln em gt up ap sc vw cp rp p1 p2 s1 s2 X Y hX hY r0 r1 r2 r3 r4 r5 r6 r7 r8 r9 r10 r11 r12 r13 r14 r15 r16 r17 r18 r19 r20 r21 r22 r23 r24
 generalize hg0:gbaI=g0
 generalize hg1:gplI=g1
 cbv
 obtain ⟨hgv,hl0,hl1⟩:=h
 have hbne:b≠[]:=fun e=>by subst e;simp at hl0
 have hem:em tB b=false:=by
  rw[r13]
  cases b with
  | nil=>exact absurd rfl hbne
  | cons=>rfl
 obtain ⟨zB,hzB⟩:∃ z,z=g0 b:=⟨_,rfl⟩
 obtain ⟨zP,hzP⟩:∃ z,z=g1 b:=⟨_,rfl⟩
 have hzB':zB=stB b b.length:=by rw[hzB,←hg0];unfold gbaI stB;rw[List.take_length,List.drop_length,List.append_nil]
 have hzP':zP=stP b b.length:=by rw[hzP,←hg1];unfold gplI stP;rw[List.take_length]
 rw[←hzB,←hzP]
 obtain ⟨M,hM⟩:∃ M:Nat,M=ln tB b:=⟨_,rfl⟩
 have hMb:M=b.length:=by rw[hM,r12]
 rw[hem,←hM]
 obtain ⟨N,hN⟩:∃ N:Int,N=b.length:=⟨_,rfl⟩
 have hic:ic M=N:=by rw[r4,hMb,hN]
 have hB0:stB b 0=b:=by unfold stB;rfl
 refine ⟨LIM_iff.2 ⟨by omega,by omega⟩,BR.mk (fun h=>by cases h) fun _=>?_⟩
 refine LOOP.ind (σ:=List Int×List Int×Int) (fun (O,Q,i)=>[(4,.ms 1 0 1 none M),(5,.og 0 tI Q),(6,.p (iv i))]) (fun (O,Q,i)=>⟨[{ cells:=[.p (iv x),.tl nb tB b],e:=24,fz:=false },{ cells:=[.arr M tB O],e:=5,fz:=false,ap:=true }],[(ml (ln tI Q) 1,3)]⟩) (fun (_,_,i)=>(N - i).toNat)
  (fun (O,Q,i)=>0≤i∧i≤N∧O=stB b i.toNat∧Q=stP b i.toNat) (b,[],0) ⟨by show (0:Int)≤0;omega,by show (0:Int)≤N;omega,rfl,rfl⟩ (.inr ⟨[some 0,some 1],[none],?_⟩) ?_
 ·rw[SIM_iff];cbv;simp[nlLe_self]
 intro ⟨O,Q,i⟩ hI X' hX
 obtain ⟨hI1,hI2,hI3,hI4⟩:=hI
 have hOl:O.length=M:=by rw[hI3,stB_len,hMb]
 have hQl:(Q.length:Int)≤N:=by have:=stP_len b i.toNat;rw[hI4,hN];omega
 obtain ⟨y,hy⟩:∃ y:Int,y=gt tB O i:=⟨_,rfl⟩
 have hyb:i<N→y=b.getD i.toNat 0:=fun h=>by rw[hy,r14,hI3];exact stB_get hI1 (by omega)
 have hadd:i<N→ar .add .i64 i 1=i+1:=fun h=>by rw[r1];exact wrap64 (n:=i+1) (by omega) (by omega)
 have hup:i<N→y=2→up tB M O i 0=stB b (i+1).toNat:=fun h h2=>by
  rw[r15];unfold upR;rw[Ty.norm_eq tB hOl,hI3,stB_two (by omega) (by rw[←hyb h];exact h2),show (i+1).toNat=i.toNat+1 by omega]
 have hap:i<N→y=2→ap tI Q [i]=stP b (i+1).toNat:=fun h h2=>by
  rw[r16,hI4,show (i+1).toNat=i.toNat+1 by omega,stP_two (by omega) (by rw[←hyb h];exact h2)]
  show stP b i.toNat ++ [i]=stP b i.toNat ++ [((i.toNat:Nat):Int)]
  rw[show ((i.toNat:Nat):Int)=i by omega]
 have hnoB:i<N→y≠2→O=stB b (i+1).toNat:=fun h h2=>by rw[show (i+1).toNat=i.toNat+1 by omega,stB_not (by omega) (by rw[←hyb h];exact h2),hI3]
 have hnoP:i<N→y≠2→Q=stP b (i+1).toNat:=fun h h2=>by rw[show (i+1).toNat=i.toNat+1 by omega,stP_not (by omega) (by rw[←hyb h];exact h2),hI4]
 have hvw:vw tB M O 0 M=O:=by rw[r18];exact vw_all (t:=tB) hOl
 have had:ad 0 M=M:=by rw[r8];exact Nat.zero_add M
 have hend:¬ i<N→O=zB∧Q=zP:=fun h=>by rw[hzB',hzP',hI3,hI4,show i.toNat=b.length by omega];exact ⟨rfl,rfl⟩
 have hlim:LIM (ad (ln tI Q) (ln tI [i])) 8:=by
  rw[r8,r12];show LIM (Q.length+1) 8
  exact LIM_iff.2 ⟨by omega,by omega⟩
 clear hI3 hI4
 cbv
 try simp only[nc_eq]at *
 rw[hic,←hy,hvw,had]
 refine BR.lss r0 (fun hc=>?_) fun hc=>?_
 ·have hi:INB i N:=⟨hI1,hc⟩
  rw[hadd hc]
  refine ⟨hi,hi,BR.eql r0 (fun h2=>?_) fun h2=>?_⟩
  ·rw[hup hc h2,hap hc h2]
   exact ⟨hi,hi,⟨rfl⟩,hlim,NEXT.mk (hX (_,_,i+1) _ _ ⟨by show 0≤i+1;omega,by show i+1≤N;omega,rfl,rfl⟩ (by show (N - (i+1)).toNat<(N - i).toNat;omega) (.inl ⟨rfl,rfl⟩))⟩
  ·exact NEXT.mk (hX (O,Q,i+1) _ _ ⟨by show 0≤i+1;omega,by show i+1≤N;omega,hnoB hc h2,hnoP hc h2⟩ (by show (N - (i+1)).toNat<(N - i).toNat;omega) (.inl ⟨rfl,rfl⟩))
 ·obtain ⟨e1,e2⟩:=hend hc
  exact ⟨⟨⟨Nat.le_refl _⟩,trivial⟩,⟨⟨nlLe_none.2 trivial,e1⟩,⟨nlLe_none.2 trivial,e2⟩,trivial⟩⟩
structure CLP (n:Int) (l:List Int) (f:Int):Prop where
 n0:24≤n
 n1:n≤200
 l0:∀ p∈l,0≤p∧p<n
 l1:l.length≤200
 f0:0≤f
 f1:f≤l.length
def colsI (n:Int) (l:List Int) (f:Int):List Int:=(l.drop f.toNat).map (colI n)
theorem colsI_end {n:Int} {l:List Int} {i:Int} (h:¬ i<l.length):colsI n l i=[]:=by unfold colsI;rw[gtR_end h];rfl
theorem colsI_step {n:Int} {l:List Int} {i:Int} (h0:0≤i) (h:i<l.length):colsI n l i=colI n (gtR tI l i) :: colsI n l (i+1):=by unfold colsI;rw[gtR_drop (t:=tI) h0 h];rfl
theorem cRCols (n:Int) (nl:Option Bool) (l:List Int) (f:Int) (h:CLP n l f):PurS Try.prog 65 [injT tI n,injT (.sl tI) (nl,l),injT tI f] (.tl none tI (colsI n l f)):=by
 refine PurS.of (S:=[(81,_)]) (T:=[]) (U:=[]) (tbl:=[]) (n:=26) hm11 cfg (.cons (spT2.ok (a:=(.int .i64)) (b:=(.int .i64)) fun x0 x1 h=>cRCol x0 x1 h) .nil) .nil .nil .nil 0 Try.call65 Try.func65 (ac65_ok (some (0,0))) (by rw[Try.ntmps65];exact Nat.le_refl _) rfl ⟨_,rfl⟩ ?_
 intro cmp ar cv tn ic ai mx an ad ml sb mn ln em gt up ap sc vw cp rp p1 p2 s1 s2 X Y hX hY r0 r1 r2 r3 r4 r5 r6 r7 r8 r9 r10 r11 r12 r13 r14 r15 r16 r17 r18 r19 r20 r21 r22 r23 r24
 generalize hg0:colsI=g0
 generalize hg1:colI=g1
 cbv
 obtain ⟨hn0,hn1,hl0,hl1,hf0,hf1⟩:=h
 have hla:ic (ln tI l)=l.length:=by rw[r4,r12]
 obtain ⟨z,hz⟩:∃ z,z=g0 n l f:=⟨_,rfl⟩
 rw[←hz]
 have hstp:∀ i:Int,0≤i→i<l.length→g0 n l i=g1 n (gtR tI l i) :: g0 n l (i+1):=fun i h0 h1=>by rw[←hg0,←hg1];exact colsI_step h0 h1
 have hnil:∀ i:Int,¬ i<l.length→g0 n l i=[]:=fun i h=>by rw[←hg0];exact colsI_end h
 obtain ⟨N,hN⟩:∃ N:Int,N=l.length:=⟨_,rfl⟩
 rw[←hN]at hla hf1
 refine LOOP.ind (σ:=List Int×Int) (fun (O,i)=>[(0,.p (iv n)),(1,.tl nl tI l),(7,.og 0 tI O),(8,.p (iv i))]) (fun (O,i)=>⟨[],[(ml (ln tI O) 1,3)]⟩) (fun (O,i)=>(N - i).toNat)
  (fun (O,i)=>0≤i∧i≤N∧O.length≤i∧O ++ g0 n l i=z) ([],f) ⟨hf0,hf1,by simpa using hf0,by rw[hz];rfl⟩ (.inr ⟨[],[none],?_⟩) ?_
 ·rw[SIM_iff];cbv;simp[nlLe_self]
 intro ⟨O,i⟩ hI X' hX
 obtain ⟨hI1,hI2,hI3,hI4⟩:=hI
 obtain ⟨y,hy⟩:∃ y:Int,y=gt tI l i:=⟨_,rfl⟩
 have hyb:i<N→0≤y∧y<n:=fun h=>by rw[hy,r14];exact hl0 _ (gtR_mem (t:=tI) hI1 (by omega))
 have hst:i<N→(O ++ [g1 n y]) ++ g0 n l (i+1)=z:=fun h=>by
  rw[←hI4,hstp i hI1 (by omega),hy,r14,List.append_assoc,List.singleton_append]
 have hend:¬ i<N→O=z:=fun h=>by rw[←hI4,hnil i (by omega),List.append_nil]
 have hadd:i<N→ar .add .i64 i 1=i+1:=fun h=>by rw[r1];exact wrap64 (n:=i+1) (by omega) (by omega)
 have hap:∀ c:Int,ap tI O [c]=O ++ [c]:=fun c=>by rw[r16]
 have hlim:∀ c:Int,i<N→LIM (ad (ln tI O) (ln tI [c])) 8:=fun c h=>by
  rw[r8,r12];show LIM (O.length+1) 8
  exact LIM_iff.2 ⟨by omega,by omega⟩
 clear hI4 hstp hnil
 cbv
 try simp only[nc_eq]at *
 rw[hla,←hy]
 refine BR.lss r0 (fun hc=>?_) fun hc=>⟨nlLe_none.2 trivial,hend hc⟩
 have hi:INB i N:=⟨hI1,hc⟩
 have hb:=hyb hc
 rw[hadd hc,hap]
 refine ⟨hi,hi,⟨by omega,hn0,hb.1,hb.2⟩,⟨rfl⟩,hlim _ hc,NEXT.mk (hX (O ++ [_],i+1) _ _ ⟨by omega,by omega,by rw[List.length_append,List.length_singleton];omega,hst hc⟩ (by show (N - (i+1)).toNat<(N - i).toNat;omega) (.inl ⟨rfl,rfl⟩))⟩
structure RDP (l:List Int) (x:Int):Prop where
 L:∃ m:List Nat,l=plD m∧ECH m∧(∀ a∈m,a<2 ^ 24)∧m.length≤200
 x0:0≤x
 x1:x≤16777215
def redI (l:List Int) (x:Int):Int:=(redV (ofN l) x.toNat:Nat)
theorem cRRed (nl:Option Bool) (l:List Int) (x:Int) (h:RDP l x):PurS Try.prog 66 [injT (.sl tI) (nl,l),injT tI x] (.p (iv (redI l x))):=by
 refine PurS.of (S:=[]) (T:=[]) (U:=[]) (tbl:=[]) (n:=29) hm11 cfg .nil .nil .nil .nil 0 Try.call66 Try.func66 (ac66_ok (some (0,0))) (by rw[Try.ntmps66];exact Nat.le_refl _) rfl ⟨_,rfl⟩ ?_
 intro cmp ar cv tn ic ai mx an ad ml sb mn ln em gt up ap sc vw cp rp p1 p2 s1 s2 X Y hX hY r0 r1 r2 r3 r4 r5 r6 r7 r8 r9 r10 r11 r12 r13 r14 r15 r16 r17 r18 r19 r20 r21 r22 r23 r24
 generalize hg0:redI=g0
 cbv
 obtain ⟨⟨m,hlm,hech,hlt,hml⟩,hx0,hx1⟩:=h
 obtain ⟨n,hxn⟩:∃ n:Nat,x=n:=⟨x.toNat,by omega⟩
 have hla:ic (ln tI l)=l.length:=by rw[r4,r12]
 have hlm':l.length=m.length:=by rw[hlm,plD_len]
 obtain ⟨z,hz⟩:∃ z,z=g0 l x:=⟨_,rfl⟩
 have hz':z=(redV m n:Nat):=by rw[hz,←hg0];unfold redI;rw[hlm,ofN_plD,hxn,Int.toNat_natCast]
 have hR:=redV_ok m n
 obtain ⟨R,hRe⟩:∃ R,R=redV m n:=⟨_,rfl⟩
 rw[←hRe]at hR hz'
 rw[←hz]
 obtain ⟨N,hN⟩:∃ N:Int,N=l.length:=⟨_,rfl⟩
 rw[←hN]at hla
 have huni:∀ v,inS m (v ^^^ R)→(∀ a∈m,¬ v ^^^ a<v)→v=R:=fun v h1 h2=>RDC.uniq hech (x:=v) ⟨by rw[Nat.xor_self];exact inS_zero _,h2⟩ ⟨h1,hR.m⟩
 have hel:∀ i:Int,0≤i→i<N→∃ a:Nat,a∈m∧a=m.getD i.toNat 0∧gt tI l i=(a:Int)∧a<2 ^ 24:=fun i h0 h1=>by
  have hm:m.getD i.toNat 0∈m:=by rw[List.getD_eq_getElem?_getD,List.getElem?_eq_getElem (by omega)];exact List.getElem_mem _
  exact ⟨_,hm,rfl,by rw[r14,hlm];exact plD_get h0 (by omega),hlt _ hm⟩
 have hall:∀ v:Nat,(∀ j:Nat,(j:Int)<N→¬ v ^^^ m.getD j 0<v)→∀ a∈m,¬ v ^^^ a<v:=fun v h a ha=>by
  obtain ⟨j,hj,rfl⟩:=List.mem_iff_getElem.1 ha
  have:=h j (by omega)
  rwa [List.getD_eq_getElem?_getD,List.getElem?_eq_getElem hj]at this
 clear hz hRe hlm hg0
 refine LOOP.ind (σ:=Bool×Int) (fun (ag,X)=>[(0,.tl nl tI l),(1,.p (iv X)),(5,.p (.v (.bool ag)))]) (fun _=>⟨[],[]⟩) (fun (ag,X)=>2*X.toNat+(if ag=true then 1 else 0))
  (fun (ag,X)=>∃ v:Nat,X=v∧v<2 ^ 24∧inS m (v ^^^ R)∧(ag=false→v=R)) (true,x) ⟨n,hxn,by omega,hR.s,fun h=>by cases h⟩ (.inl ⟨rfl,rfl⟩) ?_
 intro ⟨ag,X⟩ hJ X2 hY
 obtain ⟨v,hJ1,hJ2,hJ3,hJ4⟩:=hJ
 cases ag
 ·have he:X=z:=by rw[hJ1,hz',hJ4 rfl]
  cbv
  exact he
 cbv
 try simp only[nc_eq]at *
 refine LOOP.ind (σ:=Bool×Int×Int) (fun (ag,V,i)=>[(0,.tl nl tI l),(1,.p (iv V)),(5,.p (.v (.bool ag))),(6,.p (iv i))]) (fun _=>⟨[],[]⟩) (fun (_,_,i)=>(N - i).toNat)
  (fun (ag,V,i)=>0≤i∧i≤N∧∃ u:Nat,V=u∧u<2 ^ 24∧inS m (u ^^^ R)∧(ag=true→u<v)∧(ag=false→u=v∧∀ j:Nat,(j:Int)<i→¬ v ^^^ m.getD j 0<v)) (false,X,0) ⟨by show (0:Int)≤0;omega,by show (0:Int)≤N;omega,v,hJ1,hJ2,hJ3,(fun h=>by cases h),(fun _=>⟨rfl,fun j hj=>absurd hj (by show ¬ (j:Int)<0;omega)⟩)⟩ (.inl ⟨rfl,rfl⟩) ?_
 intro ⟨ag,V,i⟩ hI X3 hZ
 obtain ⟨hI1,hI2,u,hI3,hI4,hI5,hI6,hI7⟩:=hI
 obtain ⟨y,hy⟩:∃ y:Int,y=gt tI l i:=⟨_,rfl⟩
 obtain ⟨w,hw⟩:∃ w:Int,w=ar .xor .i64 V y:=⟨_,rfl⟩
 have hadd:i<N→ar .add .i64 i 1=i+1:=fun h=>by rw[r1];exact wrap64 (n:=i+1) (by omega) (by omega)
 have hstep:i<N→∃ a:Nat,a∈m∧a=m.getD i.toNat 0∧w=(u ^^^ a:Nat)∧u ^^^ a<2 ^ 24:=fun h=>by
  obtain ⟨a,h1,h2,h3,h4⟩:=hel i hI1 h
  refine ⟨a,h1,h2,?_,Nat.xor_lt_two_pow hI4 h4⟩
  rw[hw,r1,hI3,hy,h3];exact xorI (by omega) (by omega)
 have hyes:i<N→w<V→NEXT X3 [(0,.tl nl tI l),(1,.p (iv w)),(5,.p (.v (.bool true))),(6,.p (iv (i+1)))] ⟨[],[]⟩:=fun h h2=>by
  obtain ⟨a,q1,q2,q3,q4⟩:=hstep h
  have hle:u≤v:=by
   cases ag
   ·exact Nat.le_of_eq (hI7 rfl).1
   ·exact Nat.le_of_lt (hI6 rfl)
  refine NEXT.mk (hZ (true,w,i+1) _ _ ⟨by show 0≤i+1;omega,by show i+1≤N;omega,u ^^^ a,q3,q4,?_,fun _=>by omega,fun h=>by cases h⟩ (by show (N - (i+1)).toNat<(N - i).toNat;omega) (.inl ⟨rfl,rfl⟩))
  have:=inS_xor hI5 (inS_mem q1)
  rwa [xor_swap]at this
 have hno:i<N→¬ w<V→NEXT X3 [(0,.tl nl tI l),(1,.p (iv V)),(5,.p (.v (.bool ag))),(6,.p (iv (i+1)))] ⟨[],[]⟩:=fun h h2=>by
  obtain ⟨a,q1,q2,q3,q4⟩:=hstep h
  refine NEXT.mk (hZ (ag,V,i+1) _ _ ⟨by show 0≤i+1;omega,by show i+1≤N;omega,u,hI3,hI4,hI5,hI6,fun e=>⟨(hI7 e).1,fun j hj=>?_⟩⟩ (by show (N - (i+1)).toNat<(N - i).toNat;omega) (.inl ⟨rfl,rfl⟩))
  obtain ⟨e1,e2⟩:=hI7 e
  by_cases hji:(j:Int)<i
  ·exact e2 j hji
  ·obtain rfl:j=i.toNat:=by have:(j:Int)<i+1:=hj;omega
   rw[←q2,←e1];omega
 have hend:¬ i<N→NEXT X2 [(0,.tl nl tI l),(1,.p (iv V)),(5,.p (.v (.bool ag)))] ⟨[],[]⟩:=fun h=>by
  refine NEXT.mk (hY (ag,V) _ _ ⟨u,hI3,hI4,hI5,fun e=>?_⟩ ?_ (.inl ⟨rfl,rfl⟩))
  ·obtain ⟨e1,e2⟩:=hI7 e
   subst e1
   exact huni u hI5 (hall u fun j hj=>e2 j (by omega))
  ·show 2*V.toNat+(if ag=true then 1 else 0)<2*X.toNat+1
   cases ag
   ·have:=(hI7 rfl).1
    rw[if_neg (by decide)];omega
   ·have:=hI6 rfl
    rw[if_pos rfl];omega
 clear hY hZ hstep hI6 hI7 hJ4 hI5 hJ3
 cbv
 try simp only[nc_eq]at *
 rw[hla,←hy,←hw]
 refine BR.lss r0 (fun hc=>?_) fun hc=>hend hc
 have hi:INB i N:=⟨hI1,hc⟩
 rw[hadd hc]
 exact ⟨hi,hi,BR.lss r0 (fun h=>⟨hi,hi,hyes hc h⟩) fun h=>hno hc h⟩
end Go.Ab
