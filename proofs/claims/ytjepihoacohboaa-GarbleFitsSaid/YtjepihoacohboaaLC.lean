/- The reference's basis,Power. -/
import Derived.Test.YtjepihoacohboaaLB
set_option linter.unusedSimpArgs false
set_option linter.unusedVariables false
set_option maxRecDepth 20000
set_option maxHeartbeats 4000000
namespace Go.Ab
open Go.Proofs
structure BSP (l:List Int):Prop where
 L:∃ cs:List Nat,l=plD cs∧(∀ c∈cs,c<2 ^ 24)∧cs.length≤200
def basI (l:List Int):List Int:=plD (basB (ofN l))
def mixL (B:List Nat) (x k:Nat):List Nat:=(B.take k).map (mixB x) ++ B.drop k
theorem mixL_len (B:List Nat) (x k:Nat):(mixL B x k).length=B.length:=by
 unfold mixL;rw[List.length_append,List.length_map,List.length_take,List.length_drop];omega
theorem mixL_get {B:List Nat} {x k:Nat} (h:k<B.length):(mixL B x k).getD k 0=B.getD k 0:=by
 unfold mixL
 rw[List.getD_eq_getElem?_getD,List.getElem?_append_right (by rw[List.length_map,List.length_take];omega),List.length_map,List.length_take,Nat.min_eq_left (Nat.le_of_lt h),Nat.sub_self,List.getElem?_drop,Nat.add_zero,List.getD_eq_getElem?_getD]
theorem mixL_succ {B:List Nat} {x k:Nat} (h:k<B.length):mixL B x (k+1)=(mixL B x k).set k (mixB x (B.getD k 0)):=by
 unfold mixL
 have e:((B.take k).map (mixB x)).length=k:=by rw[List.length_map,List.length_take];omega
 rw[List.set_append_right _ _ (by omega),e,Nat.sub_self,List.drop_eq_getElem_cons h,List.set_cons_zero,List.take_add_one,List.getElem?_eq_getElem h,List.getD_eq_getElem?_getD,List.getElem?_eq_getElem h]
 simp only[List.map_append,Option.toList_some,List.map_cons,List.map_nil,List.append_assoc,List.singleton_append,Option.getD_some]
theorem plD_set (l:List Nat) (k x:Nat):plD (l.set k x)=(plD l).set k (x:Int):=by unfold plD;rw[List.map_set]
theorem cRBas (nl:Option Bool) (l:List Int) (h:BSP l):PurS Try.prog 64 [injT (.sl tI) (nl,l)] (.tl none tI (basI l)):=by
 refine PurS.of (S:=[(66,_)]) (T:=[]) (U:=[]) (tbl:=[]) (n:=52) hm11 cfg (.cons (spT2.ok (a:=(.sl (.int .i64))) (b:=(.int .i64)) fun x0 x1 h=>cRRed x0.1 x0.2 x1 h) .nil) .nil .nil .nil 0 Try.call64 Try.func64 (ac64_ok (some (0,0))) (by rw[Try.ntmps64];exact Nat.le_refl _) rfl ⟨_,rfl⟩ ?_
 intro cmp ar cv tn ic ai mx an ad ml sb mn ln em gt up ap sc vw cp rp p1 p2 s1 s2 X Y hX hY r0 r1 r2 r3 r4 r5 r6 r7 r8 r9 r10 r11 r12 r13 r14 r15 r16 r17 r18 r19 r20 r21 r22 r23 r24
 generalize hg0:basI=g0
 generalize hg1:redI=g1
 cbv
 obtain ⟨cs,hlc,hlt,hln⟩:=h.L
 have hla:ic (ln tI l)=l.length:=by rw[r4,r12]
 have hlen:l.length=cs.length:=by rw[hlc,plD_len]
 obtain ⟨z,hz⟩:∃ z,z=g0 l:=⟨_,rfl⟩
 have hz':z=plD (basB cs):=by rw[hz,←hg0];unfold basI;rw[hlc,ofN_plD]
 rw[←hz]
 obtain ⟨N,hN⟩:∃ N:Int,N=l.length:=⟨_,rfl⟩
 rw[←hN]at hla
 refine LOOP.ind (σ:=Bool×Nat×List Int×Int) (fun (b,K,O,i)=>match b with
   | true=>[(0,.tl nl tI l),(3,.tl (some true) tI []),(4,.p (iv i))]
   | false=>[(0,.tl nl tI l),(3,.ms 0 0 1 none K),(4,.p (iv i))])
  (fun (b,K,O,i)=>match b with
   | true=>⟨[],[]⟩
   | false=>⟨[{ cells:=[.arr K tI O],e:=3,fz:=false,ap:=true }],[]⟩)
  (fun (_,_,_,i)=>(N - i).toNat)
  (fun (b,K,O,i)=>0≤i∧i≤N∧O=plD (basB (cs.take i.toNat))∧K=O.length∧(b=true→O=[])) (true,0,[],0) ⟨by show (0:Int)≤0;omega,by show (0:Int)≤N;omega,rfl,rfl,fun _=>rfl⟩ (.inr ⟨[],[],?_⟩) ?_
 ·rw[SIM_iff];cbv;simp[nlLe_self]
 intro ⟨b,K,O,i⟩ hI X' hX
 obtain ⟨hI1,hI2,hI3,hI4,hI5⟩:=hI
 have hBI:BI (cs.take i.toNat) (basB (cs.take i.toNat)):=basB_ok fun c hc=>hlt c (List.mem_of_mem_take hc)
 obtain ⟨B,hBe⟩:∃ B,B=basB (cs.take i.toNat):=⟨_,rfl⟩
 rw[←hBe]at hBI hI3
 have hKB:K=B.length:=by rw[hI4,hI3,plD_len]
 have hBl:(B.length:Int)≤i:=by have:=hBI.le;rw[List.length_take]at this;omega
 obtain ⟨y,hy⟩:∃ y:Int,y=gt tI l i:=⟨_,rfl⟩
 obtain ⟨x,hx⟩:∃ x:Int,x=g1 O y:=⟨_,rfl⟩
 have hall:i<N→∃ a r:Nat,y=a∧a<2 ^ 24∧x=r∧r<2 ^ 24∧(r=0→basB (cs.take (i+1).toNat)=B)∧(r≠0→basB (cs.take (i+1).toNat)=addB B r):=fun h=>by
  have hm:cs.getD i.toNat 0∈cs:=by rw[List.getD_eq_getElem?_getD,List.getElem?_eq_getElem (by omega)];exact List.getElem_mem _
  have ha:=hlt _ hm
  have hya:y=(cs.getD i.toNat 0:Nat):=by rw[hy,r14,hlc];exact plD_get hI1 (by omega)
  have hsc:basB (cs.take (i+1).toNat)=stepB B (cs.getD i.toNat 0):=by rw[show (i+1).toNat=i.toNat+1 by omega,basB_succ (by omega),←hBe]
  refine ⟨cs.getD i.toNat 0,redV B (cs.getD i.toNat 0),hya,ha,?_,Nat.lt_of_le_of_lt (redV_le _ _) ha,fun h0=>?_,fun h0=>?_⟩
  ·rw[hx,←hg1,hya,hI3];unfold redI;rw[ofN_plD,Int.toNat_natCast]
  ·rw[hsc];unfold stepB;rw[if_pos h0]
  ·rw[hsc];unfold stepB;rw[if_neg h0]
 have hrd:i<N→RDP O y:=fun h=>by
  obtain ⟨a,r,h1,h2,_⟩:=hall h
  exact ⟨⟨B,hI3,hBI.ech,hBI.lt,by omega⟩,by omega,by omega⟩
 have hadd:i<N→ar .add .i64 i 1=i+1:=fun h=>by rw[r1];exact wrap64 (n:=i+1) (by omega) (by omega)
 have hskip:∀ b,i<N→x=0→∀ ρ st,SIMX 0 0 ρ st (match b with
   | true=>[(0,.tl nl tI l),(3,.tl (some true) tI []),(4,.p (iv (i+1)))]
   | false=>[(0,.tl nl tI l),(3,.ms 0 0 1 none K),(4,.p (iv (i+1)))]) (match b with
   | true=>⟨[],[]⟩
   | false=>⟨[{ cells:=[.arr K tI O],e:=3,fz:=false,ap:=true }],[]⟩)→(b=true→O=[])→X' ρ st:=fun b h h0 ρ st hs hO=>by
  obtain ⟨a,r,h1,h2,h3,h4,h5,h6⟩:=hall h
  exact hX (b,K,O,i+1) _ _ ⟨by show 0≤i+1;omega,by show i+1≤N;omega,by rw[h5 (by omega)];exact hI3,hI4,hO⟩ (by show (N - (i+1)).toNat<(N - i).toNat;omega) hs
 have hend:¬ i<N→O=z:=fun h=>by rw[hz',hI3,hBe,List.take_of_length_le (by omega)]
 have hln:∀ c:Int,ln tI [c]=1:=fun c=>by rw[r12];rfl
 have hvw:vw tI K O 0 K=O:=by rw[r18];exact vw_all (t:=tI) hI4.symm
 have had:ad 0 K=K:=by rw[r8];exact Nat.zero_add K
 have hic:ic K=K:=by rw[r4]
 have hN200:N≤200:=by omega
 cases b
 ·clear hI5 hz' hlc hg0 hg1
  obtain ⟨k0,hk0⟩:∃ k0:Int,k0=K:=⟨_,rfl⟩
  have hk200:k0≤200:=by omega
  rw[←hk0]at hic
  cbv
  try simp only[nc_eq]at *
  rw[hla,←hy,hvw,had,←hx]
  refine BR.lss r0 (fun hc=>?_) fun hc=>⟨⟨Nat.le_refl _⟩,nlLe_none.2 trivial,hend hc⟩
  have hi:INB i N:=⟨hI1,hc⟩
  rw[hadd hc]
  refine ⟨hi,hi,⟨⟨Nat.le_refl _⟩,trivial⟩,hrd hc,BR.eql r0 (fun h0=>NEXT.mk (hskip false hc h0 _ _ (.inl ⟨rfl,rfl⟩) fun h=>by cases h)) fun h0=>?_⟩
  obtain ⟨a,r,h1,h2,h3,h4,h5,h6⟩:=hall hc
  have h6:=h6 (by omega)
  refine LOOP.ind (σ:=List Int×Int) (fun (_,k)=>[(0,.tl nl tI l),(3,.ms 0 0 1 none K),(4,.p (iv i)),(5,.p (iv x)),(6,.p (iv k))]) (fun (Q,_)=>⟨[{ cells:=[.arr K tI Q],e:=3,fz:=false,ap:=true }],[]⟩) (fun (_,k)=>(k0 - k).toNat)
   (fun (Q,k)=>0≤k∧k≤k0∧Q=plD (mixL B r k.toNat)) (O,0) ⟨by show (0:Int)≤0;omega,by show (0:Int)≤k0;omega,hI3⟩ (.inl ⟨rfl,rfl⟩) ?_
  intro ⟨Q,k⟩ hJ X3 hZ
  obtain ⟨hJ1,hJ2,hJ3⟩:=hJ
  have hQl:Q.length=K:=by rw[hJ3,plD_len,mixL_len,hKB]
  obtain ⟨q,hq⟩:∃ q:Int,q=gt tI Q k:=⟨_,rfl⟩
  obtain ⟨w,hw⟩:∃ w:Int,w=ar .xor .i64 q x:=⟨_,rfl⟩
  have hel:k<k0→q=(B.getD k.toNat 0:Nat)∧w=(B.getD k.toNat 0 ^^^ r:Nat):=fun h=>by
   have e1:q=(B.getD k.toNat 0:Nat):=by rw[hq,r14,hJ3,plD_get hJ1 (by rw[mixL_len];omega),mixL_get (by omega)]
   refine ⟨e1,?_⟩
   have hm:B.getD k.toNat 0∈B:=by rw[List.getD_eq_getElem?_getD,List.getElem?_eq_getElem (by omega)];exact List.getElem_mem _
   have:=hBI.lt _ hm
   rw[hw,r1,e1,h3];exact xorI (by omega) (by omega)
  have hstp:k<k0→plD (mixL B r (k+1).toNat)=Q.set k.toNat (if w<q then w else q):=fun h=>by
   obtain ⟨e1,e2⟩:=hel h
   rw[show (k+1).toNat=k.toNat+1 by omega,mixL_succ (by omega),plD_set,←hJ3]
   congr 1
   unfold mixB
   by_cases hlt:w<q
   ·rw[if_pos hlt,if_pos (by omega),e2]
   ·rw[if_neg hlt,if_neg (by omega),e1]
  have hyes:k<k0→w<q→up tI K Q k w=plD (mixL B r (k+1).toNat):=fun h h2=>by
   rw[hstp h,if_pos h2,r15];unfold upR;rw[Ty.norm_eq tI hQl]
  have hno:k<k0→¬ w<q→Q=plD (mixL B r (k+1).toNat):=fun h h2=>by
   rw[hstp h,if_neg h2,hq,r14]
   show Q=Q.set k.toNat (Q.getD k.toNat 0)
   rw[List.getD_eq_getElem?_getD,List.getElem?_eq_getElem (by omega)]
   exact (List.set_getElem_self (by omega)).symm
  have hkadd:k<k0→ar .add .i64 k 1=k+1:=fun h=>by rw[r1];exact wrap64 (n:=k+1) (by omega) (by omega)
  have hvq:vw tI K Q 0 K=Q:=by rw[r18];exact vw_all (t:=tI) hQl
  have hap:ap tI Q [x]=Q ++ [x]:=by rw[r16]
  have had1:ad K 1=K+1:=by rw[r8]
  have hfin:¬ k<k0→Q ++ [x]=plD (basB (cs.take (i+1).toNat)):=fun h=>by
   rw[h6,hJ3,show k.toNat=B.length by omega]
   unfold mixL addB plD
   rw[List.take_length,List.drop_length,List.append_nil,List.map_append,h3];rfl
  clear hstp hel hJ3 hskip hall h6
  cbv
  try simp only[nc_eq]at *
  rw[hic,←hq,←hw,hvq,hln,had1,hap,hadd hc]
  refine BR.lss r0 (fun hk=>?_) fun hk=>?_
  ·have hi:INB k k0:=⟨hJ1,hk⟩
   rw[hkadd hk]
   refine ⟨hi,hi,hi,hi,BR.lss r0 (fun h=>?_) fun h=>?_⟩
   ·refine ⟨hi,hi,hi,hi,NEXT.mk (hZ (_,k+1) _ _ ⟨by show 0≤k+1;omega,by show k+1≤k0;omega,hyes hk h⟩ (by show (k0 - (k+1)).toNat<(k0 - k).toNat;omega) (.inl ⟨rfl,rfl⟩))⟩
   ·exact NEXT.mk (hZ (_,k+1) _ _ ⟨by show 0≤k+1;omega,by show k+1≤k0;omega,hno hk h⟩ (by show (k0 - (k+1)).toNat<(k0 - k).toNat;omega) (.inl ⟨rfl,rfl⟩))
  ·refine ⟨⟨Nat.le_refl _⟩,LIM_iff.2 ⟨by omega,by omega⟩,NEXT.mk (hX (false,K+1,Q ++ [x],i+1) _ _ ⟨by show 0≤i+1;omega,by show i+1≤N;omega,hfin hk,by rw[List.length_append,hQl];rfl,fun h=>by cases h⟩ (by show (N - (i+1)).toNat<(N - i).toNat;omega) (.inr ⟨[some 1],[],?_⟩))⟩
   rw[SIM_iff];cbv;simp[nlLe_self]
 ·have hO:=hI5 rfl
  have hx0:g1 [] y=x:=by rw[hx,hO]
  have hend0:¬ i<N→[]=z:=fun h=>by rw[←hend h,hO]
  have hrd0:i<N→RDP [] y:=fun h=>by rw[←hO];exact hrd h
  have hB0:B=[]:=List.eq_nil_of_length_eq_zero (by rw[←hKB,hI4,hO];rfl)
  have hfin:i<N→x≠0→[x]=plD (basB (cs.take (i+1).toNat)):=fun h h0=>by
   obtain ⟨a,r,h1,h2,h3,h4,h5,h6⟩:=hall h
   rw[h6 (by omega),hB0]
   show [x]=[((r:Nat):Int)]
   rw[h3]
  have hz0:ic (ln tI [])=0:=by rw[r4,r12];rfl
  clear hI5 hz' hlc hg0 hg1 hall hI3 hrd hend
  cbv
  try simp only[nc_eq]at *
  rw[hla,←hy,hx0]
  refine BR.lss r0 (fun hc=>?_) fun hc=>⟨nlLe_none.2 trivial,hend0 hc⟩
  have hi:INB i N:=⟨hI1,hc⟩
  rw[hadd hc]
  refine ⟨hi,hi,hrd0 hc,BR.eql r0 (fun h0=>NEXT.mk (hskip true hc h0 _ _ (.inl ⟨rfl,rfl⟩) fun _=>hO)) fun h0=>?_⟩
  refine LOOP.ind (σ:=Unit) (fun _=>[(0,.tl nl tI l),(3,.tl (some true) tI []),(4,.p (iv i)),(5,.p (iv x)),(6,.p (iv 0))]) (fun _=>⟨[],[]⟩) (fun _=>0) (fun _=>True) () trivial (.inl ⟨rfl,rfl⟩) ?_
  intro _ _ X3 hZ
  have hfin:=hfin hc h0
  clear hskip
  cbv
  try simp only[nc_eq]at *
  rw[hz0,hln,hadd hc]
  refine BR.lss r0 (fun hk=>absurd hk (by decide)) fun _=>?_
  refine ⟨⟨Nat.le_refl _⟩,LIM_iff.2 ⟨by omega,by omega⟩,NEXT.mk (hX (false,1,[x],i+1) _ _ ⟨by show 0≤i+1;omega,by show i+1≤N;omega,hfin,rfl,fun h=>by cases h⟩ (by show (N - (i+1)).toNat<(N - i).toNat;omega) (.inl ⟨rfl,rfl⟩))⟩
structure PWP (b:List Int) (over:Int):Prop where
 b:OFP b
 o0:0≤over
 o1:over≤16777215
def powI (b:List Int) (over:Int):Int:=powR b over.toNat
theorem colsI_eq (b:List Int):colsI b.length (gplI b) 0=plD (colsG b):=by
 unfold colsI gplI colsG plD
 rw[show Int.toNat 0=0 from rfl,List.drop_zero,List.map_map,List.map_map]
 apply List.map_congr_left
 intro p _
 show ((col (b.length:Int).toNat (p:Int).toNat:Nat):Int)=_
 rw[Int.toNat_natCast,Int.toNat_natCast];rfl
theorem cRPow (x:Int) (nb:Option Bool) (b:List Int) (over:Int) (h:PWP b over):PurS Try.prog 43 [injT tG (x,nb,b),injT tI over] (.p (iv (powI b over))):=by
 refine PurS.of (S:=[(48,_),(65,_),(64,_),(66,_),(67,_)]) (T:=[]) (U:=[]) (tbl:=[]) (n:=30) hm11 cfg (.cons (spT1.ok (a:=(.pair (.int .i64) (.sl (.int .u8)))) fun x0 h=>cRParts x0.1 x0.2.1 x0.2.2 h) (.cons (spT3.ok (a:=(.int .i64)) (b:=(.sl (.int .i64))) (c:=(.int .i64)) fun x0 x1 x2 h=>cRCols x0 x1.1 x1.2 x2 h) (.cons (spT1.ok (a:=(.sl (.int .i64))) fun x0 h=>cRBas x0.1 x0.2 h) (.cons (spT2.ok (a:=(.sl (.int .i64))) (b:=(.int .i64)) fun x0 x1 h=>cRRed x0.1 x0.2 x1 h) (.cons (spT1.ok (a:=(.sl (.int .u8))) fun x0 h=>cROv x0.1 x0.2 h) .nil))))) .nil .nil .nil 0 Try.call43 Try.func43 (ac43_ok (some (0,0))) (by rw[Try.ntmps43];exact Nat.le_refl _) rfl ⟨_,rfl⟩ ?_
 intro cmp ar cv tn ic ai mx an ad ml sb mn ln em gt up ap sc vw cp rp p1 p2 s1 s2 X Y hX hY r0 r1 r2 r3 r4 r5 r6 r7 r8 r9 r10 r11 r12 r13 r14 r15 r16 r17 r18 r19 r20 r21 r22 r23 r24
 generalize hg0:powI=g0
 generalize hg1:gbaI=g1
 generalize hg2:gplI=g2
 generalize hg3:colsI=g3
 generalize hg4:basI=g4
 generalize hg5:redI=g5
 generalize hg6:ovI=g6
 cbv
 obtain ⟨hb,ho0,ho1⟩:=h
 have hl0:=hb.l0
 have hl1:=hb.l1
 have hgood:GOOD b over.toNat:=⟨hb.gv,hl0,by omega⟩
 have hpw:=powR_eq hgood
 have hce:=colsI_eq b
 have hbb:BITS (gbaI b):=gbase_bit hb.gv
 have hBl:(gbaI b).length=b.length:=gbase_len b
 have hPl:(gplI b).length=(gplaces b 0).length:=plD_len _
 have hPm:∀ p∈gplI b,0≤p∧p<b.length:=fun p hp=>by
  obtain ⟨n,hn,rfl⟩:=List.mem_map.1 hp
  have:=(gmem.1 hn).1
  exact ⟨by omega,by omega⟩
 have hpl:=gplaces_len b 0
 have hclt:=colsG_lt hl0
 have hcl:(colsG b).length=(gplaces b 0).length:=by simp[colsG]
 have hbi:=basB_ok hclt
 have hbas:basI (plD (colsG b))=plD (basB (colsG b)):=by unfold basI;rw[ofN_plD]
 have hov:ovI (gbaI b)=(ovN (gbase b):Nat):=rfl
 have hovl:=ovN_lt hbb (by rw[hBl];exact hl0)
 have htg:=hgood.tlt
 have hx:arR .xor .i64 (ovI (gbaI b)) over=(tgt b over.toNat:Nat):=by
  rw[hov,show over=((over.toNat:Nat):Int) by omega]
  show arR .xor .i64 (ovN (gbase b):Nat) (over.toNat:Nat)=_
  rw[xorI (by have:ovN (gbase b)<2 ^ 24:=hovl;omega) (by omega)];rfl
 have hred:redI (plD (basB (colsG b))) (tgt b over.toNat:Nat)=(redV (basB (colsG b)) (tgt b over.toNat):Nat):=by unfold redI;rw[ofN_plD,Int.toNat_natCast]
 have hp0:powI b over=powR b over.toNat:=rfl
 rw[hg0]at hp0
 rw[hg1]at hbb hBl hov hx
 rw[hg2]at hPl hPm hce
 rw[hg3]at hce
 rw[hg4]at hbas
 rw[hg5]at hred
 rw[hg6]at hov hx
 obtain ⟨C,hC⟩:∃ C,C=colsG b:=⟨_,rfl⟩
 obtain ⟨S,hS⟩:∃ S,S=plD C:=⟨_,rfl⟩
 obtain ⟨T,hT⟩:∃ T,T=basB C:=⟨_,rfl⟩
 obtain ⟨U,hU⟩:∃ U,U=plD T:=⟨_,rfl⟩
 obtain ⟨t,ht⟩:∃ t,t=tgt b over.toNat:=⟨_,rfl⟩
 obtain ⟨R,hR⟩:∃ R,R=redV T t:=⟨_,rfl⟩
 obtain ⟨B,hB⟩:∃ B,B=g1 b:=⟨_,rfl⟩
 obtain ⟨P,hP⟩:∃ P,P=g2 b:=⟨_,rfl⟩
 rw[←hC]at hce hclt hcl hbi hbas hred hpw
 rw[←hT]at hbi hbas hred hpw
 rw[←hS]at hce hbas
 rw[←hU]at hbas hred
 rw[←ht]at htg hx hred hpw
 rw[←hR]at hred hpw
 rw[←hB]at hbb hBl hov hx ⊢
 rw[←hP]at hPl hPm hce ⊢
 have hlB:ic (ln tB B)=b.length:=by rw[r4,r12,←hBl]
 have hlP:ic (ln tI P)=(gplaces b 0).length:=by rw[r4,r12,←hPl]
 have hlU:ic (ln tI U)=T.length:=by rw[r4,r12,hU];show ((plD T).length:Int)=_;rw[plD_len]
 have hxa:ar .xor .i64 (g6 B) over=t:=by rw[r1];exact hx
 rw[hlB,hce,hbas,hxa,hred,hlP,hlU]
 have hble:=hbi.le
 refine ⟨hb,⟨by omega,by omega,hPm,by omega,Int.le_refl _,Int.natCast_nonneg _⟩,⟨⟨C,hS,hclt,by omega⟩⟩,⟨hbb,by omega,by omega⟩,⟨⟨T,hU,hbi.ech,hbi.lt,by omega⟩,by omega,by omega⟩,BR.neq r0 (fun h=>?_) fun h=>?_⟩
 ·rw[hp0,hpw,if_pos (by omega)]
 ·rw[hp0,hpw,if_neg (by omega),r1]
  exact (wrap64 (n:=((gplaces b 0).length:Int) - (T.length:Nat)) (by omega) (by omega))
end Go.Ab
