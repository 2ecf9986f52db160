/- Sums,differences and products of numbers. -/
import Derived.Test.YtlmdgmppeacobaaGreatLf
set_option linter.unusedSimpArgs false
set_option linter.unusedVariables false
set_option maxRecDepth 20000
set_option maxHeartbeats 4000000
namespace Go.Ab
open Go.Proofs
structure NM (l:List Int):Prop where
 cn:CN l
 len:l.length≤512
theorem NM.chk {l:List Int} (h:NM l):bchk l=0:=by
 have:=h.len
 unfold bchk endB
 rw[if_neg (by omega),if_neg]
 rw[decide_eq_true_eq]
 rintro ⟨h1,h2⟩
 exact h.cn.last (fun e=>by rw[e]at h1;simp at h1) h2
theorem NM.sh {l:List Int} (h:NM l):Sh l:=⟨by have:=h.len;omega⟩
theorem NM.chk2 {a b:List Int} (ha:NM a) (hb:NM b):bchk2 a b=0:=by unfold bchk2;rw[ha.chk,hb.chk];rfl
theorem NM.lm {v:Nat} (h:v<4294967296 ^ 512):NM (lm v):=⟨CN_lm v,(lm_len v 512).2 h⟩
structure ADK (N n:Nat) (a b:List Int) (s:Int) (f:List Int→Prop):Prop where
 pre:ADDP N a b s
 n:n=N
 h:∀ L,L.length=N→LB L→vl L=vl a+4294967296 ^ s.toNat*vl b→f L
def spAdd:OpsS→CallS:=fun _ _ ds st K=>match ds with
 | [.ms b0 0 1 none n,d,.p (.v (.int .i64 s))]=>(match getT tN d with
  | some b=>bxAt st b0 fun N q a=>ADK N n a b.2 s fun L=>frS [b0] [] [.ms 0 0 1 none N,injT tN b,injT tI s] ⟨[bxW N q a],[]⟩ (.tup []) ⟨[bxW N q L],[]⟩ [.ms b0 0 1 none N,injT tN b,injT tI s] st K
  | none=>False)
 | _=>False
theorem cAddK:∀ ds st K,spAdd OpsS.real 136 ds st K→FnS Tryz.prog 136 ds st K:=fun ds st K h=>by
 unfold spAdd at h
 split at h <;> first | exact h.elim | skip
 split at h <;> first | exact h.elim | skip
 rename_i b hd
 obtain ⟨N,q,a,h⟩:=bxAt_ex h
 obtain rfl:=h.n
 exact FnS.congA (frS_ok (cAddT q _ a _ b.1 b.2 _ h.pre rfl) (h.h _ (pad_len _ _) (pad_lb _ _) (pad_vl h.pre.v))) (by simp only[concL,getT_conc hd];rfl)
structure ADB (a b:List Int):Prop where
 pa:NM a
 pb:NM b
 v:vl a+vl b<4294967296 ^ 512
def addL (a b:List Int):List Int:=lm (vl a+vl b)
theorem cBAdd (na:Option Bool) (a:List Int) (nb:Option Bool) (b:List Int) (h:ADB a b):PurS Tryz.prog 116 [injT tN (na,a),injT tN (nb,b)] (.tup [.tl (some false) tW (addL a b),.p (iv 0)]):=by
 refine PurS.of (S:=[(109,_)]) (T:=[(132,_),(136,_)]) (U:=[]) (tbl:=[(137,ac137 none,[.tmp 2,.tmp 3],10)]) (n:=31) hm31 cfg (.cons (spT2.ok (a:=(.sl (.int .u32))) (b:=(.sl (.int .u32))) fun x0 x1 h=>cBChk2 x0.1 x0.2 x1.1 x1.2 h) .nil) (.cons cTrimT (.cons cAddK .nil)) .nil (.cons Tryz.call137 Tryz.func137 (ac137_ok none) (by rw[Tryz.ntmps137];exact Nat.le_refl _) .nil) 6 Tryz.call116 Tryz.func116 (ac116_ok (some (0,0))) (by rw[Tryz.ntmps116];exact Nat.le_refl _) rfl ⟨_,rfl⟩ ?_
 intro cmp ar cv tn ic ai mx an ad ml sb mn ln em gt up ap sc vw cp rp p1 p2 s1 s2 X Y hX hY r0 r1 r2 r3 r4 r5 r6 r7 r8 r9 r10 r11 r12 r13 r14 r15 r16 r17 r18 r19 r20 r21 r22 r23 r24
 generalize hg0:bchk2=g0
 generalize hg1:addL=g1
 cbv
 have hla:=h.pa.len
 have hlb:=h.pb.len
 obtain ⟨A,hA⟩:∃ A:Nat,A=a.length:=⟨_,rfl⟩
 obtain ⟨B,hB⟩:∃ B:Nat,B=b.length:=⟨_,rfl⟩
 have e1:ln tW a=A:=by rw[r12,hA]
 have e2:ln tW b=B:=by rw[r12,hB]
 rw[e1,e2]
 obtain ⟨M,hM⟩:∃ M:Int,M=ar .add .i64 (mx true (ic A) (ic B)) 1:=⟨_,rfl⟩
 have hMv:M=(max A B+1:Nat):=by
  rw[hM,r1,r4,r6]
  simp only[mxR,if_true]
  split
  ·rename_i hm;simp only[nc_eq]at hm
   exact (wrap64 (n:=(B:Int)+1) (by omega) (by omega)).trans (by omega)
  ·rename_i hm;simp only[nc_eq]at hm
   exact (wrap64 (n:=(A:Int)+1) (by omega) (by omega)).trans (by omega)
 obtain ⟨N,hN⟩:∃ N:Nat,N=tn M:=⟨_,rfl⟩
 have hNv:N=max A B+1:=by rw[hN,r3,hMv];rfl
 have hk:mn A N=A:=by rw[r11];show min A N=_;omega
 obtain ⟨Z,hZ⟩:∃ Z,Z=cp tW N (rp tW N 0) 0 a A:=⟨_,rfl⟩
 have hZv:Z=a ++ List.replicate (N - A) 0:=by
  rw[hZ,r19,r20];unfold cpR
  rw[Ty.norm_eq tW (by simp),List.take_zero,List.nil_append,hA,List.take_length,Nat.zero_add,List.drop_replicate]
 have hZl:Z.length=N:=by rw[hZv,List.length_append,List.length_replicate,←hA];omega
 have hc0:g0 a b=0:=by rw[←hg0];exact h.pa.chk2 h.pb
 have had:ad 0 A=A:=by rw[r8];exact Nat.zero_add _
 rw[←hM,←hN,hk,←hZ,had]
 have hvN:vl a+vl b<4294967296 ^ N:=by
  have h1:=vl_lt h.pa.cn.lb
  have h2:=vl_lt h.pb.cn.lb
  rw[←hA]at h1
  rw[←hB]at h2
  have h3:4294967296 ^ A≤4294967296 ^ (max A B):=Nat.pow_le_pow_right (by decide) (by omega)
  have h4:4294967296 ^ B≤4294967296 ^ (max A B):=Nat.pow_le_pow_right (by decide) (by omega)
  rw[hNv,Nat.pow_succ];omega
 have hZvl:vl Z=vl a:=by rw[hZv,vl_append,vl_rep,Nat.mul_zero,Nat.add_zero]
 have hN5:N≤513:=by omega
 have hmk:MK M M 4:=⟨by omega,Int.le_refl _,by omega,by simp only[maxLen];omega⟩
 have hpre:ADDP N Z b 0:=⟨by rw[hZv];exact h.pa.cn.lb.app (LB.rep _),h.pb.cn.lb,hZl,by decide,by omega,by omega,by rw[show (0:Int).toNat=0 from rfl,Nat.pow_zero,Nat.one_mul,hZvl];exact hvN⟩
 refine ⟨⟨h.pa.sh,h.pb.sh⟩,BR.neq r0 (fun h1=>absurd hc0 h1) (fun _=>?_)⟩
 refine ⟨hmk,⟨by omega⟩,ADK.mk hpre rfl ?_⟩
 intro L hL1 hL2 hL3
 rw[show (0:Int).toNat=0 from rfl,Nat.pow_zero,Nat.one_mul,hZvl]at hL3
 have hbig:=hpre.big
 clear hpre hmk
 cbv
 refine ⟨⟨⟨nlLe_self.2 trivial,trivial⟩,trivial⟩,TRK.mk ⟨hL2,hL1,Nat.le_refl _,hbig⟩ ?_⟩
 intro m hm
 rw[List.take_of_length_le (by omega),hL3]at hm
 have hm5:m≤512:=by rw[hm];exact (lm_len _ _).2 h.v
 have hnum:NUM N N L (vl a+vl b):=⟨hL1,Nat.le_refl _,hbig,hL2,by rw[List.take_of_length_le (by omega),hL3]⟩
 obtain ⟨_,htk,hmN⟩:=hnum.trim hm
 have hvw:vw tW N L 0 m=lm (vl a+vl b):=by
  rw[r18];unfold vwR
  rw[Ty.norm_eq tW hL1,List.drop_zero];exact htk
 have hfin:lm (vl a+vl b)=g1 a b:=by rw[←hg1];rfl
 have had2:ad 0 m=m:=by rw[r8];exact Nat.zero_add _
 have hic:ic m=m:=by rw[r4]
 clear hnum hL3 hL2 hL1 htk
 cbv
 try simp only[nc_eq]at *
 rw[hic,had2,hvw]
 exact BR.gtr r0 (fun h1=>by omega) fun _=>⟨⟨⟨hmN⟩,trivial⟩,⟨nlLe_self.2 trivial,hfin⟩,trivial⟩
structure SBB (na:Option Bool) (a b:List Int):Prop where
 pa:NM a
 pb:NM b
 nn:na=some false∨a≠[]
def subL (a b:List Int):List Int:=if vl a<vl b then [] else lm (vl a - vl b)
def subE (a b:List Int):Int:=if vl a<vl b then 7 else 0
theorem cBSub (na:Option Bool) (a:List Int) (nb:Option Bool) (b:List Int) (h:SBB na a b):PurS Tryz.prog 117 [injT tN (na,a),injT tN (nb,b)] (.tup [.tl none tW (subL a b),.p (iv (subE a b))]):=by
 refine PurS.of (S:=[(109,_),(112,_)]) (T:=[(110,_),(113,_)]) (U:=[]) (tbl:=[]) (n:=23) hm31 cfg (.cons (spT2.ok (a:=(.sl (.int .u32))) (b:=(.sl (.int .u32))) fun x0 x1 h=>cBChk2 x0.1 x0.2 x1.1 x1.2 h) (.cons (spT2.ok (a:=(.sl (.int .u32))) (b:=(.sl (.int .u32))) fun x0 x1 h=>cOrder x0.1 x0.2 x1.1 x1.2 h) .nil)) (.cons cClnT (.cons cSubtractT .nil)) .nil .nil 0 Tryz.call117 Tryz.func117 (ac117_ok (some (0,0))) (by rw[Tryz.ntmps117];exact Nat.le_refl _) rfl ⟨_,rfl⟩ ?_
 intro cmp ar cv tn ic ai mx an ad ml sb mn ln em gt up ap sc vw cp rp p1 p2 s1 s2 X Y hX hY r0 r1 r2 r3 r4 r5 r6 r7 r8 r9 r10 r11 r12 r13 r14 r15 r16 r17 r18 r19 r20 r21 r22 r23 r24
 generalize hg0:bchk2=g0
 generalize hg1:ordL=g1
 generalize hg2:subL=g2
 generalize hg3:subE=g3
 cbv
 have hc0:g0 a b=0:=by rw[←hg0];exact h.pa.chk2 h.pb
 have hla:=h.pa.len
 have hlb:=h.pb.len
 refine ⟨⟨h.pa.sh,h.pb.sh⟩,BR.neq r0 (fun h1=>absurd hc0 h1) (fun _=>?_)⟩
 refine ⟨⟨h.pa.cn,h.pb.cn,by omega,by omega⟩,BR.lss r0 (fun h1=>?_) (fun h1=>?_)⟩
 ·rw[←hg1]at h1
  have:=cmpN_neg.1 h1
  rw[←hg2,←hg3];unfold subL subE
  rw[if_pos this,if_pos this]
  exact ⟨⟨nlLe_none.2 trivial,rfl⟩,rfl,trivial⟩
 have hle:vl b≤vl a:=by
  rw[←hg1]at h1
  exact Nat.not_lt.1 fun h=>h1 (cmpN_neg.2 h)
 refine CLK.mk h.nn (by omega) ?_
 intro n hn
 have hta:a.take n=a:=by rw[hn,List.take_length]
 have hnn:NUM n n a (vl (a.take n)):=⟨hn.symm,Nat.le_refl _,by omega,h.pa.cn.lb,rfl⟩
 have hbl:b.length≤a.length:=by
  rcases Nat.lt_or_ge a.length b.length with h2 | h2
  ·have:=h.pa.cn.len_lt h.pb.cn h2;omega
  ·exact h2
 cbv
 refine ⟨⟨⟨nlLe_self.2 trivial,trivial⟩,trivial⟩,SBT.mk hnn h.pb.cn.lb (by rw[hn];exact hbl) (by rw[hta];exact hle) ?_⟩
 intro m L hL hm
 rw[hta]at hL hm
 obtain ⟨_,htk,hmN⟩:=hL.trim hm
 have hvw:vw tW n L 0 m=lm (vl a - vl b):=by
  rw[r18];unfold vwR
  rw[Ty.norm_eq tW hL.len,List.drop_zero];exact htk
 have had2:ad 0 m=m:=by rw[r8];exact Nat.zero_add _
 have hf1:lm (vl a - vl b)=g2 a b:=by rw[←hg2];unfold subL;rw[if_neg (by omega)]
 have hf2:0=g3 a b:=by rw[←hg3];unfold subE;rw[if_neg (by omega)]
 clear hL htk
 cbv
 try simp only[nc_eq]at *
 rw[had2,hvw]
 refine ⟨⟨⟨nlLe_self.2 trivial,trivial⟩,trivial⟩,⟨⟨hmN⟩,trivial⟩,⟨nlLe_none.2 trivial,hf1⟩,hf2,trivial⟩
end Go.Ab
namespace Go.Ab
open Go.Proofs
structure MLB (a b:List Int):Prop where
 pa:NM a
 pb:NM b
 v:vl a*vl b<4294967296 ^ 512
def mulL (a b:List Int):List Int:=lm (vl a*vl b)
structure ROWI (R:Nat) (x:Nat) (b:List Int) (k:Nat) (r:List Int):Prop where
 len:r.length=R
 lb:LB r
 z:∀ j,k<j→r.getD j 0=0
 v:vl r=x*vl (b.take k)
theorem set_getD {l:List Int} {i j:Nat} {x:Int} (hi:i<l.length):(l.set i x).getD j 0=if i=j then x else l.getD j 0:=by
 simp only[List.getD_eq_getElem?_getD,List.getElem?_set]
 split
 ·rename_i h;subst h;simp[hi]
 ·rfl
theorem ROWI.step {R x:Nat} {b r:List Int} {k:Nat} (h:ROWI R x b k r) (hb:LB b) (hk:k<b.length) (hR:R=b.length+1) (hx:x<4294967296) :
  ∃ s:Nat,s=x*(b.getD k 0).toNat+(r.getD k 0).toNat∧s<18446744073709551616∧ROWI R x b (k+1) ((r.set k ((s % 4294967296:Nat):Int)).set (k+1) ((s / 4294967296:Nat):Int)):=by
 have hy:=hb.getD k
 have hr:=h.lb.getD k
 have hlen:=h.len
 refine ⟨_,rfl,?_,?_⟩
 ·have:x*(b.getD k 0).toNat≤4294967295*4294967295:=Nat.mul_le_mul (by omega) (by omega)
  omega
 obtain ⟨s,hs⟩:∃ s,s=x*(b.getD k 0).toNat+(r.getD k 0).toNat:=⟨_,rfl⟩
 have hs2:s<18446744073709551616:=by
  have:x*(b.getD k 0).toNat≤4294967295*4294967295:=Nat.mul_le_mul (by omega) (by omega)
  omega
 rw[←hs]
 have hl1:(r.set k ((s % 4294967296:Nat):Int)).length=R:=by rw[List.length_set];exact hlen
 refine ⟨by rw[List.length_set];exact hl1,(h.lb.set k (by omega) (by omega)).set (k+1) (by omega) (by omega),fun j hj=>?_,?_⟩
 ·rw[set_getD (by omega),if_neg (by omega),set_getD (by omega),if_neg (by omega)]
  exact h.z j (by omega)
 ·have e1:=vl_set (l:=r) (i:=k) (by omega) ((s % 4294967296:Nat):Int)
  have e2:=vl_set (l:=r.set k ((s % 4294967296:Nat):Int)) (i:=k+1) (by omega) ((s / 4294967296:Nat):Int)
  have e3:(r.set k ((s % 4294967296:Nat):Int)).getD (k+1) 0=0:=by
   rw[set_getD (by omega),if_neg (by omega)];exact h.z (k+1) (by omega)
  rw[e3,show (0:Int).toNat=0 from rfl,Nat.mul_zero,Nat.add_zero,Int.toNat_natCast]at e2
  rw[Int.toNat_natCast]at e1
  rw[e2,vl_take_succ hk,Nat.mul_add,←h.v]
  have e4:4294967296 ^ k*s=4294967296 ^ k*(s % 4294967296)+4294967296 ^ (k+1)*(s / 4294967296):=by
   have:=Nat.div_add_mod s 4294967296
   rw[Nat.pow_succ,Nat.mul_assoc,←Nat.mul_add];congr 1;omega
  have e5:x*(4294967296 ^ k*(b.getD k 0).toNat)=4294967296 ^ k*(x*(b.getD k 0).toNat):=by
   rw[←Nat.mul_assoc,Nat.mul_comm x,Nat.mul_assoc]
  have e6:=congrArg (fun n=>4294967296 ^ k*n) hs
  simp only[Nat.mul_add]at e6
  rw[e5]
  omega
theorem cBMul (na:Option Bool) (a:List Int) (nb:Option Bool) (b:List Int) (h:MLB a b):PurS Tryz.prog 115 [injT tN (na,a),injT tN (nb,b)] (.tup [.tl (some false) tW (mulL a b),.p (iv 0)]):=by
 refine PurS.of (S:=[(109,_)]) (T:=[(132,_),(136,_)]) (U:=[]) (tbl:=[(137,ac137 none,[.tmp 2,.tmp 3],10)]) (n:=78) hm31 cfg (.cons (spT2.ok (a:=(.sl (.int .u32))) (b:=(.sl (.int .u32))) fun x0 x1 h=>cBChk2 x0.1 x0.2 x1.1 x1.2 h) .nil) (.cons cTrimT (.cons cAddK .nil)) .nil (.cons Tryz.call137 Tryz.func137 (ac137_ok none) (by rw[Tryz.ntmps137];exact Nat.le_refl _) .nil) 6 Tryz.call115 Tryz.func115 (ac115_ok (some (0,0))) (by rw[Tryz.ntmps115];exact Nat.le_refl _) rfl ⟨_,rfl⟩ ?_
 intro cmp ar cv tn ic ai mx an ad ml sb mn ln em gt up ap sc vw cp rp p1 p2 s1 s2 X Y hX hY r0 r1 r2 r3 r4 r5 r6 r7 r8 r9 r10 r11 r12 r13 r14 r15 r16 r17 r18 r19 r20 r21 r22 r23 r24
 generalize hg0:bchk2=g0
 generalize hg1:mulL=g1
 cbv
 have hc0:g0 a b=0:=by rw[←hg0];exact h.pa.chk2 h.pb
 have hla:=h.pa.len
 have hlb:=h.pb.len
 obtain ⟨A,hA⟩:∃ A:Nat,A=a.length:=⟨_,rfl⟩
 obtain ⟨B,hB⟩:∃ B:Nat,B=b.length:=⟨_,rfl⟩
 have e1:ln tW a=A:=by rw[r12,hA]
 have e2:ln tW b=B:=by rw[r12,hB]
 rw[e1,e2]
 obtain ⟨M,hM⟩:∃ M:Int,M=ar .add .i64 (ar .add .i64 (ic A) (ic B)) 1:=⟨_,rfl⟩
 have hMv:M=(A+B+1:Nat):=by
  rw[hM,r1,r4]
  show arR .add .i64 (arR .add .i64 (A:Int) (B:Int)) 1=_
  rw[show arR .add .i64 (A:Int) (B:Int)=(A:Int)+B from wrap64 (n:=(A:Int)+B) (by omega) (by omega)]
  exact (wrap64 (n:=(A:Int)+B+1) (by omega) (by omega)).trans (by omega)
 obtain ⟨N,hN⟩:∃ N:Nat,N=tn M:=⟨_,rfl⟩
 have hNv:N=A+B+1:=by rw[hN,r3,hMv];rfl
 obtain ⟨Z,hZ⟩:∃ Z,Z=rp tW N 0:=⟨_,rfl⟩
 have hZv:Z=List.replicate N 0:=by rw[hZ,r20]
 have hmk:MK M M 4:=⟨by omega,Int.le_refl _,by omega,by simp only[maxLen];omega⟩
 rw[←hM,←hN,←hZ]
 refine ⟨⟨h.pa.sh,h.pb.sh⟩,BR.neq r0 (fun h1=>absurd hc0 h1) (fun _=>?_)⟩
 refine ⟨hmk,?_⟩
 obtain ⟨Ai,hAi⟩:∃ Ai:Int,Ai=A:=⟨_,rfl⟩
 have e3:ic A=Ai:=by rw[r4,hAi]
 have hicN:ic N=N:=by rw[r4]
 obtain ⟨Bi,hBi⟩:∃ Bi:Int,Bi=B:=⟨_,rfl⟩
 have e4:ic B=Bi:=by rw[r4,hBi]
 rw[e3]
 refine LOOP.ind (σ:=Int×List Int) (fun (i,_)=>[(1,.tl nb tW b),(7,.ms 0 0 1 none N),(27,.tl na tW a),(28,.p (iv Ai)),(29,.p (iv i))])
  (fun (_,o)=>⟨[bxW N true o],[]⟩) (fun (i,_)=>(Ai - i).toNat) (fun (i,o)=>0≤i∧i≤Ai∧o.length=N∧LB o∧vl o=vl (a.take i.toNat)*vl b) (0,Z)
  ⟨by decide,by show (0:Int)≤Ai;omega,by rw[hZv,List.length_replicate],by rw[hZv];exact LB.rep _,by rw[hZv,vl_rep];exact (Nat.zero_mul _).symm⟩ (.inl ⟨rfl,rfl⟩) ?_
 intro ⟨i,o⟩ hI X' hX
 obtain ⟨hI1,hI2,hol,hob,hov⟩:=hI
 obtain ⟨x,hx⟩:∃ x:Int,x=gt tW a i:=⟨_,rfl⟩
 have hx':x=a.getD i.toNat 0:=by rw[hx,r14];rfl
 have hxb:=h.pa.cn.lb.getD i.toNat
 have hadd:i<Ai→ar .add .i64 i 1=i+1:=fun h=>by rw[r1];exact wrap64 (n:=i+1) (by omega) (by omega)
 obtain ⟨Q,hQ⟩:∃ Q:Int,Q=ar .add .i64 Bi 1:=⟨_,rfl⟩
 have hQv:Q=(B+1:Nat):=by rw[hQ,r1];exact (wrap64 (n:=Bi+1) (by omega) (by omega)).trans (by omega)
 obtain ⟨R,hR⟩:∃ R:Nat,R=tn Q:=⟨_,rfl⟩
 have hRv:R=B+1:=by rw[hR,r3,hQv];rfl
 obtain ⟨Y0,hY0⟩:∃ Y0,Y0=rp tW R 0:=⟨_,rfl⟩
 have hY0v:Y0=List.replicate R 0:=by rw[hY0,r20]
 have hmk2:MK Q Q 4:=⟨by omega,Int.le_refl _,by omega,by simp only[maxLen];omega⟩
 have hicR:ic R=R:=by rw[r4]
 have hae:¬ i<Ai→vl o=vl a*vl b:=fun h=>by rw[hov,List.take_of_length_le (by omega)]
 have hN5:N≤1025:=by omega
 cbv
 try simp only[nc_eq]at *
 rw[e1,e2,e3,e4,←hx,←hQ,←hR,←hY0]
 refine BR.lss r0 (fun hc=>?_) (fun hc=>?_)
 ·have hia:INB i Ai:=⟨hI1,hc⟩
  refine ⟨hia,hia,hmk2,?_⟩
  obtain ⟨xn,hxn⟩:∃ xn:Nat,(xn:Int)=x:=⟨x.toNat,by omega⟩
  refine LOOP.ind (σ:=Int×Int×List Int) (fun (k,_,_)=>[(1,.tl nb tW b),(7,.ms 0 0 1 none N),(8,.p (iv i)),(9,.p (uw x)),(10,.ms 1 0 1 none R),(27,.tl na tW a),(28,.p (iv Ai)),(29,.p (iv i)),(38,.tl nb tW b),(39,.p (iv Bi)),(40,.p (iv k))])
   (fun (_,_,r)=>⟨[bxW N true o,bxW R true r],[]⟩) (fun (k,_,_)=>(Bi - k).toNat) (fun (k,_,r)=>0≤k∧k≤Bi∧ROWI R xn b k.toNat r) (0,0,Y0)
   ⟨by decide,by show (0:Int)≤Bi;omega,⟨by rw[hY0v,List.length_replicate],by rw[hY0v];exact LB.rep _,fun j _=>by rw[hY0v];simp[List.getD_eq_getElem?_getD,List.getElem?_replicate];split <;> rfl,by rw[hY0v,vl_rep];rfl⟩⟩ (.inl ⟨rfl,rfl⟩) ?_
  intro ⟨k,z,r⟩ hJ X2 hY
  obtain ⟨hJ1,hJ2,hr⟩:=hJ
  obtain ⟨y,hy⟩:∃ y:Int,y=gt tW b k:=⟨_,rfl⟩
  have hy':y=b.getD k.toNat 0:=by rw[hy,r14];rfl
  have hyb:=h.pb.cn.lb.getD k.toNat
  obtain ⟨w,hw⟩:∃ w:Int,w=gt tW r k:=⟨_,rfl⟩
  have hw':w=r.getD k.toNat 0:=by rw[hw,r14];rfl
  have hwb:=hr.lb.getD k.toNat
  have hadk:k<Bi→ar .add .i64 k 1=k+1:=fun h=>by rw[r1];exact wrap64 (n:=k+1) (by omega) (by omega)
  have hvr:vw tW R r 0 R=r:=by rw[r18];unfold vwR;rw[Ty.norm_eq tW hr.len,List.drop_zero,←hr.len,List.take_length]
  obtain ⟨S,hS⟩:∃ S:Int,S=ar .add .u64 (ar .mul .u64 (cv .u64 x) (cv .u64 y)) (cv .u64 w):=⟨_,rfl⟩
  cbv
  try simp only[nc_eq]at *
  rw[e2,e4,hicR,←hy,←hw,←hS]
  refine BR.lss r0 (fun hkc=>?_) (fun hkc=>?_)
  ·have hik:INB k Bi:=⟨hJ1,hkc⟩
   have hiR:INB k R:=⟨hJ1,by omega⟩
   have hiR1:INB (k+1) R:=⟨by omega,by omega⟩
   obtain ⟨s,hs1,hs2,hs3⟩:=hr.step h.pb.cn.lb (by omega) (by omega) (by omega)
   have hSs:S=s:=by
    rw[←hy',←hw']at hs1
    have e:x*y+w=(s:Int):=by
     rw[hs1,←hxn,Int.natCast_add,Int.natCast_mul]
     rw[show ((y.toNat:Nat):Int)=y by omega,show ((w.toNat:Nat):Int)=w by omega]
    have hxy:0≤x*y:=Int.mul_nonneg (by omega) (by omega)
    have w1:IntKind.wrap .u64 x=x:=wrap_u64 (by omega) (by omega)
    have w2:IntKind.wrap .u64 y=y:=wrap_u64 (by omega) (by omega)
    have w3:IntKind.wrap .u64 w=w:=wrap_u64 (by omega) (by omega)
    rw[hS,r1,r2]
    show IntKind.wrap .u64 (IntKind.wrap .u64 (IntKind.wrap .u64 x*IntKind.wrap .u64 y)+IntKind.wrap .u64 w)=_
    rw[w1,w2,w3,wrap_u64 (x:=x*y) hxy (by omega),wrap_u64 (by omega) (by omega),e]
   have v1:cv .u32 S=((s % 4294967296:Nat):Int):=by rw[r2,hSs];show IntKind.wrap .u32 (s:Int)=_;rw[wrap_u32];omega
   have v2:cv .u32 (ar .shr .u64 S 32)=((s / 4294967296:Nat):Int):=by
    rw[r1,r2,hSs]
    show IntKind.wrap .u32 (Int.fdiv (s:Int) 4294967296)=_
    rw[Int.fdiv_eq_ediv_of_nonneg _ (by decide),wrap_u32];omega
   have u1:∀ z:Int,up tW R r k z=r.set k.toNat z:=fun z=>by rw[r15];exact set_up hr.len _ _
   have u2:∀ z z':Int,up tW R (r.set k.toNat z') (k+1) z=(r.set k.toNat z').set (k.toNat+1) z:=fun z z'=>by rw[r15,set_up (by rw[List.length_set];exact hr.len),show (k+1).toNat=k.toNat+1 by omega]
   rw[hadk hkc,v1,v2,u1,u2]
   refine ⟨hik,hik,hiR,hiR,⟨by decide⟩,hiR,hiR,hiR1,hiR1,NEXT.mk (hY (k+1,0,_) _ _ ⟨by show 0≤k+1;omega,by show k+1≤Bi;omega,by rw[show (k+1).toNat=k.toNat+1 by omega];exact hs3⟩ (by show (Bi - (k+1)).toNat<(Bi - k).toNat;omega) (.inl ⟨rfl,rfl⟩))⟩
  ·rw[hvr]
   have hrv:vl r=xn*vl b:=by rw[hr.v,List.take_of_length_le (by omega)]
   have hV:vl o+4294967296 ^ i.toNat*vl r=vl (a.take (i+1).toNat)*vl b:=by
    rw[hov,hrv,show (i+1).toNat=i.toNat+1 by omega,vl_take_succ (by omega),←hx',Nat.add_mul,←hxn,Int.toNat_natCast,Nat.mul_assoc]
   have hpre:ADDP N o r i:=⟨hob,hr.lb,hol,hI1,by rw[hr.len];omega,by omega,by
    rw[hV]
    have h1:=vl_lt (h.pa.cn.lb.take (i+1).toNat)
    have h2:=vl_lt h.pb.cn.lb
    have h3:4294967296 ^ (a.take (i+1).toNat).length≤4294967296 ^ A:=Nat.pow_le_pow_right (by decide) (by rw[List.length_take];omega)
    have h4:vl (a.take (i+1).toNat)*vl b≤4294967296 ^ A*4294967296 ^ B:=Nat.mul_le_mul (by omega) (by rw[hB];omega)
    have h5:4294967296 ^ A*4294967296 ^ B<4294967296 ^ N:=by rw[←Nat.pow_add];exact Nat.pow_lt_pow_right (by decide) (by omega)
    omega⟩
   refine ⟨⟨Nat.le_refl _⟩,ADK.mk hpre rfl ?_⟩
   intro L hL1 hL2 hL3
   rw[hV]at hL3
   cbv
   rw[hadd hc]
   refine ⟨⟨⟨nlLe_self.2 trivial,trivial⟩,trivial⟩,NEXT.mk (hX (i+1,L) _ _ ⟨by show 0≤i+1;omega,by show i+1≤Ai;omega,hL1,hL2,hL3⟩ (by show (Ai - (i+1)).toNat<(Ai - i).toNat;omega) (.inr ⟨[some 0],[],?_⟩))⟩
   rw[SIM_iff];cbv;simp[nlLe_self]
 ·have hvo:=hae hc
  refine TRK.mk ⟨hob,hol,Nat.le_refl _,by omega⟩ ?_
  intro m hm
  rw[List.take_of_length_le (by omega),hvo]at hm
  have hm5:m≤512:=by rw[hm];exact (lm_len _ _).2 h.v
  have hnum:NUM N N o (vl a*vl b):=⟨hol,Nat.le_refl _,by omega,hob,by rw[List.take_of_length_le (by omega),hvo]⟩
  obtain ⟨_,htk,hmN⟩:=hnum.trim hm
  have hvw:vw tW N o 0 m=lm (vl a*vl b):=by
   rw[r18];unfold vwR
   rw[Ty.norm_eq tW hol,List.drop_zero];exact htk
  have hfin:lm (vl a*vl b)=g1 a b:=by rw[←hg1];rfl
  have had2:ad 0 m=m:=by rw[r8];exact Nat.zero_add _
  have hic:ic m=m:=by rw[r4]
  clear hnum htk
  cbv
  try simp only[nc_eq]at *
  rw[hic,had2,hvw]
  exact BR.gtr r0 (fun h1=>by omega) fun _=>⟨⟨⟨hmN⟩,trivial⟩,⟨nlLe_self.2 trivial,hfin⟩,trivial⟩
end Go.Ab
