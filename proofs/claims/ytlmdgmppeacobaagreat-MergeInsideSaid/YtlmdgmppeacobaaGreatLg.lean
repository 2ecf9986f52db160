/- Sums,differences and products of numbers. -/
import Derived.Test.YtlmdgmppeacobaaGreatLf
set_option linter.unusedSimpArgs false
set_option linter.unusedVariables false
set_option maxRecDepth 20000
set_option maxHeartbeats 4000000
namespace Go.Ab
open Go.Proofs
structure NM (l:List Int):Prop where
 cn:CN l
 len:l.length≤512
theorem NM.chk {l:List Int} (h:NM l):bchk l=0:=by
 have:=h.len
 unfold bchk endB
 rw[if_neg (by omega),if_neg]
 rw[decide_eq_true_eq]
 rintro ⟨h1,h2⟩
 exact h.cn.last (fun e=>by rw[e]at h1;simp at h1) h2
theorem NM.sh {l:List Int} (h:NM l):Sh l:=⟨by have:=h.len;omega⟩
theorem NM.chk2 {a b:List Int} (ha:NM a) (hb:NM b):bchk2 a b=0:=by unfold bchk2;rw[ha.chk,hb.chk];rfl
theorem NM.lm {v:Nat} (h:v<4294967296 ^ 512):NM (lm v):=⟨CN_lm v,(lm_len v 512).2 h⟩
structure ADK (N n:Nat) (a b:List Int) (s:Int) (f:List Int→Prop):Prop where
 pre:ADDP N a b s
 n:n=N
 h:∀ L,L.length=N→LB L→vl L=vl a+4294967296 ^ s.toNat*vl b→f L
def spAdd:OpsS→CallS:=fun _ _ ds st K=>match ds with
 | [.ms b0 0 1 none n,d,.p (.v (.int .i64 s))]=>(match getT tN d with
  | some b=>bxAt st b0 fun N q a=>ADK N n a b.2 s fun L=>frS [b0] [] [.ms 0 0 1 none N,injT tN b,injT tI s] ⟨[bxW N q a],[]⟩ (.tup []) ⟨[bxW N q L],[]⟩ [.ms b0 0 1 none N,injT tN b,injT tI s] st K
  | none=>False)
 | _=>False
theorem cAddK:∀ ds st K,spAdd OpsS.real 136 ds st K→FnS Tryz.prog 136 ds st K:=fun ds st K h=>by
 unfold spAdd at h
 split at h <;> first | exact h.elim | skip
 split at h <;> first | exact h.elim | skip
 rename_i b hd
 obtain ⟨N,q,a,h⟩:=bxAt_ex h
 obtain rfl:=h.n
 exact FnS.congA (frS_ok (cAddT q _ a _ b.1 b.2 _ h.pre rfl) (h.h _ (pad_len _ _) (pad_lb _ _) (pad_vl h.pre.v))) (by simp only[concL,getT_conc hd];rfl)
structure ADB (a b:List Int):Prop where
 pa:NM a
 pb:NM b
 v:vl a+vl b<4294967296 ^ 512
def addL (a b:List Int):List Int:=lm (vl a+vl b)
theorem cBAdd (na:Option Bool) (a:List Int) (nb:Option Bool) (b:List Int) (h:ADB a b):PurS Tryz.prog 116 [injT tN (na,a),injT tN (nb,b)] (.tup [.tl (some false) tW (addL a b),.p (iv 0)]):=by
 refine PurS.of (S:=[(109,_)]) (T:=[(132,_),(136,_)]) (U:=[]) (tbl:=[(137,ac137 none,[.tmp 2,.tmp 3],10)]) (n:=31) hm31 cfg (.cons (spT2.ok (a:=(.sl (.int .u32))) (b:=(.sl (.int .u32))) fun x0 x1 h=>cBChk2 x0.1 x0.2 x1.1 x1.2 h) .nil) (.cons cTrimT (.cons cAddK .nil)) .nil (.cons Tryz.call137 Tryz.func137 (ac137_ok none) (by rw[Tryz.ntmps137];exact Nat.le_refl _) .nil) 6 Tryz.call116 Tryz.func116 (ac116_ok (some (0,0))) (by rw[Tryz.ntmps116];exact Nat.le_refl _) rfl ⟨_,rfl⟩ ?_
 intro cmp ar cv tn ic ai mx an ad ml sb mn ln em gt up ap sc vw cp rp p1 p2 s1 s2 X Y hX hY r0 r1 r2 r3 r4 r5 r6 r7 r8 r9 r10 r11 r12 r13 r14 r15 r16 r17 r18 r19 r20 r21 r22 r23 r24
 generalize hg0:bchk2=g0
 generalize hg1:addL=g1
 cbv
 have hla:=h.pa.len
 have hlb:=h.pb.len
 obtain ⟨A,hA⟩:∃ A:Nat,A=a.length:=⟨_,rfl⟩
 obtain ⟨B,hB⟩:∃ B:Nat,B=b.length:=⟨_,rfl⟩
 have e1:ln tW a=A:=by rw[r12,hA]
 have e2:ln tW b=B:=by rw[r12,hB]
 rw[e1,e2]
 obtain ⟨M,hM⟩:∃ M:Int,M=ar .add .i64 (mx true (ic A) (ic B)) 1:=⟨_,rfl⟩
 have hMv:M=(max A B+1:Nat):=by
  rw[hM,r1,r4,r6]
  simp only[mxR,if_true]
  split
  ·rename_i hm;simp only[nc_eq]at hm
   exact (wrap64 (n:=(B:Int)+1) (by omega) (by omega)).trans (by omega)
  ·rename_i hm;simp only[nc_eq]at hm
   exact (wrap64 (n:=(A:Int)+1) (by omega) (by omega)).trans (by omega)
 obtain ⟨N,hN⟩:∃ N:Nat,N=tn M:=⟨_,rfl⟩
 have hNv:N=max A B+1:=by rw[hN,r3,hMv];rfl
 have hk:mn A N=A:=by rw[r11];show min A N=_;omega
 obtain ⟨Z,hZ⟩:∃ Z,Z=cp tW N (rp tW N 0) 0 a A:=⟨_,rfl⟩
 have hZv:Z=a ++ List.replicate (N - A) 0:=by
  rw[hZ,r19,r20];unfold cpR
  rw[Ty.norm_eq tW (by simp),List.take_zero,List.nil_append,hA,List.take_length,Nat.zero_add,List.drop_replicate]
 have hZl:Z.length=N:=by rw[hZv,List.length_append,List.length_replicate,←hA];omega
 have hc0:g0 a b=0:=by rw[←hg0];exact h.pa.chk2 h.pb
 have had:ad 0 A=A:=by rw[r8];exact Nat.zero_add _
 rw[←hM,←hN,hk,←hZ,had]
 have hvN:vl a+vl b<4294967296 ^ N:=by
  have h1:=vl_lt h.pa.cn.lb
  have h2:=vl_lt h.pb.cn.lb
  rw[←hA]at h1
  rw[←hB]at h2
  have h3:4294967296 ^ A≤4294967296 ^ (max A B):=Nat.pow_le_pow_right (by decide) (by omega)
  have h4:4294967296 ^ B≤4294967296 ^ (max A B):=Nat.pow_le_pow_right (by decide) (by omega)
  rw[hNv,Nat.pow_succ];omega
 have hZvl:vl Z=vl a:=by rw[hZv,vl_append,vl_rep,Nat.mul_zero,Nat.add_zero]
 have hN5:N≤513:=by omega
 have hmk:MK M M 4:=⟨by omega,Int.le_refl _,by omega,by simp only[maxLen];omega⟩
 have hpre:ADDP N Z b 0:=⟨by rw[hZv];exact h.pa.cn.lb.app (LB.rep _),h.pb.cn.lb,hZl,by decide,by omega,by omega,by rw[show (0:Int).toNat=0 from rfl,Nat.pow_zero,Nat.one_mul,hZvl];exact hvN⟩
 refine ⟨⟨h.pa.sh,h.pb.sh⟩,BR.neq r0 (fun h1=>absurd hc0 h1) (fun _=>?_)⟩
 refine ⟨hmk,⟨by omega⟩,ADK.mk hpre rfl ?_⟩
 intro L hL1 hL2 hL3
 rw[show (0:Int).toNat=0 from rfl,Nat.pow_zero,Nat.one_mul,hZvl]at hL3
 have hbig:=hpre.big
 clear hpre hmk
 cbv
 refine ⟨⟨⟨nlLe_self.2 trivial,trivial⟩,trivial⟩,TRK.mk ⟨hL2,hL1,Nat.le_refl _,hbig⟩ ?_⟩
 intro m hm
 rw[List.take_of_length_le (by omega),hL3]at hm
 have hm5:m≤512:=by rw[hm];exact (lm_len _ _).2 h.v
 have hnum:NUM N N L (vl a+vl b):=⟨hL1,Nat.le_refl _,hbig,hL2,by rw[List.take_of_length_le (by omega),hL3]⟩
 obtain ⟨_,htk,hmN⟩:=hnum.trim hm
 have hvw:vw tW N L 0 m=lm (vl a+vl b):=by
  rw[r18];unfold vwR
  rw[Ty.norm_eq tW hL1,List.drop_zero];exact htk
 have hfin:lm (vl a+vl b)=g1 a b:=by rw[←hg1];rfl
 have had2:ad 0 m=m:=by rw[r8];exact Nat.zero_add _
 have hic:ic m=m:=by rw[r4]
 clear hnum hL3 hL2 hL1 htk
 cbv
 try simp only[nc_eq]at *
 rw[hic,had2,hvw]
 exact BR.gtr r0 (fun h1=>by omega) fun _=>⟨⟨⟨hmN⟩,trivial⟩,⟨nlLe_self.2 trivial,hfin⟩,trivial⟩
structure SBB (na:Option Bool) (a b:List Int):Prop where
 pa:NM a
 pb:NM b
 nn:na=some false∨a≠[]
def subL (a b:List Int):List Int:=if vl a<vl b then [] else lm (vl a - vl b)
def subE (a b:List Int):Int:=if vl a<vl b then 7 else 0
theorem cBSub (na:Option Bool) (a:List Int) (nb:Option Bool) (b:List Int) (h:SBB na a b):PurS Tryz.prog 117 [injT tN (na,a),injT tN (nb,b)] (.tup [.tl none tW (subL a b),.p (iv (subE a b))]):=by
 refine PurS.of (S:=[(109,_),(112,_)]) (T:=[(110,_),(113,_)]) (U:=[]) (tbl:=[]) (n:=23) hm31 cfg (.cons (spT2.ok (a:=(.sl (.int .u32))) (b:=(.sl (.int .u32))) fun x0 x1 h=>cBChk2 x0.1 x0.2 x1.1 x1.2 h) (.cons (spT2.ok (a:=(.sl (.int .u32))) (b:=(.sl (.int .u32))) fun x0 x1 h=>cOrder x0.1 x0.2 x1.1 x1.2 h) .nil)) (.cons cClnT (.cons cSubtractT .nil)) .nil .nil 0 Tryz.call117 Tryz.func117 (ac117_ok (some (0,0))) (by rw[Tryz.ntmps117];exact Nat.le_refl _) rfl ⟨_,rfl⟩ ?_
 intro cmp ar cv tn ic ai mx an ad ml sb mn ln em gt up ap sc vw cp rp p1 p2 s1 s2 X Y hX hY r0 r1 r2 r3 r4 r5 r6 r7 r8 r9 r10 r11 r12 r13 r14 r15 r16 r17 r18 r19 r20 r21 r22 r23 r24
 generalize hg0:bchk2=g0
 generalize hg1:ordL=g1
 generalize hg2:subL=g2
 generalize hg3:subE=g3
 cbv
 have hc0:g0 a b=0:=by rw[←hg0];exact h.pa.chk2 h.pb
 have hla:=h.pa.len
 have hlb:=h.pb.len
 refine ⟨⟨h.pa.sh,h.pb.sh⟩,BR.neq r0 (fun h1=>absurd hc0 h1) (fun _=>?_)⟩
 refine ⟨⟨h.pa.cn,h.pb.cn,by omega,by omega⟩,BR.lss r0 (fun h1=>?_) (fun h1=>?_)⟩
 ·rw[←hg1]at h1
  have:=cmpN_neg.1 h1
  rw[←hg2,←hg3];unfold subL subE
  rw[if_pos this,if_pos this]
  exact ⟨⟨nlLe_none.2 trivial,rfl⟩,rfl,trivial⟩
 have hle:vl b≤vl a:=by
  rw[←hg1]at h1
  exact Nat.not_lt.1 fun h=>h1 (cmpN_neg.2 h)
 refine CLK.mk h.nn (by omega) ?_
 intro n hn
 have hta:a.take n=a:=by rw[hn,List.take_length]
 have hnn:NUM n n a (vl (a.take n)):=⟨hn.symm,Nat.le_refl _,by omega,h.pa.cn.lb,rfl⟩
 have hbl:b.length≤a.length:=by
  rcases Nat.lt_or_ge a.length b.length with h2 | h2
  ·have:=h.pa.cn.len_lt h.pb.cn h2;omega
  ·exact h2
 cbv
 refine ⟨⟨⟨nlLe_self.2 trivial,trivial⟩,trivial⟩,SBT.mk hnn h.pb.cn.lb (by rw[hn];exact hbl) (by rw[hta];exact hle) ?_⟩
 intro m L hL hm
 rw[hta]at hL hm
 obtain ⟨_,htk,hmN⟩:=hL.trim hm
 have hvw:vw tW n L 0 m=lm (vl a - vl b):=by
  rw[r18];unfold vwR
  rw[Ty.norm_eq tW hL.len,List.drop_zero];exact htk
 have had2:ad 0 m=m:=by rw[r8];exact Nat.zero_add _
 have hf1:lm (vl a - vl b)=g2 a b:=by rw[←hg2];unfold subL;rw[if_neg (by omega)]
 have hf2:0=g3 a b:=by rw[←hg3];unfold subE;rw[if_neg (by omega)]
 clear hL htk
 cbv
 try simp only[nc_eq]at *
 rw[had2,hvw]
 refine ⟨⟨⟨nlLe_self.2 trivial,trivial⟩,trivial⟩,⟨⟨hmN⟩,trivial⟩,⟨nlLe_none.2 trivial,hf1⟩,hf2,trivial⟩
end Go.Ab
