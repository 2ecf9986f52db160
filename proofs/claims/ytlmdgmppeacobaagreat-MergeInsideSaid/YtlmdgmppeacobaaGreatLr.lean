/- The reference's rational numbers. -/
import Derived.Test.YtlmdgmppeacobaaGreatLq
set_option linter.unusedSimpArgs false
set_option linter.unusedVariables false
set_option maxRecDepth 20000
set_option maxHeartbeats 4000000
namespace Go.Ab
open Go.Proofs
def natL (n:Int):List Int:=lm n.toNat
theorem cRFrom5 (n:Int) (h:INB n 18446744073709551616):PurS Tryz.prog 108 [injT tV n] (.tl none tW (natL n)):=by
 refine PurS.of (S:=[(118,_)]) (T:=[]) (U:=[]) (tbl:=[]) (n:=11) hm31 cfg (.cons (spT1.ok (a:=(.sl (.int .u32))) fun x0 h=>cRCut x0.1 x0.2 h) .nil) .nil .nil .nil 0 Tryz.call108 Tryz.func108 (ac108_ok (some (0,0))) (by rw[Tryz.ntmps108];exact Nat.le_refl _) rfl ⟨_,rfl⟩ ?_
 intro cmp ar cv tn ic ai mx an ad ml sb mn ln em gt up ap sc vw cp rp p1 p2 s1 s2 X Y hX hY r0 r1 r2 r3 r4 r5 r6 r7 r8 r9 r10 r11 r12 r13 r14 r15 r16 r17 r18 r19 r20 r21 r22 r23 r24
 generalize hg0:natL=g0
 generalize hg1:trm=g1
 cbv
 have h0:=h.lo
 have h1:=h.hi
 have hN:NZ 4294967296:=⟨by decide⟩
 have e1:cv .u32 (ar .rem .u64 n 4294967296)=n % 4294967296:=by
  rw[r2,r1]
  show IntKind.wrap .u32 (Int.tmod n 4294967296)=_
  rw[Int.tmod_eq_emod_of_nonneg h0,wrap_u32,Int.emod_emod]
 have e2:cv .u32 (ar .quo .u64 n 4294967296)=n / 4294967296:=by
  rw[r2,r1]
  show IntKind.wrap .u32 (IntKind.wrap .u64 (Int.tdiv n 4294967296))=_
  rw[Int.tdiv_eq_ediv_of_nonneg h0,wrap_u64 (by omega) (by omega),wrap_u32]
  omega
 dsimp only
 rw[e1,e2]
 refine ⟨hN,hN,⟨.cons (by omega) (by omega) (.cons (by omega) (by omega) .nil),by show 2≤100000;decide⟩,nlLe_none.2 trivial,?_⟩
 rw[←hg0,←hg1];unfold trm natL
 congr 1
 show (n % 4294967296).toNat+4294967296*((n / 4294967296).toNat+4294967296*0)=n.toNat
 omega
def absL (n:Int):List Int:=lm n.natAbs
structure I64 (n:Int):Prop where
 lo : -9223372036854775808≤n
 hi:n<9223372036854775808
theorem cRNat (n:Int) (h:I64 n):PurS Tryz.prog 82 [injT tI n] (.tl none tW (absL n)):=by
 refine PurS.of (S:=[(108,_)]) (T:=[]) (U:=[]) (tbl:=[]) (n:=12) hm31 cfg (.cons (spT1.ok (a:=(.int .u64)) fun x0 h=>cRFrom5 x0 h) .nil) .nil .nil .nil 0 Tryz.call82 Tryz.func82 (ac82_ok (some (0,0))) (by rw[Tryz.ntmps82];exact Nat.le_refl _) rfl ⟨_,rfl⟩ ?_
 intro cmp ar cv tn ic ai mx an ad ml sb mn ln em gt up ap sc vw cp rp p1 p2 s1 s2 X Y hX hY r0 r1 r2 r3 r4 r5 r6 r7 r8 r9 r10 r11 r12 r13 r14 r15 r16 r17 r18 r19 r20 r21 r22 r23 r24
 generalize hg0:natL=g0
 generalize hg1:absL=g1
 cbv
 have lo:=h.lo
 have hi:=h.hi
 have e:∀ k,g0 k=lm k.toNat:=fun k=>by rw[←hg0];rfl
 have e1:g1 n=lm n.natAbs:=by rw[←hg1];rfl
 rw[e1]
 refine BR.lss r0 (fun h0=>?_) (fun h0=>?_)
 ·have w1:cv .u64 n=n+18446744073709551616:=by
   rw[r2];show n % 18446744073709551616=_;omega
  have w2:ar .sub .u64 0 (cv .u64 n) = -n:=by
   rw[w1,r1];show (0 - (n+18446744073709551616)) % 18446744073709551616=_;omega
  rw[w2,e]
  exact ⟨⟨by omega,by omega⟩,nlLe_none.2 trivial,by rw[show (-n).toNat=n.natAbs by omega]⟩
 ·have w1:cv .u64 n=n:=by rw[r2];exact wrap_u64 (by omega) (by omega)
  rw[w1,e]
  exact ⟨⟨by omega,by omega⟩,nlLe_none.2 trivial,by rw[show n.toNat=n.natAbs by omega]⟩
theorem cOne  : PurS Tryz.prog 83 [] (.tl none tW [1]):=by
 refine PurS.of (S:=[]) (T:=[]) (U:=[]) (tbl:=[]) (n:=2) hm31 cfg .nil .nil .nil .nil 0 Tryz.call83 Tryz.func83 (ac83_ok (some (0,0))) (by rw[Tryz.ntmps83];exact Nat.le_refl _) rfl ⟨_,rfl⟩ ?_
 intro cmp ar cv tn ic ai mx an ad ml sb mn ln em gt up ap sc vw cp rp p1 p2 s1 s2 X Y hX hY r0 r1 r2 r3 r4 r5 r6 r7 r8 r9 r10 r11 r12 r13 r14 r15 r16 r17 r18 r19 r20 r21 r22 r23 r24
 cbv
 exact ⟨nlLe_none.2 trivial,rfl⟩
theorem low_z {s:Bool} {b:List Int} (cb:CN b) (hb:b≠[]):lwS [] b s=false∧lwN [] b s=[]∧lwD [] b s=[]:=by
 have hbv:vl b≠0:=fun h0=>hb (by rw[←cb.eq,h0,lm_zero])
 obtain ⟨n1,n2⟩:=rnum_low (s:=s) (n:=0) hbv
 have n1':(rnum s 0 (vl b)).num=0:=by rw[n1];simp
 have n2':(rnum s 0 (vl b)).den=1:=by rw[n2,Nat.gcd_zero_left,Nat.div_self (by omega)]
 unfold lwS lwN lwD qS qN qD
 rw[vl_nil,n1',n2',if_pos rfl]
 exact ⟨rfl,lm_zero,rfl⟩
theorem low_nz {s:Bool} {a b:List Int} (ca:CN a) (cb:CN b) (ha:a≠[]) (hb:b≠[]):lwS a b s=s∧lwN a b s=lm (vl a / Nat.gcd (vl a) (vl b))∧lwD a b s=if vl b / Nat.gcd (vl a) (vl b)=1 then [] else lm (vl b / Nat.gcd (vl a) (vl b)):=by
 have hbv:vl b≠0:=fun h0=>hb (by rw[←cb.eq,h0,lm_zero])
 have hav:vl a≠0:=fun h0=>ha (by rw[←ca.eq,h0,lm_zero])
 obtain ⟨n1,n2⟩:=rnum_low (s:=s) (n:=vl a) hbv
 have hap:vl a / Nat.gcd (vl a) (vl b)≠0:=fun h0=>by
  have:=Nat.div_mul_cancel (Nat.gcd_dvd_left (vl a) (vl b));rw[h0,Nat.zero_mul]at this;exact hav this.symm
 obtain ⟨Q,hQ⟩:∃ Q,Q=vl a / Nat.gcd (vl a) (vl b):=⟨_,rfl⟩
 unfold lwS lwN lwD qS qN qD
 rw[n1,n2]
 rw[←hQ]at hap ⊢
 refine ⟨?_,?_,rfl⟩
 ·cases s
  ·simp only[Bool.false_eq_true,if_false];exact decide_eq_false (by omega)
  ·simp only[if_true];exact decide_eq_true (by omega)
 ·congr 1;split <;> simp
structure MKP (a b:List Int):Prop where
 ca:CN a
 cb:CN b
 la:a.length≤1000
 lb:b.length≤1000
 ne:b≠[]
theorem cMake (s:Bool) (na:Option Bool) (a:List Int) (nb:Option Bool) (b:List Int) (h:MKP a b):PurS Tryz.prog 81 [injT .bool s,injT tN (na,a),injT tN (nb,b)] (.agg [.sb (lwS a b s),.tl none tW (lwN a b s),.tl none tW (lwD a b s)]):=by
 refine PurS.of (S:=[(92,_),(107,_),(83,_),(79,_)]) (T:=[]) (U:=[]) (tbl:=[]) (n:=34) hm31 cfg (.cons (spT2.ok (a:=(.sl (.int .u32))) (b:=(.sl (.int .u32))) fun x0 x1 h=>cRCom x0.1 x0.2 x1.1 x1.2 h) (.cons (spT2.ok (a:=(.sl (.int .u32))) (b:=(.sl (.int .u32))) fun x0 x1 h=>cRDiv x0.1 x0.2 x1.1 x1.2 h) (.cons (spT0.ok cOne) (.cons (spT2.ok (a:=(.sl (.int .u32))) (b:=(.sl (.int .u32))) fun x0 x1 h=>cEqNat x0.1 x0.2 x1.1 x1.2 h) .nil)))) .nil .nil .nil 0 Tryz.call81 Tryz.func81 (ac81_ok (some (0,0))) (by rw[Tryz.ntmps81];exact Nat.le_refl _) rfl ⟨_,rfl⟩ ?_
 intro cmp ar cv tn ic ai mx an ad ml sb mn ln em gt up ap sc vw cp rp p1 p2 s1 s2 X Y hX hY r0 r1 r2 r3 r4 r5 r6 r7 r8 r9 r10 r11 r12 r13 r14 r15 r16 r17 r18 r19 r20 r21 r22 r23 r24
 generalize hg0:gcdL=g0
 generalize hg1:quoL=g1
 generalize hg2:remL=g2
 generalize hg3:eqI=g3
 generalize hg4:lwS=g4
 generalize hg5:lwN=g5
 generalize hg6:lwD=g6
 cbv
 dsimp only
 have hla:ic (ln tW a)=a.length:=by rw[r4,r12]
 have ea:a.length=0↔a=[]:=List.length_eq_zero_iff
 have la:=h.la
 have lb:=h.lb
 rw[hla]
 refine BR.eql r0 (fun h1=>?_) (fun h1=>?_)
 ·obtain ⟨k1,k2,k3⟩:=low_z (s:=s) h.cb h.ne
  have h2:a=[]:=ea.1 (by omega)
  rw[h2]
  exact ⟨by rw[←hg4,k1],⟨nlLe_none.2 trivial,by rw[←hg5,k2]⟩,⟨nlLe_none.2 trivial,by rw[←hg6,k3]⟩,trivial⟩
 ·have hne:a≠[]:=fun h2=>h1 (by rw[ea.2 h2];rfl)
  obtain ⟨k1,k2,k3⟩:=low_nz (s:=s) h.ca h.cb hne h.ne
  obtain ⟨G,hG⟩:∃ G,G=Nat.gcd (vl a) (vl b):=⟨_,rfl⟩
  have hav:vl a≠0:=fun h0=>hne (by rw[←h.ca.eq,h0,lm_zero])
  have hG1:G ∣ vl a:=by rw[hG];exact Nat.gcd_dvd_left _ _
  have hG0:G≠0:=fun h0=>by rw[h0]at hG1;exact hav (Nat.eq_zero_of_zero_dvd hG1)
  have hGd:g0 a b=lm G:=by rw[←hg0,hG];rfl
  rw[←hG]at k2 k3
  have q1:g1 a (g0 a b)=lm (vl a / G):=by rw[←hg1];unfold quoL;rw[hGd,vl_lm]
  have q2:g1 b (g0 a b)=lm (vl b / G):=by rw[←hg1];unfold quoL;rw[hGd,vl_lm]
  have lG:(lm G).length≤1000:=by have:=lm_mono (Nat.le_of_dvd (by omega) hG1);rw[h.ca.eq]at this;omega
  have l2:(lm (vl b / G)).length≤1000:=by have:=lm_mono (Nat.div_le_self (vl b) G);rw[h.cb.eq]at this;omega
  have nG:lm G≠[]:=fun h0=>hG0 (lm_eq_nil.1 h0)
  rw[q1,q2,hGd]
  have u3:g3 (lm (vl b / G)) [1]=decide (lm (vl b / G)=[1]):=by rw[←hg3];rfl
  refine ⟨⟨h.ca,h.cb,la,lb⟩,⟨h.ca,CN_lm _,la,lG,nG⟩,⟨h.cb,CN_lm _,lb,lG,nG⟩,⟨by omega⟩,BR.mk (fun h2=>?_) (fun h2=>?_)⟩
  ·rw[u3]at h2
   have h3:=lm_one.1 (of_decide_eq_true h2)
   exact ⟨by rw[←hg4,k1],⟨nlLe_none.2 trivial,by rw[←hg5,k2]⟩,⟨nlLe_none.2 trivial,by rw[←hg6,k3,if_pos h3]⟩,trivial⟩
  ·rw[u3]at h2
   have h3:¬ vl b / G=1:=fun h4=>of_decide_eq_false h2 (lm_one.2 h4)
   exact ⟨by rw[←hg4,k1],⟨nlLe_none.2 trivial,by rw[←hg5,k2]⟩,⟨nlLe_none.2 trivial,by rw[←hg6,k3,if_neg h3]⟩,trivial⟩
structure RK2 (s:Bool) (a b:List Int) (s':Bool) (c d:List Int):Prop where
 x:RK s a b
 y:RK s' c d
structure SR2 (a b:List Int):Prop where
 la:a.length≤1000
 lb:b.length≤1000
end Go.Ab
