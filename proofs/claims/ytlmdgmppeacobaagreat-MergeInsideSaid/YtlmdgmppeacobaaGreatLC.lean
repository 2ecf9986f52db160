/- The greatest costs,as the program forms them. -/
import Derived.Test.YtlmdgmppeacobaaGreatLB
set_option linter.unusedSimpArgs false
set_option linter.unusedVariables false
set_option maxRecDepth 20000
set_option maxHeartbeats 4000000
namespace Go.Ab
open Go.Proofs
def mxF (l:List RS) (b:Int):RT:=mxT (gtR tR (colL l b) 0) ((colL l b).drop 1)
def wmE1 (l:List RS) (b:Int):Int:=addE (mxF l b) zT
def wmT1 (l:List RS) (b:Int):RT:=addT (mxF l b) zT
def wbE (l:List RS):Nat→Int→Int
 | 0,_=>0
 | n+1,i=>if wmE1 l i≠0 then wmE1 l i else wbE l n (i+1)
def wbL (l:List RS):Nat→Int→List RT
 | 0,_=>[]
 | n+1,i=>wmT1 l i :: wbL l n (i+1)
def worE (l:List RS):Int:=if mchk l≠0 then mchk l else wbE l (row0 l).length 0
def worL (l:List RS):List RT:=if worE l=0 then wbL l (row0 l).length 0 else []
theorem mx_ckp:∀ {l:List RT} {x:RT},CKP x.2.1.2 x.2.2.2→SZ 2000 l→CKP (mxT x l).2.1.2 (mxT x l).2.2.2
 | [],_,h,_=>h
 | y :: l,x,h,hz=>by
  unfold mxT
  have hy:=hz.h y List.mem_cons_self
  refine mx_ckp ?_ ⟨fun z hz2=>hz.h z (List.mem_cons_of_mem _ hz2)⟩
  show CKP (grN _ _ _ _ _ _) (grD _ _ _ _ _ _)
  unfold grN grD
  split
  ·exact ⟨hy.1,hy.2.1,by omega,by omega⟩
  ·exact h
theorem cCombG (nl:Option Bool) (l:List RS) (h:MC l):PurS Tryz.prog 40 [injT (.sl tRs) (nl,l),.fn (.func 42) [] []] (.tup [.tl none tR (worL l),.p (iv (worE l))]):=by
 refine PurS.of (S:=[(43,_),(70,_),(41,_),(71,_)]) (T:=[]) (U:=[]) (tbl:=[]) (n:=53) hm31 cfg (.cons (spT1.ok (a:=(.sl (.sl (.pair .bool (.pair (.sl (.int .u32)) (.sl (.int .u32))))))) fun x0 h=>cMChk x0.1 x0.2 h) (.cons (spT2.ok (a:=(.sl (.sl (.pair .bool (.pair (.sl (.int .u32)) (.sl (.int .u32))))))) (b:=(.int .i64)) fun x0 x1 h=>cCol x0.1 x0.2 x1 h) (.cons (spT2.ok (a:=(.pair .bool (.pair (.sl (.int .u32)) (.sl (.int .u32))))) (b:=(.pair .bool (.pair (.sl (.int .u32)) (.sl (.int .u32))))) fun x0 x1 h=>cRAdd x0.1 x0.2.1.1 x0.2.1.2 x0.2.2.1 x0.2.2.2 x1.1 x1.2.1.1 x1.2.1.2 x1.2.2.1 x1.2.2.2 h) (.cons (spFn2.ok fFoldG) .nil)))) .nil .nil .nil 0 Tryz.call40 Tryz.func40 (ac40_ok (some (0,0))) (by rw[Tryz.ntmps40];exact Nat.le_refl _) rfl ⟨_,rfl⟩ ?_
 intro cmp ar cv tn ic ai mx an ad ml sb mn ln em gt up ap sc vw cp rp p1 p2 s1 s2 X Y hX hY r0 r1 r2 r3 r4 r5 r6 r7 r8 r9 r10 r11 r12 r13 r14 r15 r16 r17 r18 r19 r20 r21 r22 r23 r24
 generalize hg0:mchk=g0
 generalize hg1:colL=g1
 generalize hg2:adS=g2
 generalize hg3:adN=g3
 generalize hg4:adD=g4
 generalize hg5:adE=g5
 generalize hg6:mxT=g6
 generalize hg7:worL=g7
 generalize hg8:worE=g8
 cbv
 have hll:ic (ln tRs l)=l.length:=by rw[r4,r12]
 dsimp only
 obtain ⟨M,hM⟩:∃ M,M=ic (ln tR (s2 tR (gt tRs l 0))):=⟨_,rfl⟩
 have hM':M=(row0 l).length:=by rw[hM,r4,r12,r24,r14];rfl
 have e9:g8 l=if mchk l≠0 then mchk l else wbE l (row0 l).length 0:=by rw[←hg8];rfl
 have e8:g7 l=if g8 l=0 then wbL l (row0 l).length 0 else []:=by rw[←hg7,←hg8];rfl
 have e0:g0 l=mchk l:=by rw[←hg0]
 rw[←hM,hll,e0]
 refine ⟨h,BR.neq r0 (fun h0=>?_) (fun h0=>?_)⟩
 ·rw[if_pos h0]at e9
  exact ⟨⟨nlLe_none.2 trivial,by rw[e8,e9,if_neg h0]⟩,e9.symm,trivial⟩
 rw[if_neg h0]at e9
 obtain ⟨k1,k2,k3,k4,k5⟩:=mchk_ok (Classical.not_not.1 h0)
 have hI0:INB 0 l.length:=⟨Int.le_refl _,by omega⟩
 refine ⟨hI0,hI0,?_⟩
 refine LOOP.ind (σ:=List RT×Int) (fun (O,i)=>[(0,.tl nl tRs l),(1,.fn (.func 42) [] []),(4,.og 0 tR O),(19,.p (iv M)),(20,.p (iv i))]) (fun (O,_)=>⟨[],[(ml (ln tR O) 3,49)]⟩) (fun (_,i)=>(M - i).toNat)
  (fun (O,i)=>0≤i∧i≤M∧O.length=i∧O ++ wbL l (M - i).toNat i=wbL l (row0 l).length 0∧wbE l (M - i).toNat i=g8 l) ([],0) ⟨by omega,by show (0:Int)≤M;omega,rfl,by show wbL l (M - 0).toNat 0=_;rw[show (M - 0).toNat=(row0 l).length by omega],by rw[e9,show (M - 0).toNat=(row0 l).length by omega]⟩ (.inr ⟨[],[none],?_⟩) ?_
 ·rw[SIM_iff];cbv;simp[nlLe_self,lstEq]
 intro ⟨O,i⟩ ⟨i0,i1,i2,i3,i4⟩ X' hX
 obtain ⟨C,hC⟩:∃ C,C=g1 l i:=⟨_,rfl⟩
 have hC':C=colL l i:=by rw[hC,←hg1]
 have hCl:C.length=l.length:=by rw[hC'];exact List.length_map ..
 have hcl:ic (ln tR C)=l.length:=by rw[r4,r12];show ((C.length:Nat):Int)=_;rw[hCl]
 obtain ⟨x,hx⟩:∃ x:RT,x=gt tR C 0:=⟨_,rfl⟩
 obtain ⟨D,hD⟩:∃ D,D=sc tR C 1 l.length:=⟨_,rfl⟩
 have hD':D=C.drop 1:=by rw[hD,r17];show (C.take (l.length:Int).toNat).drop 1=_;rw[List.take_of_length_le (by omega)]
 have hxx:x=gtR tR (colL l i) 0:=by rw[hx,r14,hC']
 have hDD:D=(colL l i).drop 1:=by rw[hD',hC']
 have hrow:i<M→∀ r∈l,i<r.2.length:=fun h1 r hr=>by rw[k3 r hr];omega
 have hcsz:i<M→SZ 2000 C:=fun h1=>by rw[hC'];exact col_sz (fun r hr=>(h.b.h r hr).2) i0 (hrow h1)
 have hfp:i<M→FP x D:=fun h1=>by
  have hs:=hcsz h1
  have hm:x∈C:=by rw[hxx,hC'];exact gtR_mem (t:=tR) (Int.le_refl _) (by rw[←hC',hCl];omega)
  obtain ⟨q1,q2,q3,q4⟩:=hs.h x hm
  exact ⟨⟨q1,q2,by omega,by omega⟩,by rw[hD',List.length_drop];omega,by rw[hD'];exact hs.drop 1⟩
 obtain ⟨F,hF⟩:∃ F,F=g6 x D:=⟨_,rfl⟩
 have hF':F=mxF l i:=by rw[hF,←hg6,hxx,hDD];rfl
 have hFck:i<M→CKP F.2.1.2 F.2.2.2:=fun h1=>by
  rw[hF,←hg6];exact mx_ckp (hfp h1).x (hfp h1).h
 have e5:g5 F.1 F.2.1.2 F.2.2.2 false [] []=addE F zT:=by rw[←hg5];rfl
 obtain ⟨A,hA⟩:∃ A,A=addE F zT:=⟨_,rfl⟩
 rw[←hA]at e5
 obtain ⟨T,hT⟩:∃ T:RT,T=(g2 F.1 F.2.1.2 F.2.2.2 false [] [],(none,g3 F.1 F.2.1.2 F.2.2.2 false [] []),(none,g4 F.1 F.2.1.2 F.2.2.2 false [] [])):=⟨_,rfl⟩
 have hT':T=wmT1 l i:=by rw[hT,←hg2,←hg3,←hg4];unfold wmT1;rw[←hF'];rfl
 have hE1:wmE1 l i=A:=by unfold wmE1;rw[←hF',←hA]
 have hsE:i<M→g8 l=if wmE1 l i≠0 then wmE1 l i else wbE l (M - (i+1)).toNat (i+1):=fun h1=>by
  rw[←i4,show (M - i).toNat=(M - (i+1)).toNat+1 by omega];rfl
 have hsL:i<M→wbL l (row0 l).length 0=(O ++ [T]) ++ wbL l (M - (i+1)).toNat (i+1):=fun h1=>by
  rw[←i3,show (M - i).toNat=(M - (i+1)).toNat+1 by omega,List.append_assoc,hT'];rfl
 have hi1:i<M→ar .add .i64 i 1=i+1:=fun h1=>by rw[r1];exact wrap64 (n:=i+1) (by omega) (by omega)
 have hap:ap tR O [T]=O ++ [T]:=by rw[r16]
 have hLIM:LIM (ad (ln tR O) (ln tR [T])) 56:=by
  rw[r8,r12];exact LIM_iff.2 ⟨by show (O.length+1)*56≤_;omega,by show O.length+1≤_;omega⟩
 have hEQ:EQN (ml (ln tR O) 3) (ml (ln tR O) 3):=⟨rfl⟩
 have hckz:CKP [] []:=⟨.nil,.nil,by decide,by decide⟩
 clear hF' hT' hxx hDD
 obtain ⟨xs,⟨xn,xa⟩,⟨xm,xb⟩⟩:=x
 obtain ⟨Fs,⟨Fn,Fa⟩,⟨Fm,Fb⟩⟩:=F
 cbv
 try simp only[nc_eq]at *
 rw[←hC]
 simp only[r21,r22,r23,r24,hcl,←hx,←hD,←hF,e5,←hT,hap]
 refine BR.lss r0 (fun h1=>?_) (fun h1=>?_)
 ·have hI:INB 0 (l.length:Int):=⟨Int.le_refl _,by omega⟩
  have hsE':=hsE h1
  rw[hE1]at hsE'
  refine ⟨⟨i0,by omega,hrow h1⟩,hI,hI,⟨by omega,by omega,by omega⟩,hfp h1,BR.eql r0 (fun h2=>?_) (fun h2=>absurd rfl h2)⟩
  ·refine ⟨⟨hFck h1,hckz⟩,BR.neq r0 (fun h3=>?_) (fun h3=>?_)⟩
   ·rw[if_pos h3]at hsE'
    exact ⟨⟨nlLe_none.2 trivial,by rw[e8,hsE',if_neg h3]⟩,hsE'.symm,trivial⟩
   ·rw[if_neg h3]at hsE'
    rw[hi1 h1]
    refine ⟨hEQ,hLIM,NEXT.mk (hX (O ++ [T],i+1) _ _ ⟨by show (0:Int)≤i+1;omega,by show i+1≤M;omega,?_,(hsL h1).symm,hsE'.symm⟩ (by show (M - (i+1)).toNat<(M - i).toNat;omega) (.inr ⟨[],[some 0],?_⟩))⟩
    ·show ((O ++ [T]).length:Int)=i+1
     rw[List.length_append];show ((O.length+1:Nat):Int)=_;omega
    ·rw[SIM_iff];cbv;try simp[nlLe_self,lstEq]
 ·have h2:(M - i).toNat=0:=by omega
  rw[h2]at i3 i4
  have i4':0=g8 l:=i4
  have i3':O ++ []=wbL l (row0 l).length 0:=i3
  rw[List.append_nil]at i3'
  exact ⟨⟨nlLe_none.2 trivial,by rw[e8,←i4',if_pos rfl,←i3']⟩,i4',trivial⟩
end Go.Ab
