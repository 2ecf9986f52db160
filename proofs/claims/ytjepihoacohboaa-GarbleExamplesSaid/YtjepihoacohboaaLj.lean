/- The law's helpers; awake. -/
import Derived.Test.YtjepihoacohboaaLi
set_option linter.unusedSimpArgs false
set_option linter.unusedVariables false
set_option maxRecDepth 20000
set_option maxHeartbeats 8000000
namespace Go.Ab
open Go.Proofs
structure ARG (b:List Int):Prop where
 l:b.length≤maxLen
 h0:∀ y∈b,0≤y
theorem ARG.ln {b:List Int} (h:ARG b):LENB b:=⟨h.l⟩
theorem cSolveP (x:Int) (nb:Option Bool) (b:List Int) (over:Int) (h:ARG b):PurS Try.prog 15 [injT tG (x,nb,b),injT tI over] (.tup [.tl none tTr (solR b over),.p (iv (solE b over))]):=cSolveL x nb b over _ rfl h.ln h.h0
theorem cCountP (x:Int) (nb:Option Bool) (b:List Int) (over:Int) (h:ARG b):PurS Try.prog 13 [injT tG (x,nb,b),injT tI over] (.tup [.p (iv (cntN b over)),.p (iv (cntE b over))]):=cCount x nb b over h.ln h.h0
theorem cCertE (x:Int) (nb:Option Bool) (b:List Int) (over:Int) (he:wrnG b over≠0) (h:LENB b):PurS Try.prog 17 [injT tG (x,nb,b),injT tI over] (.tup [.agg [.p (iv 0),.tl none tB []],.p (iv (wrnG b over))]):=by
 refine PurS.of (S:=[(39,_),(53,_)]) (T:=[(40,_),(41,_),(52,_)]) (U:=[(50,_)]) (tbl:=[(51,ac51 none,[.tmp 4],9),(72,ac72 none,[.tmp 4],19)]) (n:=66) hm11 cfg (.cons (spT2.ok (a:=(.pair (.int .i64) (.sl (.int .u8)))) (b:=(.int .i64)) fun x0 x1 h=>cGchk2 x0.1 x0.2.1 x0.2.2 x1 h) (.cons (spT2.ok (a:=(.pair (.int .u64) (.int .u64))) (b:=(.int .i64)) fun x0 x1 h=>cHas x0.1 x0.2 x1 h) .nil)) (.cons cOfT (.cons cSolveT (.cons cC52T .nil))) (.consB cCloneB .nil) (.cons Try.call51 Try.func51 (ac51_ok none) (by rw[Try.ntmps51];exact Nat.le_refl _) (.cons Try.call72 Try.func72 (ac72_ok none) (by rw[Try.ntmps72];exact Nat.le_refl _) .nil)) 6 Try.call17 Try.func17 (ac17_ok (some (0,0))) (by rw[Try.ntmps17];exact Nat.le_refl _) rfl ⟨_,rfl⟩ ?_
 intro cmp ar cv tn ic ai mx an ad ml sb mn ln em gt up ap sc vw cp rp p1 p2 s1 s2 X Y hX hY r0 r1 r2 r3 r4 r5 r6 r7 r8 r9 r10 r11 r12 r13 r14 r15 r16 r17 r18 r19 r20 r21 r22 r23 r24
 generalize hg0:wrnG=g0
 cbv
 rw[hg0]at he
 exact ⟨h,BR.neq r0 (fun h1=>⟨⟨⟨nlLe_none.2 trivial,rfl⟩,trivial⟩,rfl,trivial⟩) fun h1=>absurd he h1⟩
def cerX (x:Int) (b:List Int) (over:Int):Int:=if wrnG b over=0 then x else 0
def cerR (b:List Int) (over:Int):List Int:=if wrnG b over=0 then cerL b over else []
theorem cCertP (x:Int) (nb:Option Bool) (b:List Int) (over:Int) (h:ARG b):PurS Try.prog 17 [injT tG (x,nb,b),injT tI over] (.tup [.agg [.p (iv (cerX x b over)),.tl none tB (cerR b over)],.p (iv (wrnG b over))]):=by
 unfold cerX cerR
 by_cases he:wrnG b over=0
 ·rw[if_pos he,if_pos he,he]
  exact cCertain x nb b _ over rfl he h.ln h.h0
 ·rw[if_neg he,if_neg he]
  exact cCertE x nb b over he h.ln
def blurA (f i:Int):List Int:=(List.range 56).map fun j:Nat=>if f≤j∧(j:Int)<i then 2 else 0
def blurL (f t:Int):List Int:=blurA f (t+1)
structure BLP (f t:Int):Prop where
 f0:0≤f
 t1:t≤55
 ft:f≤t
theorem blurA_len (f i:Int):(blurA f i).length=56:=by simp[blurA]
theorem blurA_get {f i:Int} {j:Nat} (h:j<56):(blurA f i).getD j 0=if f≤j∧(j:Int)<i then 2 else 0:=by
 simp[blurA,List.getD_eq_getElem?_getD,h]
theorem blurA_succ {f i:Int} (h0:0≤f) (h1:f≤i) (h2:i≤55):(blurA f i).set i.toNat 2=blurA f (i+1):=by
 apply ext_getD (by simp[blurA])
 intro j
 by_cases hj:j<56
 ·rw[getD_set (by rw[blurA_len];omega),blurA_get hj,blurA_get hj]
  by_cases e:i.toNat=j
  ·rw[if_pos e,if_pos (by omega)]
  ·rw[if_neg e]
   by_cases h3:f≤(j:Int)∧(j:Int)<i
   ·rw[if_pos h3,if_pos (by omega)]
   ·rw[if_neg h3,if_neg (by omega)]
 ·rw[List.getD_eq_getElem?_getD,List.getD_eq_getElem?_getD,List.getElem?_eq_none (by rw[List.length_set,blurA_len];omega),List.getElem?_eq_none (by rw[blurA_len];omega)]
theorem blurA_zero (f:Int):blurA f f=List.replicate 56 0:=by
 apply ext_getD (by simp[blurA])
 intro j
 by_cases hj:j<56
 ·rw[blurA_get hj,if_neg (by omega),List.getD_eq_getElem?_getD,List.getElem?_replicate,if_pos hj];rfl
 ·rw[List.getD_eq_getElem?_getD,List.getD_eq_getElem?_getD,List.getElem?_eq_none (by rw[blurA_len];omega),List.getElem?_eq_none (by simp;omega)]
theorem cBlur (f t:Int) (L:List Int) (hL:L=blurL f t) (h:BLP f t):PurS Try.prog 37 [injT tI f,injT tI t] (.agg [.p (iv 7),.tl none tB L]):=by
 refine PurS.of (S:=[]) (T:=[]) (U:=[]) (tbl:=[]) (n:=20) hm11 cfg .nil .nil .nil .nil 0 Try.call37 Try.func37 (ac37_ok (some (0,0))) (by rw[Try.ntmps37];exact Nat.le_refl _) rfl ⟨_,rfl⟩ ?_
 intro cmp ar cv tn ic ai mx an ad ml sb mn ln em gt up ap sc vw cp rp p1 p2 s1 s2 X Y hX hY r0 r1 r2 r3 r4 r5 r6 r7 r8 r9 r10 r11 r12 r13 r14 r15 r16 r17 r18 r19 r20 r21 r22 r23 r24
 cbv
 obtain ⟨h0,h1,h2⟩:=h
 have htn:tn 56=56:=by rw[r3];rfl
 have hrp:rp tB 56 0=List.replicate 56 0:=by rw[r20]
 have hic:ic 56=56:=by rw[r4];rfl
 rw[htn,hrp]
 refine ⟨MK_iff.2 ⟨by decide,by decide,by decide,by decide⟩,?_⟩
 refine LOOP.ind (σ:=Int×List Int) (fun (i,_)=>[(1,.p (iv t)),(4,.ptr 0 0),(5,.ptr 2 0),(6,.p (iv i))]) (fun (_,O)=>⟨[{ cells:=[.p (iv 0),.p (.sl (some true) 0 [])],e:=24,fz:=false },{ cells:=[.arr 56 tB O],e:=5,fz:=false,ap:=true },{ cells:=[.p (iv 7),.ms 1 0 1 none 56],e:=24,fz:=false }],[]⟩)
  (fun (i,_)=>(t+1 - i).toNat) (fun (i,O)=>f≤i∧i≤t+1∧O=blurA f i) (f,List.replicate 56 0) ⟨Int.le_refl _,by show f≤t+1;omega,(blurA_zero f).symm⟩ (.inl ⟨rfl,rfl⟩) ?_
 intro ⟨i,O⟩ hI X' hX
 obtain ⟨hI1,hI2,hI3⟩:=hI
 have hOl:O.length=56:=by rw[hI3,blurA_len]
 have hadd:i≤t→ar .add .i64 i 1=i+1:=fun h=>by rw[r1];exact wrap64 (n:=i+1) (by omega) (by omega)
 have hup:i≤t→up tB 56 O i 2=blurA f (i+1):=fun h=>by
  rw[r15];unfold upR;rw[Ty.norm_eq tB hOl,hI3,blurA_succ h0 hI1 (by omega)]
 have hvw:vw tB 56 O 0 56=O:=by rw[r18];exact vw_all (t:=tB) hOl
 have had:ad 0 56=56:=by rw[r8]
 have hend:¬ i≤t→O=L:=fun h=>by rw[hI3,hL];unfold blurL;rw[show i=t+1 by omega]
 cbv
 try simp only[nc_eq]at *
 rw[hic,hvw,had]
 refine BR.leq r0 (fun hc=>?_) (fun hc=>?_)
 ·have hi:INB i 56:=⟨by omega,by omega⟩
  rw[hadd hc,hup hc]
  refine ⟨hi,hi,NEXT.mk (hX (i+1,_) _ _ ⟨by omega,by omega,rfl⟩ (by show (t+1 - (i+1)).toNat<(t+1 - i).toNat;omega) (.inl ⟨rfl,rfl⟩))⟩
 ·exact ⟨⟨⟨Nat.le_refl _⟩,trivial⟩,⟨nlLe_none.2 trivial,hend hc⟩,trivial⟩
def cntsB (b:List Int) (over want:Int):Bool:=decide (cntN b over=want) && decide (cntE b over=0)
theorem BR.neqF {cmp:BinOp→Int→Int→Bool} (h:cmp=cmpR) {x y:Int} {A B:Prop} (e:x=y) (f:B):BR (cmp .neq x y) A B:=BR.neq h (fun hn=>absurd e hn) fun _=>f
theorem BR.eqlT {cmp:BinOp→Int→Int→Bool} (h:cmp=cmpR) {x y:Int} {A B:Prop} (e:x=y) (f:A):BR (cmp .eql x y) A B:=BR.eql h (fun _=>f) fun hn=>absurd e hn
theorem BR.tt {b:Bool} {A B:Prop} (e:b=true) (f:A):BR b A B:=BR.mk (fun _=>f) fun h=>by rw[e]at h;cases h
theorem cCounts (x:Int) (nb:Option Bool) (b:List Int) (over want:Int) (h:ARG b):PurS Try.prog 38 [injT tG (x,nb,b),injT tI over,injT tI want] (.sb (cntsB b over want)):=by
 refine PurS.of (S:=[(13,_)]) (T:=[]) (U:=[]) (tbl:=[]) (n:=22) hm11 cfg (.cons (spT2.ok (a:=(.pair (.int .i64) (.sl (.int .u8)))) (b:=(.int .i64)) fun x0 x1 h=>cCountP x0.1 x0.2.1 x0.2.2 x1 h) .nil) .nil .nil .nil 0 Try.call38 Try.func38 (ac38_ok (some (0,0))) (by rw[Try.ntmps38];exact Nat.le_refl _) rfl ⟨_,rfl⟩ ?_
 intro cmp ar cv tn ic ai mx an ad ml sb mn ln em gt up ap sc vw cp rp p1 p2 s1 s2 X Y hX hY r0 r1 r2 r3 r4 r5 r6 r7 r8 r9 r10 r11 r12 r13 r14 r15 r16 r17 r18 r19 r20 r21 r22 r23 r24
 generalize hg0:cntN=g0
 generalize hg1:cntE=g1
 generalize hg2:cntsB=g2
 cbv
 have e:g2 b over want=(decide (g0 b over=want) && decide (g1 b over=0)):=by rw[←hg0,←hg1,←hg2];rfl
 dsimp only
 refine ⟨h,BR.eql r0 (fun h1=>BR.eql r0 (fun h2=>?_) fun h2=>?_) fun h1=>?_⟩
 ·rw[e,decide_eq_true h1,decide_eq_true h2];rfl
 ·rw[e,decide_eq_true h1,decide_eq_false h2];rfl
 ·rw[e,decide_eq_false h1];rfl
theorem cBlurP (f t:Int) (h:BLP f t):PurS Try.prog 37 [injT tI f,injT tI t] (.agg [.p (iv 7),.tl none tB (blurL f t)]):=cBlur f t _ rfl h
theorem blurARG (f t:Int):ARG (blurL f t):=⟨by unfold blurL;rw[blurA_len];decide,fun y hy=>by
 unfold blurL blurA at hy
 obtain ⟨j,_,rfl⟩:=List.mem_map.1 hy
 split <;> decide⟩
def zer56:List Int:=List.replicate 56 0
theorem aw1:solE (blurL 55 55) 0=0∧solE (blurL 55 55) 1=0∧solR (blurL 55 55) 0=[(some false,zer56)]∧solR (blurL 55 55) 1=[(some false,unitL 56 55)]:=by decide +kernel
theorem aw2:cntsB (blurL 55 55) 2 0=true∧cntsB (blurL 31 31) 16774153 1=true∧cntsB (blurL 31 31) 1 0=true∧cntsB (blurL 25 55) 12345 128=true:=by decide +kernel
theorem aw3:solE (blurL 26 55) 12345=0∧(elimG (blurL 26 55)).2.length=6∧isG (blurL 26 55) 12345=true:=by decide +kernel
theorem aw4:solE (blurL 25 55) 12345=10∧cntE (blurL 0 55) 1=7:=by decide +kernel
theorem aw5:wrnG (blurL 55 55) 1=0∧cerR (blurL 55 55) 1=unitL 56 55:=by decide +kernel
theorem aw6:(solR (blurL 26 55) 12345).length=64:=by
 unfold solR
 rw[if_pos aw3.1,bitsT,List.length_map]
 have hg:GOOD (blurL 26 55) 12345:=⟨fun y hy=>by
  unfold blurL blurA at hy
  obtain ⟨j,_,rfl⟩:=List.mem_map.1 hy
  split
  ·exact .inr (.inr rfl)
  ·exact .inl rfl,by decide +kernel,by decide⟩
 have:=hg.len
 rw[aw3.2.1,aw3.2.2]at this
 exact this
theorem cAwake  : PurS Try.prog 11 [] (.sb true):=by
 refine PurS.of (S:=[(37,_),(15,_),(29,_),(38,_),(13,_),(17,_)]) (T:=[]) (U:=[]) (tbl:=[]) (n:=146) hm11 cfg (.cons (spT2.ok (a:=(.int .i64)) (b:=(.int .i64)) fun x0 x1 h=>cBlurP x0 x1 h) (.cons (spT2.ok (a:=(.pair (.int .i64) (.sl (.int .u8)))) (b:=(.int .i64)) fun x0 x1 h=>cSolveP x0.1 x0.2.1 x0.2.2 x1 h) (.cons (spT2.ok (a:=(.sl (.int .u8))) (b:=(.sl (.int .u8))) fun x0 x1 h=>cEqBits x0.1 x0.2 x1.1 x1.2 h) (.cons (spT3.ok (a:=(.pair (.int .i64) (.sl (.int .u8)))) (b:=(.int .i64)) (c:=(.int .i64)) fun x0 x1 x2 h=>cCounts x0.1 x0.2.1 x0.2.2 x1 x2 h) (.cons (spT2.ok (a:=(.pair (.int .i64) (.sl (.int .u8)))) (b:=(.int .i64)) fun x0 x1 h=>cCountP x0.1 x0.2.1 x0.2.2 x1 h) (.cons (spT2.ok (a:=(.pair (.int .i64) (.sl (.int .u8)))) (b:=(.int .i64)) fun x0 x1 h=>cCertP x0.1 x0.2.1 x0.2.2 x1 h) .nil)))))) .nil .nil .nil 0 Try.call11 Try.func11 (ac11_ok (some (0,0))) (by rw[Try.ntmps11];exact Nat.le_refl _) rfl ⟨_,rfl⟩ ?_
 intro cmp ar cv tn ic ai mx an ad ml sb mn ln em gt up ap sc vw cp rp p1 p2 s1 s2 X Y hX hY r0 r1 r2 r3 r4 r5 r6 r7 r8 r9 r10 r11 r12 r13 r14 r15 r16 r17 r18 r19 r20 r21 r22 r23 r24
 generalize hg0:blurL=g0
 generalize hg1:solR=g1
 generalize hg2:solE=g2
 generalize hg3:cntsB=g3
 generalize hg4:cntN=g4
 generalize hg5:cntE=g5
 generalize hg6:cerX=g6
 generalize hg7:cerR=g7
 generalize hg8:wrnG=g8
 generalize hg9:eqI=g9
 cbv
 dsimp only
 obtain ⟨e1,e2,e3,e4⟩:=aw1
 obtain ⟨e5,e6,e7,e8⟩:=aw2
 obtain ⟨e9,_,_⟩:=aw3
 obtain ⟨e10,e11⟩:=aw4
 obtain ⟨e12,e13⟩:=aw5
 have e14:=aw6
 have e15:cerX 7 (blurL 55 55) 1=7:=by unfold cerX;rw[if_pos e12]
 have a0:=blurARG 55 55;have a1:=blurARG 26 55;have a2:=blurARG 25 55;have a3:=blurARG 0 55;have a4:=blurARG 31 31
 rw[hg0]at *
 rw[hg1]at e3 e4 e14
 rw[hg2]at e1 e2 e9 e10
 rw[hg3]at e5 e6 e7 e8
 rw[hg5]at e11
 rw[hg6]at e15
 rw[hg7]at e13
 rw[hg8]at e12
 obtain ⟨Z,hZ⟩:∃ Z,Z=zer56:=⟨_,rfl⟩
 obtain ⟨W,hW⟩:∃ W,W=unitL 56 55:=⟨_,rfl⟩
 rw[←hZ]at e3
 rw[←hW]at e4 e13
 have b0:BLP 55 55:=⟨by decide,by decide,by decide⟩
 have b1:BLP 26 55:=⟨by decide,by decide,by decide⟩
 have b2:BLP 25 55:=⟨by decide,by decide,by decide⟩
 have b3:BLP 0 55:=⟨by decide,by decide,by decide⟩
 have b4:BLP 31 31:=⟨by decide,by decide,by decide⟩
 have i1:INB 0 1:=⟨by decide,by decide⟩
 have l1:∀ c:List Int,ic (ln tTr [(some false,c)])=1:=fun c=>by rw[r4,r12];rfl
 have g1':∀ c:List Int,gt tTr [(some false,c)] 0=(some false,c):=fun c=>by rw[r14];rfl
 have s1':∀ c:List Int,s2 tB (some false,c)=c:=fun c=>by rw[r24]
 have hZl:Z.length=56:=by rw[hZ];rfl
 have hWl:W.length=56:=by rw[hW];rfl
 have hvz:vw tB (tn 56) (rp tB (tn 56) 0) 0 (tn 56)=Z:=by rw[r3,r18,r20,hZ];exact vw_all (t:=tB) (by simp)
 have htn:tn 56=56:=by rw[r3];rfl
 have had:ad 0 56=56:=by rw[r8]
 have hicW:ic (ln tB W)=56:=by rw[r4,r12];show ((W.length:Nat):Int)=56;rw[hWl];rfl
 have hW55:gt tB W 55=1:=by rw[r14,hW];rfl
 have hW54:gt tB W 54=0:=by rw[r14,hW];rfl
 have heq:g9 Z Z=true:=by rw[←hg9];exact decide_eq_true rfl
 have hl64:ic (ln tTr (g1 (g0 26 55) 12345))=64:=by rw[r4,r12];show (((g1 (g0 26 55) 12345).length:Nat):Int)=64;rw[e14];rfl
 rw[hvz,htn,had,e3,e4,l1,l1,g1',g1',s1',s1',hicW,hW55,hW54,hl64]
 have i56:INB 55 56:=⟨by decide,by decide⟩
 have i54:INB 54 56:=⟨by decide,by decide⟩
 refine ⟨b0,a0,a0,BR.neqF r0 e1 (BR.neqF r0 e2 (BR.neqF r0 rfl (BR.neqF r0 rfl ⟨i1,i1,MK_iff.2 ⟨by decide,by decide,by decide,by decide⟩,⟨⟨Nat.le_refl _⟩,trivial⟩,⟨by omega⟩,BR.tt heq ⟨i1,i1,BR.neqF r0 rfl ⟨i1,i1,i56,i56,BR.neqF r0 rfl ⟨i1,i1,i54,i54,BR.neqF r0 rfl ⟨a0,BR.tt e5 ⟨b1,a1,b2,a2,b3,a3,a0,b4,a4,BR.tt e6 ⟨b4,a4,BR.tt e7 (BR.eqlT r0 e9 (BR.eqlT r0 rfl (BR.eqlT r0 e10 ⟨b2,a2,BR.tt e8 (BR.eqlT r0 e11 (BR.eqlT r0 e12 (BR.eqlT r0 e15 ?_)))⟩)))⟩⟩⟩⟩⟩⟩⟩)))⟩
 rw[e13,hicW,hW55]
 exact BR.eqlT r0 rfl ⟨i56,i56,BR.eqlT r0 rfl trivial⟩
end Go.Ab
