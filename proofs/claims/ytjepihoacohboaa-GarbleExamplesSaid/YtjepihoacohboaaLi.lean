/- Solve. -/
import Derived.Test.YtjepihoacohboaaLh
set_option linter.unusedSimpArgs false
set_option linter.unusedVariables false
set_option maxRecDepth 20000
set_option maxHeartbeats 8000000
namespace Go.Ab
open Go.Proofs Go.RowKit
abbrev BL:=List (Option Bool×List Int)
def bitsT (L:List (List Int)):BL:=L.map fun c=>(some false,c)
structure SRTK (n N:Nat) (l:BL) (k:BL→Prop):Prop where
 h:∃ L S:List (List Int),l=bitsT L∧N=n∧L.length=n∧0<n∧n<4611686018427387904∧(∀ c∈L,c.length≤200)∧S.Perm L∧S.Pairwise lexL∧k (bitsT S)
def spSort:OpsS→CallS:=fun _ _ ds st K=>match ds with
 | [.ms i 0 sz none n,.fn (.func g) [] []]=>(match nthD st.box i with
  | some B=>(match B.cells with
   | [.arr N t l]=>(match castL tTr t l with
    | some l=>g=46∧sz=1∧B.fz=false∧B.m=false∧SRTK n N l fun S=>K (.p (.tup [])) { st with box:=st.box.set i { B with cells:=[.arr N tTr S] } }
    | none=>False)
   | _=>False)
  | none=>False)
 | _=>False
theorem cSortT:∀ ds st K,spSort OpsS.real 45 ds st K→FnS Try.prog 45 ds st K:=fun ds st K h=>by
 unfold spSort at h
 split at h <;> first | exact h.elim | skip
 split at h <;> first | exact h.elim | skip
 split at h <;> first | exact h.elim | skip
 split at h <;> first | exact h.elim | skip
 rename_i i sz n g _ B hB _ N t l0 hc _ l hl
 obtain ⟨rfl,rfl,hf,hm,L,S,rfl,rfl,hn,h0,hlt,hlen,hp,hs,hk⟩:=h
 obtain ⟨rfl,e⟩:=castL_eq hl
 obtain rfl:=eq_of_heq e
 have hconc:∀ (B:BoxS) (X:List (List Int)),X.length=N→B.cells=[.arr N tTr (bitsT X)]→B.conc.cells=X.map fun c=>.p (bitV c):=fun B X hX hc=>by
  show concCs B.cells=_
  rw[hc]
  simp only[concCs_cons,concCs_nil,cellS,arrCells,List.append_nil]
  rw[Ty.norm_eq tTr (by rw[bitsT,List.length_map,hX]),bitsT,rows_tTr,List.map_map];rfl
 have hdc:concL [DC.ms i 0 1 none N,DC.fn (.func 46) [] []]=[.ms i 0 N,.fn (.func 46) [] []]:=by simp[concL,DC.conc]
 show FnC _ _ (concL _) _ _
 rw[hdc]
 refine sortB_calls (B:=B.conc) (by show (st.box.map BoxS.conc)[i]? = _;rw[List.getElem?_map,←nthD_eq,hB];rfl) hf hm L S hn h0 hlt hlen (hconc B L hn hc) hp hs ?_
 refine KP.of (by simp[DC.conc]) ?_ hk
 rw[StS.conc_set]
 congr 2
 have:=hconc { B with cells:=[.arr N tTr (bitsT S)] } S (hp.length_eq.trans hn) rfl
 show _=BoxS.conc _
 simp only[BoxS.conc]at this ⊢
 rw[this]
theorem testBit_succ' (x n:Nat):(x / 2).testBit n=x.testBit (n+1):=(Nat.testBit_succ x n).symm
theorem val_snoc':∀ (cs:List Nat) (c x:Nat),val (cs ++ [c]) x=val cs x ^^^ (if x.testBit cs.length then c else 0)
 | [],c,x=>by
  simp only[List.nil_append,val,List.length_nil,Nat.testBit_zero,Nat.xor_zero,Nat.zero_xor]
  by_cases h:x % 2=1 <;> simp[h]
 | a :: cs,c,x=>by
  simp only[List.cons_append,val,val_snoc' cs,List.length_cons,testBit_succ',Nat.xor_assoc]
theorem putM_snoc:∀ (l:List Nat) (p:Nat) (b:List Int) (x:Nat),putM b (l ++ [p]) x=if x.testBit l.length then (putM b l x).set p 1 else putM b l x
 | [],p,b,x=>by
  simp only[List.nil_append,putM,List.length_nil,Nat.testBit_zero]
  by_cases h:x % 2=1 <;> simp[h]
 | q :: l,p,b,x=>by
  simp only[List.cons_append,putM,putM_snoc l,List.length_cons,testBit_succ']
theorem putM_len:∀ (l:List Nat) (b:List Int) (x:Nat),(putM b l x).length=b.length
 | [],_,_=>rfl
 | p :: l,b,x=>by
  simp only[putM]
  rw[putM_len]
  split
  ·rw[List.length_set]
  ·rfl
theorem cCloneO2' (l:List Int) (hl:l≠[]) (h:Short 2000 l):OwnL Try.prog 69 ([injT (.sl tB) (some false,l)]) (tB) 5 (l) (shI):=by
 refine OwnL.of fun d bs hD=>OwnS.of (S:=[]) (T:=[]) (U:=[]) (tbl:=[]) (n:=8) hm11 cfg .nil .nil .nil .nil 0 Try.call69 Try.func69 (ac69_ok (some (0,0))) (by rw[Try.ntmps69];exact Nat.le_refl _) rfl _ _ ?_
 intro cmp ar cv tn ic ai mx an ad ml sb mn ln em gt up ap sc vw cp rp p1 p2 s1 s2 X Y hX hY r0 r1 r2 r3 r4 r5 r6 r7 r8 r9 r10 r11 r12 r13 r14 r15 r16 r17 r18 r19 r20 r21 r22 r23 r24
 cbv
 have hz:ad 0 (ln tB l)=l.length:=by rw[r8,r12];exact Nat.zero_add _
 have hc:ap tB (vw tB 0 [] 0 0) l=l:=by rw[r16,r18];rfl
 have h:=h.h
 rw[hz,hc]
 exact BR.mk (fun h=>by cases h) fun _=>⟨⟨Nat.le_refl _⟩,LIM_iff.2 ⟨by omega,by omega⟩,hD.msI hl rfl rfl rfl rfl rfl (rows_int l)⟩
theorem cCloneO2 (nb:Option Bool) (l:List Int) (hl:l≠[]) (h:Short 2000 l):OwnL Try.prog 69 [injT (.sl tB) (nb,l)] tB 5 l shI:=
 ⟨fun e=>absurd e hl,fun _=>((cCloneO2' l hl h).box hl).weak rfl fun E i u hi hr=>by
  match i,hi with
  | 0,_=>exact tl_nonnil (nl:=nb) hl hr⟩
def spCl2:OpsS→CallS:=spOwn (argT1 (.sl tB)) (fun a=>a.2≠[]∧Short 2000 a.2) tB 5 (fun a=>a.2) (fun _=>shI)
theorem cCloneT2:∀ ds st K,spCl2 OpsS.real 69 ds st K→FnS Try.prog 69 ds st K:=fun ds st K=>spOwn.ok (fun _=>shI.ok tB) (argT1.ok (a:=.sl tB) (Q:=fun xs a=>(a.2≠[]∧Short 2000 a.2)→OwnL Try.prog 69 xs tB 5 a.2 shI) (fun xs ys a he h hp=>(h hp).cong he) fun a hp=>cCloneO2 a.1 a.2 hp.1 hp.2) ds st K
def solE (b:List Int) (over:Int):Int:=if wrnG b over≠0 then wrnG b over else if isG b over.toNat=true∧(elimG b).2.length>6 then 10 else 0
def solR (b:List Int) (over:Int):BL:=if solE b over=0 then bitsT (solG b over.toNat) else []
def lcA:DC:=.tl (some true) tTr []
def lcB (n:Nat):DC:=.ms 8 0 1 none n
def lbA:BoxS:={ cells:=[],e:=40,fz:=true,ap:=true }
def lbB (n:Nat) (L:BL):BoxS:={ cells:=[.arr n tTr L],e:=40,fz:=false,ap:=true }
def lcO:Option Nat→DC
 | none=>lcA
 | some n=>lcB n
def lbO:Option Nat→BL→BoxS
 | none,_=>lbA
 | some n,L=>lbB n L
def genS (b:List Int) (free:List Nat) (first x:Nat):List Int:=putM (gbase b) (gplaces b 0) (first ^^^ val free x)
def allS (b:List Int) (free:List Nat) (first x:Nat):BL:=bitsT ((List.range x).map (genS b free first))
theorem allS_succ (b:List Int) (free:List Nat) (first x:Nat):allS b free first (x+1)=allS b free first x ++ [(some false,genS b free first x)]:=by
 unfold allS bitsT
 rw[List.range_succ,List.map_append,List.map_append];rfl
theorem allS_len (b:List Int) (free:List Nat) (first x:Nat):(allS b free first x).length=x:=by simp[allS,bitsT]
theorem cSolveL (x:Int) (nb:Option Bool) (b:List Int) (over:Int) (R:BL) (hR:R=solR b over) (h:LENB b) (h0:∀ y∈b,0≤y):PurS Try.prog 15 [injT tG (x,nb,b),injT tI over] (.tup [.tl none tTr R,.p (iv (solE b over))]):=by
 refine PurS.of (S:=[(39,_),(63,_),(53,_)]) (T:=[(40,_),(41,_),(69,_),(45,_)]) (U:=[]) (tbl:=[(44,ac44 none,[.tmp 4],6),(68,ac68 none,[],67)]) (n:=44) hm11 cfg (.cons (spT2.ok (a:=(.pair (.int .i64) (.sl (.int .u8)))) (b:=(.int .i64)) fun x0 x1 h=>cGchk2 x0.1 x0.2.1 x0.2.2 x1 h) (.cons (spT2.ok (a:=(.pair (.int .u64) (.int .u64))) (b:=(.pair (.int .u64) (.int .u64))) fun x0 x1 h=>cWith x0.1 x0.2 x1.1 x1.2 h) (.cons (spT2.ok (a:=(.pair (.int .u64) (.int .u64))) (b:=(.int .i64)) fun x0 x1 h=>cHas x0.1 x0.2 x1 h) .nil))) (.cons cOfT (.cons cSolveT (.cons cCloneT2 (.cons cSortT .nil)))) .nil (.cons Try.call44 Try.func44 (ac44_ok none) (by rw[Try.ntmps44];exact Nat.le_refl _) (.cons Try.call68 Try.func68 (ac68_ok none) (by rw[Try.ntmps68];exact Nat.le_refl _) .nil)) 6 Try.call15 Try.func15 (ac15_ok (some (0,0)) (some (8,2))) (by rw[Try.ntmps15];exact Nat.le_refl _) rfl ⟨_,rfl⟩ ?_
 intro cmp ar cv tn ic ai mx an ad ml sb mn ln em gt up ap sc vw cp rp p1 p2 s1 s2 X Y hX hY r0 r1 r2 r3 r4 r5 r6 r7 r8 r9 r10 r11 r12 r13 r14 r15 r16 r17 r18 r19 r20 r21 r22 r23 r24
 generalize hg0:wrnG=g0
 generalize hg1:solE=g1
 generalize hg2:hasM=g2
 generalize hg3:xU=g3
 cbv
 have eE:g1 b over=if g0 b over≠0 then g0 b over else if isG b over.toNat=true∧(elimG b).2.length>6 then 10 else 0:=by rw[←hg0,←hg1];rfl
 have eR:R=if g1 b over=0 then bitsT (solG b over.toNat) else []:=by rw[hR,←hg1];rfl
 have hok:=wrnG_ok (over:=over) h0
 rw[hg0]at hok
 refine ⟨h,BR.neq r0 (fun h1=>?_) fun h1=>?_⟩
 ·rw[if_pos h1]at eE
  rw[eE,if_neg h1]at eR
  exact ⟨⟨nlLe_none.2 trivial,eR⟩,eE.symm,trivial⟩
 have h1:g0 b over=0:=Classical.not_not.1 h1
 rw[if_neg (fun h=>h h1)]at eE
 obtain ⟨hofp,ho0,ho1,_⟩:=hok h1
 refine OFK.mk hofp ?_
 intro B P RR F M p f hsys hp hf
 cbv
 refine ⟨⟨⟨⟨nlLe_self.2 trivial,trivial⟩,trivial⟩,trivial⟩,SLK.mk ⟨hsys,ho0,ho1⟩ ?_⟩
 intro is a0 a1 hr
 cbv
 have hFl:F.length=(elimG b).2.length:=by rw[hsys.hF];unfold freeD;rw[List.length_map]
 obtain ⟨q,hq⟩:∃ q:Nat,q=(elimG b).2.length:=⟨_,rfl⟩
 obtain ⟨Q,hQ⟩:∃ Q:Int,Q=q:=⟨_,rfl⟩
 have hla:ic (ln tC F)=Q:=by rw[r4,r12,hQ,hq,←hFl]
 rw[←hq]at eE hFl
 rw[hla]
 refine ⟨⟨⟨⟨⟨nlLe_self.2 trivial,trivial⟩,trivial⟩,trivial⟩,trivial⟩,BR.mk (fun h=>?_) fun h=>?_⟩
 ·have hi:isG b over.toNat=true:=by rw[←hr.h,h]
  refine BR.gtr r0 (fun h6=>?_) (fun h6=>?_)
  ·rw[if_pos ⟨hi,by omega⟩]at eE
   rw[eE,if_neg (by decide)]at eR
   exact ⟨⟨nlLe_none.2 trivial,eR⟩,eE.symm,trivial⟩
  rw[if_neg (by omega)]at eE
  rw[eE,if_pos rfl]at eR
  refine ALLY.mk fun y=>?_
  cbv
  try simp only[nc_eq]at *
  rw[hla]
  refine ⟨⟨by omega⟩,?_⟩
  obtain ⟨est,hest⟩:∃ est,est=elimG b:=⟨_,rfl⟩
  obtain ⟨fi,hfi⟩:∃ c,c=(slv (elimG b) (tgt b over.toNat)).2:=⟨_,rfl⟩
  obtain ⟨hr1,hr2,hr3⟩:=hr
  rw[h]at hr1 hr2 hr3
  simp only[if_true]at hr2 hr3
  rw[←hfi]at hr2 hr3
  have hg:GOOD b over.toNat:=⟨hofp.gv,hofp.l0,by omega⟩
  have hfilt:fi<2 ^ 112:=by
   have:=hg.flt
   rw[←hfi]at this
   exact Nat.lt_of_lt_of_le this (Nat.pow_le_pow_right (by decide) (by have:=gplaces_len b 0;have:=hofp.l1;omega))
  have hei:=hg.ei
  rw[←hest]at hei
  obtain ⟨K,hK⟩:∃ K:Int,K=(2 ^ q:Nat):=⟨_,rfl⟩
  have hp6:2 ^ q≤2 ^ 6:=Nat.pow_le_pow_right (by decide) (by omega)
  have hsh:ar .shl .i64 1 Q=K:=by
   rw[hQ,r1,hK,show (1:Int)=((1:Nat):Int) by rfl,shlI (by omega) (by omega),Nat.one_mul]
  rw[hsh]
  have hq0:0<2 ^ q:=Nat.two_pow_pos q
  obtain ⟨g2',hg2'⟩:∃ g,g=g3:=⟨_,rfl⟩
  have hxU:xU=g2':=by rw[hg2',hg3]
  rw[←hg2']
  rw[←hest]at hq
  have hcl:(colsG b).length≤112:=by unfold colsG;rw[List.length_map];have:=gplaces_len b 0;have:=hofp.l1;omega
  refine LOOP.ind (σ:=Int×Option Nat×BL) (fun (t,_,_)=>[(0,.fn (.yield y) [] []),(1,.ptr 6 0),(2,.ptr 7 0),(16,.p (iv K)),(17,.p (iv t))])
   (fun (_,o,L)=>⟨[{ cells:=[.p (iv x),.tl nb tB b],e:=24,fz:=false },{ cells:=[lcO o],e:=31,fz:=false },{ cells:=[.p (iv x),.tl nb tB b],e:=24,fz:=false },{ cells:=[.arr M tB B],e:=5,fz:=false },
    { cells:=[.p (iv x),.tl nb tB b,.ms 3 0 1 none M,.og 0 tI P,.arr 24 tRw RR,.og 1 tC F],e:=75,fz:=false },{ cells:=[.p (.v (.int .u64 a0)),.p (.v (.int .u64 a1))],e:=67,fz:=false },{ cells:=[.ptr 4 0],e:=63,fz:=false },{ cells:=[.p (.v (.int .u64 a0)),.p (.v (.int .u64 a1))],e:=67,fz:=false },lbO o L],[(p,3),(f,67)]⟩)
   (fun (t,_,_)=>(K - t).toNat) (fun (t,o,L)=>0≤t∧t≤K∧L=allS b est.2 fi t.toNat∧(o=none→t=0)∧(∀ n,o=some n→n=L.length∧0<t)) (0,none,[]) ⟨by omega,by show (0:Int)≤K;omega,rfl,fun _=>rfl,fun n h=>by cases h⟩ (.inr ⟨[some 0,some 1,some 2,some 3,some 4,some 5,some 6,some 7,none],[some 0,some 1],?_⟩) ?_
  ·rw[SIM_iff];cbv;simp[nlLe_self]
  intro ⟨t,o,L⟩ hI X' hX
  obtain ⟨hI1,hI2,hI3,hI4,hI5⟩:=hI
  have hBl:B.length=M:=by rw[hsys.hB,gbase_len,hsys.hM]
  have hM112:M≤112∧24≤M:=by rw[hsys.hM];exact ⟨hofp.l1,hofp.l0⟩
  have hBne:B≠[]:=fun e=>by rw[e]at hBl;simp at hBl;omega
  have had:ad 0 M=M:=by rw[r8];exact Nat.zero_add M
  have hvw:vw tB M B 0 M=B:=by rw[r18];exact vw_all (t:=tB) hBl
  obtain ⟨m,hm⟩:∃ m:Int,m=P.length:=⟨_,rfl⟩
  have hmP:ic (ln tI P)=m:=by rw[r4,r12,hm]
  have hml:(gplaces b 0).length=P.length:=by rw[hsys.hP];unfold plD;simp
  have hm112:m≤112:=by have:=gplaces_len b 0;have:=hofp.l1;omega
  rcases o with _ | n
  ·have ht0:t=0:=hI4 rfl
   cbv
   try simp only[nc_eq]at *
   refine BR.lss r0 (fun hct=>?_) (fun hct=>?_)
   ·rw[hla]
    refine LOOP.ind (σ:=Int×Int×Int) (fun (i,_,_)=>[(0,.fn (.yield y) [] []),(1,.ptr 6 0),(2,.ptr 7 0),(4,.p (iv t)),(5,.ptr 9 0),(16,.p (iv K)),(17,.p (iv t)),(24,.og 1 tC F),(25,.p (iv Q)),(26,.p (iv i))])
     (fun (_,u0,u1)=>⟨[{ cells:=[.p (iv x),.tl nb tB b],e:=24,fz:=false },{ cells:=[lcA],e:=31,fz:=false },{ cells:=[.p (iv x),.tl nb tB b],e:=24,fz:=false },{ cells:=[.arr M tB B],e:=5,fz:=false },
     { cells:=[.p (iv x),.tl nb tB b,.ms 3 0 1 none M,.og 0 tI P,.arr 24 tRw RR,.og 1 tC F],e:=75,fz:=false },{ cells:=[.p (.v (.int .u64 a0)),.p (.v (.int .u64 a1))],e:=67,fz:=false },{ cells:=[.ptr 4 0],e:=63,fz:=false },{ cells:=[.p (.v (.int .u64 a0)),.p (.v (.int .u64 a1))],e:=67,fz:=false },lbA,{ cells:=[.p (.v (.int .u64 u0)),.p (.v (.int .u64 u1))],e:=67,fz:=false }],[(p,3),(f,67)]⟩)
     (fun (i,_,_)=>(Q - i).toNat) (fun (i,u0,u1)=>0≤i∧i≤Q∧∃ cc,u0=c0 cc∧u1=c1 cc∧cc<2 ^ 112∧cc=fi ^^^ val (est.2.take i.toNat) t.toNat) (0,a0,a1) ⟨by omega,by show (0:Int)≤Q;omega,fi,hr2,hr3,hfilt,by simp[val]⟩ (.inl ⟨rfl,rfl⟩) ?_
    intro ⟨i,u0,u1⟩ hJ X2 hY
    obtain ⟨hJ1,hJ2,cc,hJ3,hJ4,hJ5,hJ6⟩:=hJ
    obtain ⟨⟨v0,v1⟩,hv⟩:∃ u:tC.den,u=gt tC F i:=⟨_,rfl⟩
    obtain ⟨fj,hfj⟩:∃ fj,fj=est.2.getD i.toNat 0:=⟨_,rfl⟩
    have hgi:i<Q→v0=c0 fj∧v1=c1 fj∧fj<2 ^ 112:=fun h=>by
     have hi':i.toNat<est.2.length:=by omega
     have e:(v0,v1)=setD' fj:=by
      rw[hv,r14,hsys.hF,←hest,hfj]
      show (freeD est.2).getD i.toNat _=_
      unfold freeD
      rw[List.getD_eq_getElem?_getD,List.getElem?_map,List.getElem?_eq_getElem hi',List.getD_eq_getElem?_getD,List.getElem?_eq_getElem hi'];rfl
     simp only[setD',Prod.mk.injEq]at e
     have hm':fj∈est.2:=by rw[hfj,List.getD_eq_getElem?_getD,List.getElem?_eq_getElem hi'];exact List.getElem_mem hi'
     exact ⟨e.1,e.2,Nat.lt_of_lt_of_le (hei.fr fj hm').1 (Nat.pow_le_pow_right (by decide) hcl)⟩
    have htk:i<Q→val (est.2.take (i+1).toNat) t.toNat=val (est.2.take i.toNat) t.toNat ^^^ (if t.toNat.testBit i.toNat then fj else 0):=fun h=>by
     have hi':i.toNat<est.2.length:=by omega
     have e:est.2.take (i+1).toNat=est.2.take i.toNat ++ [fj]:=by
      rw[show (i+1).toNat=i.toNat+1 by omega,List.take_add_one,List.getElem?_eq_getElem hi',hfj,List.getD_eq_getElem?_getD,List.getElem?_eq_getElem hi'];rfl
     have e2:(est.2.take i.toNat).length=i.toNat:=by rw[List.length_take];omega
     rw[e,val_snoc',e2]
    have hbt:i<Q→(ar .and .i64 (ar .shr .i64 t i) 1=1↔t.toNat.testBit i.toNat=true):=fun h=>by
     have e1:t=((t.toNat:Nat):Int):=by omega
     have e2:i=((i.toNat:Nat):Int):=by omega
     have hd:t.toNat / 2 ^ i.toNat≤t.toNat:=Nat.div_le_self _ _
     rw[r1]
     conv=>lhs;rw[e1,e2]
     rw[shrI (by omega),show (1:Int)=((1:Nat):Int) by rfl,andI (by omega) (by decide),Nat.and_one_is_mod,Nat.testBit_eq_decide_div_mod_eq,decide_eq_true_eq]
     omega
    have hadd:i<Q→ar .add .i64 i 1=i+1:=fun h=>by rw[r1];exact wrap64 (n:=i+1) (by omega) (by omega)
    have hx2:i<Q→g2' u0 v0=c0 (cc ^^^ fj)∧g2' u1 v1=c1 (cc ^^^ fj)∧C2P u0 u1 v0 v1:=fun h=>by
     obtain ⟨e1,e2,e3⟩:=hgi h
     refine ⟨by rw[hJ3,e1,←hxU,xU0],by rw[hJ4,e2,←hxU,xU1],⟨by rw[hJ3];exact c0U _,by rw[hJ4];exact c1U (by omega),by rw[e1];exact c0U _,by rw[e2];exact c1U (by omega)⟩⟩
    have p_1:p1 tV tV (v0,v1)=v0:=by rw[r21]
    have p_2:p2 tV tV (v0,v1)=v1:=by rw[r22]
    cbv
    try simp only[nc_eq]at *
    rw[hla,←hv,p_1,p_2]
    refine BR.lss r0 (fun hci=>?_) (fun hci=>?_)
    ·rw[hadd hci]
     have h1:INB i Q:=⟨hJ1,hci⟩
     refine ⟨h1,h1,⟨hJ1⟩,BR.eql r0 (fun hb=>?_) (fun hb=>?_)⟩
     ·obtain ⟨z1,z2,z3⟩:=hx2 hci
      refine ⟨z3,NEXT.mk (hY (i+1,_,_) _ _ ⟨by omega,by omega,cc ^^^ fj,z1,z2,Nat.xor_lt_two_pow hJ5 (hgi hci).2.2,?_⟩ (by show (Q - (i+1)).toNat<(Q - i).toNat;omega) (.inr ⟨[some 0,some 1,some 2,some 3,some 4,some 5,some 6,some 7,none,some 9],[some 0,some 1],?_⟩))⟩
      ·rw[htk hci,if_pos ((hbt hci).1 hb),hJ6,Nat.xor_assoc]
      ·rw[SIM_iff];cbv;simp[nlLe_self]
     ·refine NEXT.mk (hY (i+1,u0,u1) _ _ ⟨by omega,by omega,cc,hJ3,hJ4,hJ5,?_⟩ (by show (Q - (i+1)).toNat<(Q - i).toNat;omega) (.inr ⟨[some 0,some 1,some 2,some 3,some 4,some 5,some 6,some 7,none,some 9],[some 0,some 1],?_⟩))
      ·rw[htk hci,if_neg (fun h=>hb ((hbt hci).2 h)),Nat.xor_zero];exact hJ6
      ·rw[SIM_iff];cbv;simp[nlLe_self]
    ·have hccv:cc=fi ^^^ val est.2 t.toNat:=by rw[hJ6,List.take_of_length_le (by omega)]
     clear hx2 hadd hbt htk hgi hY X2
     rw[had,hvw]
     refine ⟨⟨⟨Nat.le_refl _⟩,trivial⟩,⟨hBne,⟨by omega⟩⟩,OWNK.mk (fun e=>absurd e hBne) fun M' _ hM'=>?_⟩
     obtain rfl:M=M':=by omega
     cbv
     try simp only[nc_eq]at *
     rw[hmP]
     refine LOOP.ind (σ:=Int×List Int) (fun (k,_)=>[(0,.fn (.yield y) [] []),(1,.ptr 6 0),(2,.ptr 7 0),(5,.ptr 9 0),(8,.ms 10 0 1 none M),(16,.p (iv K)),(17,.p (iv t)),(48,.og 0 tI P),(49,.p (iv m)),(50,.p (iv k))])
      (fun (_,O)=>⟨[{ cells:=[.p (iv x),.tl nb tB b],e:=24,fz:=false },{ cells:=[lcA],e:=31,fz:=false },{ cells:=[.p (iv x),.tl nb tB b],e:=24,fz:=false },{ cells:=[.arr M tB B],e:=5,fz:=false },
     { cells:=[.p (iv x),.tl nb tB b,.ms 3 0 1 none M,.og 0 tI P,.arr 24 tRw RR,.og 1 tC F],e:=75,fz:=false },{ cells:=[.p (.v (.int .u64 a0)),.p (.v (.int .u64 a1))],e:=67,fz:=false },{ cells:=[.ptr 4 0],e:=63,fz:=false },{ cells:=[.p (.v (.int .u64 a0)),.p (.v (.int .u64 a1))],e:=67,fz:=false },lbA,{ cells:=[.p (.v (.int .u64 u0)),.p (.v (.int .u64 u1))],e:=67,fz:=false },{ cells:=[.arr M tB O],e:=5,fz:=false }],[(p,3),(f,67)]⟩)
      (fun (k,_)=>(m - k).toNat) (fun (k,O)=>0≤k∧k≤m∧O=putM (gbase b) ((gplaces b 0).take k.toNat) cc) (0,B) ⟨by omega,by show (0:Int)≤m;omega,hsys.hB⟩ (.inl ⟨rfl,rfl⟩) ?_
     intro ⟨k,O⟩ hL X3 hZ
     obtain ⟨hL1,hL2,hL3⟩:=hL
     obtain ⟨at',hat⟩:∃ y:Int,y=gt tI P k:=⟨_,rfl⟩
     obtain ⟨pk,hpk⟩:∃ pk,pk=(gplaces b 0).getD k.toNat 0:=⟨_,rfl⟩
     have hkn:k<m→k.toNat<(gplaces b 0).length:=fun h=>by omega
     have hatp:k<m→at'=pk:=fun h=>by
      have hk:=hkn h
      rw[hat,r14,hsys.hP,hpk]
      show (plD (gplaces b 0)).getD k.toNat 0=_
      unfold plD
      rw[List.getD_eq_getElem?_getD,List.getElem?_map,List.getElem?_eq_getElem hk,List.getD_eq_getElem?_getD,List.getElem?_eq_getElem hk];rfl
     have hpl:k<m→pk<b.length:=fun h=>by rw[hpk];exact (places_lt (hkn h)).1
     have hOl:O.length=M:=by rw[hL3,putM_len,gbase_len,hsys.hM]
     have hnx:k<m→putM (gbase b) ((gplaces b 0).take (k+1).toNat) cc=if cc.testBit k.toNat then O.set pk 1 else O:=fun h=>by
      have hk:=hkn h
      have e:(gplaces b 0).take (k+1).toNat=(gplaces b 0).take k.toNat ++ [pk]:=by
       rw[show (k+1).toNat=k.toNat+1 by omega,List.take_add_one,List.getElem?_eq_getElem hk,hpk,List.getD_eq_getElem?_getD,List.getElem?_eq_getElem hk];rfl
      have e2:((gplaces b 0).take k.toNat).length=k.toNat:=by rw[List.length_take];omega
      rw[e,putM_snoc,e2,←hL3]
     have hup:k<m→up tB M O at' 1=O.set pk 1:=fun h=>by
      rw[r15,hatp h];unfold upR;rw[Ty.norm_eq tB hOl,Int.toNat_natCast]
     have haddk:k<m→ar .add .i64 k 1=k+1:=fun h=>by rw[r1];exact wrap64 (n:=k+1) (by omega) (by omega)
     have hMI:ic M=b.length:=by rw[r4,hsys.hM]
     have hhas:k<m→HASP u0 u1 k∧g2 u0 u1 k=cc.testBit k.toNat:=fun h=>by
      have hk:=hkn h
      refine ⟨⟨by rw[hJ3];exact c0U _,by rw[hJ4];exact c1U (by omega),hL1,by omega⟩,?_⟩
      rw[←hg2,hJ3,hJ4]
      have:=has_eq (x:=cc) (k:=k.toNat) (by omega) (by omega)
      rwa [show ((k.toNat:Nat):Int)=k by omega]at this
     have hO2:O.length≤112:=by omega
     have hOend:¬ k<m→O=genS b est.2 fi t.toNat:=fun h=>by
      rw[hL3,List.take_of_length_le (by omega),hccv];rfl
     have hvO:vw tB M O 0 M=O:=by rw[r18];exact vw_all (t:=tB) hOl
     have haddt:t<K→ar .add .i64 t 1=t+1:=fun h=>by rw[r1];exact wrap64 (n:=t+1) (by omega) (by omega)
     have hKL:L.length=t.toNat:=by rw[hI3,allS_len]
     cbv
     try simp only[nc_eq]at *
     rw[hmP,←hat,hMI]
     refine BR.lss r0 (fun hck=>?_) (fun hck=>?_)
     ·have h1:INB k m:=⟨hL1,hck⟩
      obtain ⟨hh1,hh2⟩:=hhas hck
      have hat2:=hatp hck
      have hpl2:=hpl hck
      have hn:=hnx hck
      rw[haddk hck,hup hck]
      refine ⟨h1,h1,hh1,BR.mk (fun hb=>?_) fun hb=>?_⟩
      ·rw[←hh2,show g2 u0 u1 k=true from hb,if_pos rfl]at hn
       have h2:INB at' b.length:=⟨by omega,by omega⟩
       exact ⟨h2,h2,NEXT.mk (hZ (k+1,O.set pk 1) _ _ ⟨by omega,by omega,hn.symm⟩ (by show (m - (k+1)).toNat<(m - k).toNat;omega) (.inl ⟨rfl,rfl⟩))⟩
      ·rw[←hh2,show g2 u0 u1 k=false from hb,if_neg (by decide)]at hn
       exact NEXT.mk (hZ (k+1,O) _ _ ⟨by omega,by omega,hn.symm⟩ (by show (m - (k+1)).toNat<(m - k).toNat;omega) (.inl ⟨rfl,rfl⟩))
     ·have hOe:=hOend hck
      rw[hvO]
      have hln:ln tTr [(some false,O)]=1:=by rw[r12];rfl
      rw[hln,haddt hct]
      refine ⟨⟨Nat.le_refl _⟩,⟨Nat.le_refl _⟩,LIM_iff.2 ⟨by decide,by decide⟩,NEXT.mk (hX (t+1,some 1,[(some false,O)]) _ _ ⟨by omega,by omega,?_,(fun h=>by cases h),(fun n h=>by cases h;exact ⟨rfl,by omega⟩)⟩ (by show (K - (t+1)).toNat<(K - t).toNat;omega) (.inr ⟨[some 0,some 1,some 2,some 3,some 4,some 5,some 6,some 7,some 11],[some 0,some 1],?_⟩))⟩
      ·rw[show (t+1).toNat=t.toNat+1 by omega,allS_succ,←hI3,hOe,ht0,hI3,ht0];rfl
      ·rw[SIM_iff];cbv;simp[nlLe_self]
   ·exact absurd hct (by omega)
  ·obtain ⟨hnL,ht0⟩:=hI5 n rfl
   cbv
   try simp only[nc_eq]at *
   refine BR.lss r0 (fun hct=>?_) (fun hct=>?_)
   ·rw[hla]
    refine LOOP.ind (σ:=Int×Int×Int) (fun (i,_,_)=>[(0,.fn (.yield y) [] []),(1,.ptr 6 0),(2,.ptr 7 0),(4,.p (iv t)),(5,.ptr 9 0),(16,.p (iv K)),(17,.p (iv t)),(24,.og 1 tC F),(25,.p (iv Q)),(26,.p (iv i))])
     (fun (_,u0,u1)=>⟨[{ cells:=[.p (iv x),.tl nb tB b],e:=24,fz:=false },{ cells:=[lcB n],e:=31,fz:=false },{ cells:=[.p (iv x),.tl nb tB b],e:=24,fz:=false },{ cells:=[.arr M tB B],e:=5,fz:=false },
     { cells:=[.p (iv x),.tl nb tB b,.ms 3 0 1 none M,.og 0 tI P,.arr 24 tRw RR,.og 1 tC F],e:=75,fz:=false },{ cells:=[.p (.v (.int .u64 a0)),.p (.v (.int .u64 a1))],e:=67,fz:=false },{ cells:=[.ptr 4 0],e:=63,fz:=false },{ cells:=[.p (.v (.int .u64 a0)),.p (.v (.int .u64 a1))],e:=67,fz:=false },lbB n L,{ cells:=[.p (.v (.int .u64 u0)),.p (.v (.int .u64 u1))],e:=67,fz:=false }],[(p,3),(f,67)]⟩)
     (fun (i,_,_)=>(Q - i).toNat) (fun (i,u0,u1)=>0≤i∧i≤Q∧∃ cc,u0=c0 cc∧u1=c1 cc∧cc<2 ^ 112∧cc=fi ^^^ val (est.2.take i.toNat) t.toNat) (0,a0,a1) ⟨by omega,by show (0:Int)≤Q;omega,fi,hr2,hr3,hfilt,by simp[val]⟩ (.inl ⟨rfl,rfl⟩) ?_
    intro ⟨i,u0,u1⟩ hJ X2 hY
    obtain ⟨hJ1,hJ2,cc,hJ3,hJ4,hJ5,hJ6⟩:=hJ
    obtain ⟨⟨v0,v1⟩,hv⟩:∃ u:tC.den,u=gt tC F i:=⟨_,rfl⟩
    obtain ⟨fj,hfj⟩:∃ fj,fj=est.2.getD i.toNat 0:=⟨_,rfl⟩
    have hgi:i<Q→v0=c0 fj∧v1=c1 fj∧fj<2 ^ 112:=fun h=>by
     have hi':i.toNat<est.2.length:=by omega
     have e:(v0,v1)=setD' fj:=by
      rw[hv,r14,hsys.hF,←hest,hfj]
      show (freeD est.2).getD i.toNat _=_
      unfold freeD
      rw[List.getD_eq_getElem?_getD,List.getElem?_map,List.getElem?_eq_getElem hi',List.getD_eq_getElem?_getD,List.getElem?_eq_getElem hi'];rfl
     simp only[setD',Prod.mk.injEq]at e
     have hm':fj∈est.2:=by rw[hfj,List.getD_eq_getElem?_getD,List.getElem?_eq_getElem hi'];exact List.getElem_mem hi'
     exact ⟨e.1,e.2,Nat.lt_of_lt_of_le (hei.fr fj hm').1 (Nat.pow_le_pow_right (by decide) hcl)⟩
    have htk:i<Q→val (est.2.take (i+1).toNat) t.toNat=val (est.2.take i.toNat) t.toNat ^^^ (if t.toNat.testBit i.toNat then fj else 0):=fun h=>by
     have hi':i.toNat<est.2.length:=by omega
     have e:est.2.take (i+1).toNat=est.2.take i.toNat ++ [fj]:=by
      rw[show (i+1).toNat=i.toNat+1 by omega,List.take_add_one,List.getElem?_eq_getElem hi',hfj,List.getD_eq_getElem?_getD,List.getElem?_eq_getElem hi'];rfl
     have e2:(est.2.take i.toNat).length=i.toNat:=by rw[List.length_take];omega
     rw[e,val_snoc',e2]
    have hbt:i<Q→(ar .and .i64 (ar .shr .i64 t i) 1=1↔t.toNat.testBit i.toNat=true):=fun h=>by
     have e1:t=((t.toNat:Nat):Int):=by omega
     have e2:i=((i.toNat:Nat):Int):=by omega
     have hd:t.toNat / 2 ^ i.toNat≤t.toNat:=Nat.div_le_self _ _
     rw[r1]
     conv=>lhs;rw[e1,e2]
     rw[shrI (by omega),show (1:Int)=((1:Nat):Int) by rfl,andI (by omega) (by decide),Nat.and_one_is_mod,Nat.testBit_eq_decide_div_mod_eq,decide_eq_true_eq]
     omega
    have hadd:i<Q→ar .add .i64 i 1=i+1:=fun h=>by rw[r1];exact wrap64 (n:=i+1) (by omega) (by omega)
    have hx2:i<Q→g2' u0 v0=c0 (cc ^^^ fj)∧g2' u1 v1=c1 (cc ^^^ fj)∧C2P u0 u1 v0 v1:=fun h=>by
     obtain ⟨e1,e2,e3⟩:=hgi h
     refine ⟨by rw[hJ3,e1,←hxU,xU0],by rw[hJ4,e2,←hxU,xU1],⟨by rw[hJ3];exact c0U _,by rw[hJ4];exact c1U (by omega),by rw[e1];exact c0U _,by rw[e2];exact c1U (by omega)⟩⟩
    have p_1:p1 tV tV (v0,v1)=v0:=by rw[r21]
    have p_2:p2 tV tV (v0,v1)=v1:=by rw[r22]
    cbv
    try simp only[nc_eq]at *
    rw[hla,←hv,p_1,p_2]
    refine BR.lss r0 (fun hci=>?_) (fun hci=>?_)
    ·rw[hadd hci]
     have h1:INB i Q:=⟨hJ1,hci⟩
     refine ⟨h1,h1,⟨hJ1⟩,BR.eql r0 (fun hb=>?_) (fun hb=>?_)⟩
     ·obtain ⟨z1,z2,z3⟩:=hx2 hci
      refine ⟨z3,NEXT.mk (hY (i+1,_,_) _ _ ⟨by omega,by omega,cc ^^^ fj,z1,z2,Nat.xor_lt_two_pow hJ5 (hgi hci).2.2,?_⟩ (by show (Q - (i+1)).toNat<(Q - i).toNat;omega) (.inr ⟨[some 0,some 1,some 2,some 3,some 4,some 5,some 6,some 7,some 8,some 9],[some 0,some 1],?_⟩))⟩
      ·rw[htk hci,if_pos ((hbt hci).1 hb),hJ6,Nat.xor_assoc]
      ·rw[SIM_iff];cbv;simp[nlLe_self]
     ·refine NEXT.mk (hY (i+1,u0,u1) _ _ ⟨by omega,by omega,cc,hJ3,hJ4,hJ5,?_⟩ (by show (Q - (i+1)).toNat<(Q - i).toNat;omega) (.inr ⟨[some 0,some 1,some 2,some 3,some 4,some 5,some 6,some 7,some 8,some 9],[some 0,some 1],?_⟩))
      ·rw[htk hci,if_neg (fun h=>hb ((hbt hci).2 h)),Nat.xor_zero];exact hJ6
      ·rw[SIM_iff];cbv;simp[nlLe_self]
    ·have hccv:cc=fi ^^^ val est.2 t.toNat:=by rw[hJ6,List.take_of_length_le (by omega)]
     clear hx2 hadd hbt htk hgi hY X2
     rw[had,hvw]
     refine ⟨⟨⟨Nat.le_refl _⟩,trivial⟩,⟨hBne,⟨by omega⟩⟩,OWNK.mk (fun e=>absurd e hBne) fun M' _ hM'=>?_⟩
     obtain rfl:M=M':=by omega
     cbv
     try simp only[nc_eq]at *
     rw[hmP]
     refine LOOP.ind (σ:=Int×List Int) (fun (k,_)=>[(0,.fn (.yield y) [] []),(1,.ptr 6 0),(2,.ptr 7 0),(5,.ptr 9 0),(8,.ms 10 0 1 none M),(16,.p (iv K)),(17,.p (iv t)),(48,.og 0 tI P),(49,.p (iv m)),(50,.p (iv k))])
      (fun (_,O)=>⟨[{ cells:=[.p (iv x),.tl nb tB b],e:=24,fz:=false },{ cells:=[lcB n],e:=31,fz:=false },{ cells:=[.p (iv x),.tl nb tB b],e:=24,fz:=false },{ cells:=[.arr M tB B],e:=5,fz:=false },
     { cells:=[.p (iv x),.tl nb tB b,.ms 3 0 1 none M,.og 0 tI P,.arr 24 tRw RR,.og 1 tC F],e:=75,fz:=false },{ cells:=[.p (.v (.int .u64 a0)),.p (.v (.int .u64 a1))],e:=67,fz:=false },{ cells:=[.ptr 4 0],e:=63,fz:=false },{ cells:=[.p (.v (.int .u64 a0)),.p (.v (.int .u64 a1))],e:=67,fz:=false },lbB n L,{ cells:=[.p (.v (.int .u64 u0)),.p (.v (.int .u64 u1))],e:=67,fz:=false },{ cells:=[.arr M tB O],e:=5,fz:=false }],[(p,3),(f,67)]⟩)
      (fun (k,_)=>(m - k).toNat) (fun (k,O)=>0≤k∧k≤m∧O=putM (gbase b) ((gplaces b 0).take k.toNat) cc) (0,B) ⟨by omega,by show (0:Int)≤m;omega,hsys.hB⟩ (.inl ⟨rfl,rfl⟩) ?_
     intro ⟨k,O⟩ hL X3 hZ
     obtain ⟨hL1,hL2,hL3⟩:=hL
     obtain ⟨at',hat⟩:∃ y:Int,y=gt tI P k:=⟨_,rfl⟩
     obtain ⟨pk,hpk⟩:∃ pk,pk=(gplaces b 0).getD k.toNat 0:=⟨_,rfl⟩
     have hkn:k<m→k.toNat<(gplaces b 0).length:=fun h=>by omega
     have hatp:k<m→at'=pk:=fun h=>by
      have hk:=hkn h
      rw[hat,r14,hsys.hP,hpk]
      show (plD (gplaces b 0)).getD k.toNat 0=_
      unfold plD
      rw[List.getD_eq_getElem?_getD,List.getElem?_map,List.getElem?_eq_getElem hk,List.getD_eq_getElem?_getD,List.getElem?_eq_getElem hk];rfl
     have hpl:k<m→pk<b.length:=fun h=>by rw[hpk];exact (places_lt (hkn h)).1
     have hOl:O.length=M:=by rw[hL3,putM_len,gbase_len,hsys.hM]
     have hnx:k<m→putM (gbase b) ((gplaces b 0).take (k+1).toNat) cc=if cc.testBit k.toNat then O.set pk 1 else O:=fun h=>by
      have hk:=hkn h
      have e:(gplaces b 0).take (k+1).toNat=(gplaces b 0).take k.toNat ++ [pk]:=by
       rw[show (k+1).toNat=k.toNat+1 by omega,List.take_add_one,List.getElem?_eq_getElem hk,hpk,List.getD_eq_getElem?_getD,List.getElem?_eq_getElem hk];rfl
      have e2:((gplaces b 0).take k.toNat).length=k.toNat:=by rw[List.length_take];omega
      rw[e,putM_snoc,e2,←hL3]
     have hup:k<m→up tB M O at' 1=O.set pk 1:=fun h=>by
      rw[r15,hatp h];unfold upR;rw[Ty.norm_eq tB hOl,Int.toNat_natCast]
     have haddk:k<m→ar .add .i64 k 1=k+1:=fun h=>by rw[r1];exact wrap64 (n:=k+1) (by omega) (by omega)
     have hMI:ic M=b.length:=by rw[r4,hsys.hM]
     have hhas:k<m→HASP u0 u1 k∧g2 u0 u1 k=cc.testBit k.toNat:=fun h=>by
      have hk:=hkn h
      refine ⟨⟨by rw[hJ3];exact c0U _,by rw[hJ4];exact c1U (by omega),hL1,by omega⟩,?_⟩
      rw[←hg2,hJ3,hJ4]
      have:=has_eq (x:=cc) (k:=k.toNat) (by omega) (by omega)
      rwa [show ((k.toNat:Nat):Int)=k by omega]at this
     have hO2:O.length≤112:=by omega
     have hOend:¬ k<m→O=genS b est.2 fi t.toNat:=fun h=>by
      rw[hL3,List.take_of_length_le (by omega),hccv];rfl
     have hvO:vw tB M O 0 M=O:=by rw[r18];exact vw_all (t:=tB) hOl
     have haddt:t<K→ar .add .i64 t 1=t+1:=fun h=>by rw[r1];exact wrap64 (n:=t+1) (by omega) (by omega)
     have hKL:L.length=t.toNat:=by rw[hI3,allS_len]
     cbv
     try simp only[nc_eq]at *
     rw[hmP,←hat,hMI]
     refine BR.lss r0 (fun hck=>?_) (fun hck=>?_)
     ·have h1:INB k m:=⟨hL1,hck⟩
      obtain ⟨hh1,hh2⟩:=hhas hck
      have hat2:=hatp hck
      have hpl2:=hpl hck
      have hn:=hnx hck
      rw[haddk hck,hup hck]
      refine ⟨h1,h1,hh1,BR.mk (fun hb=>?_) fun hb=>?_⟩
      ·rw[←hh2,show g2 u0 u1 k=true from hb,if_pos rfl]at hn
       have h2:INB at' b.length:=⟨by omega,by omega⟩
       exact ⟨h2,h2,NEXT.mk (hZ (k+1,O.set pk 1) _ _ ⟨by omega,by omega,hn.symm⟩ (by show (m - (k+1)).toNat<(m - k).toNat;omega) (.inl ⟨rfl,rfl⟩))⟩
      ·rw[←hh2,show g2 u0 u1 k=false from hb,if_neg (by decide)]at hn
       exact NEXT.mk (hZ (k+1,O) _ _ ⟨by omega,by omega,hn.symm⟩ (by show (m - (k+1)).toNat<(m - k).toNat;omega) (.inl ⟨rfl,rfl⟩))
     ·have hOe:=hOend hck
      rw[hvO]
      have hln:ad n (ln tTr [(some false,O)])=n+1:=by rw[r8,r12];rfl
      have hvL:vw tTr n L 0 n=L:=by rw[r18];exact vw_all (t:=tTr) hnL.symm
      have hapL:ap tTr L [(some false,O)]=L ++ [(some false,O)]:=by rw[r16]
      rw[hln,hvL,hapL,haddt hct]
      refine ⟨⟨Nat.le_refl _⟩,⟨Nat.le_refl _⟩,LIM_iff.2 ⟨by omega,by omega⟩,NEXT.mk (hX (t+1,some (n+1),L ++ [(some false,O)]) _ _ ⟨by omega,by omega,?_,(fun h=>by cases h),(fun n h=>by cases h;exact ⟨by rw[List.length_append,←hnL];rfl,by omega⟩)⟩ (by show (K - (t+1)).toNat<(K - t).toNat;omega) (.inr ⟨[some 0,some 1,some 2,some 3,some 4,some 5,some 6,some 7,some 11],[some 0,some 1],?_⟩))⟩
      ·rw[show (t+1).toNat=t.toNat+1 by omega,allS_succ,←hI3,hOe]
      ·rw[SIM_iff];cbv;simp[nlLe_self]
   ·have htK:t.toNat=2 ^ q:=by omega
    have hn2:n=2 ^ q:=by rw[hnL,hI3,allS_len,htK]
    have hcv:=hg.perm hr1.symm
    rw[←hfi,←hest]at hcv
    have hmk:mkS b est.2 fi=(List.range (2 ^ q)).map (genS b est.2 fi):=by unfold mkS;rw[←hq];rfl
    rw[hmk]at hcv
    refine SRTK.mk ⟨(List.range (2 ^ q)).map (genS b est.2 fi),solG b over.toNat,by rw[hI3,htK];rfl,rfl,by rw[List.length_map,List.length_range,hn2],by omega,by omega,fun c hc=>?_,hcv,solB_lex (gopn hofp.gv),?_⟩
    ·obtain ⟨z,_,rfl⟩:=List.mem_map.1 hc
     unfold genS
     rw[putM_len,gbase_len];have:=hofp.l1;omega
    have hRl:R.length=n:=by rw[eR,bitsT,List.length_map,hcv.length_eq,List.length_map,List.length_range,hn2]
    rw[←eR]
    have hvR:vw tTr n R 0 n=R:=by rw[r18];exact vw_all (t:=tTr) hRl
    have hadn:ad 0 n=n:=by rw[r8];exact Nat.zero_add n
    cbv
    try simp only[nc_eq]at *
    rw[hvR,hadn]
    exact ⟨⟨⟨Nat.le_refl _⟩,trivial⟩,⟨nlLe_none.2 trivial,rfl⟩,eE.symm,trivial⟩
 ·have hi:¬ isG b over.toNat=true:=by rw[←hr.h,h];decide
  rw[if_neg (fun h=>hi h.1)]at eE
  rw[eE,if_pos rfl]at eR
  have hg:GOOD b over.toNat:=⟨hofp.gv,hofp.l0,by omega⟩
  have hz:solG b over.toNat=[]:=by
   have:=hg.len
   rw[if_neg hi]at this
   exact List.eq_nil_of_length_eq_zero this
  rw[hz]at eR
  exact ⟨⟨nlLe_none.2 trivial,eR⟩,eE.symm,trivial⟩
end Go.Ab
