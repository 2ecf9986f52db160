/- Clone in a block of free order. -/
import Derived.Test.YtjepihoacohboaaLf
set_option linter.unusedSimpArgs false
set_option linter.unusedVariables false
set_option maxRecDepth 20000
set_option maxHeartbeats 4000000
namespace Go.Ab
open Go.Proofs Go.RowKit
theorem OwnFn.cpn {P:Program} {st:St} {f:FuncId} {args:List D} {n:Nat} {cells:List PD} {e:TypeId} (hfl:cells.all flatP=true) (h:OwnFn P f args (.ms 0 0 n) [{ cells:=cells.map .p,e:=e,fz:=false }]) {ds:List D} (ha:ViewAs st.box ds args):CPn P f ds st n { cells:=cells.map .p,e:=e,fz:=false }:=by
 refine ⟨h.1,fun c st' hst k hk E w vs hw hgl hιk hs hR=>?_⟩
 obtain ⟨hl,hps⟩:=ha
 have hps:=hps _ hst E w hw.gok hw.boxOK
 refine (h.2 (nowG E w) w vs (nowG_ok hw.gok) (hgl.mono (nowG_le hw.gok)) (by omega) (hps (fun i=>vs.getD i undef) hR)).mono ?_
 rintro e' w' ⟨v,ι,rfl,hb,hB,h1,h2,hr⟩
 obtain ⟨b0,cap,hN,hcap,_,rfl⟩:=hr.ms_inv
 have hι0:ι 0=some b0:=hN.resolve_right (fun h=>by cases h)
 have hbig:=h1 _ _ hι0
 obtain ⟨B1,k1,k0⟩:=hB.2 _ _ hι0
 simp only[List.getElem?_cons_zero,Option.some.injEq]at k1
 subst k1
 obtain ⟨ws,k2,k3,k4⟩:=k0 rfl
 have hw1:=hw.grown hb
 let E':Em:=E.addκ k b0 none
 have hδk:∀ b,E.δ k≠some b:=fun b hd=>by
  obtain ⟨B',q1,q2⟩:=hw.dead _ _ hd
  rw[hk]at q1
  obtain rfl:=Option.some.inj q1
  cases q2.1
 have hnew:∀ {j b'},E.N j b'→j≠k:=fun {j b'} h e=>by
  subst e
  rcases h with h | h
  ·rw[hιk]at h;cases h
  ·exact hδk _ h
 have hle:E.le E':=⟨fun _ _ _ h=>h,fun j b' h=>h.elim (fun h=>.inl (by simp only[E',Em.addκ];rw[if_neg (hnew (.inl h))];exact h)) .inr,fun j b' h=>by simp only[E',Em.addκ];rw[if_neg (hnew h)],fun _ b cap cur h=>⟨b,cap,cur,h,.inl ⟨rfl,rfl,rfl⟩⟩⟩
 have hcase:∀ i b,E'.ι i=some b→(i=k∧b=b0)∨(i≠k∧E.ι i=some b):=fun i b h=>by
  simp only[E',Em.addκ]at h
  split at h
  ·exact .inl ⟨by assumption,(Option.some.inj h).symm⟩
  ·exact .inr ⟨by assumption,h⟩
 refine ⟨_,E',rfl,hle,⟨hw1.os,hw1.tape,hw1.output,hw1.size,hw1.old,hw.le.trans hle,hw1.gnew,hw1.gok,fun i b hi=>?_,fun i j b hi hj=>?_,fun g b cap cur hg=>?_,hw1.ginj,fun i g b cap cur hi hg=>?_,fun i b hi=>hw1.dead i b hi,fun i c0 hi=>?_⟩,?_,fun i b hi _=>⟨by simp only[E',Em.addκ];rw[if_neg (hnew (.inl hi))];exact hi,hb.block b (hw.ι_lt hi)⟩,fun j=>?_⟩
 ·rcases hcase i b hi with ⟨rfl,rfl⟩ | ⟨hik,hi⟩
  ·refine ⟨_,ws,hk,(by rw[objOf_cells ws rfl];exact k2),by simpa using k3,fun j hj=>?_,.inl (Nat.le_trans hw.size hbig),⟨rfl,by simp[E',Em.addκ],fun c0 h0=>?_⟩,fun o=>hw.G_none hbig o⟩
   ·obtain ⟨q1,q2⟩:=k4 j (by simpa using hj)
    refine ⟨?_,q2⟩
    simp only[List.length_map]at hj
    simp only[List.getD,List.getElem?_map,List.getElem?_eq_getElem hj,Option.map_some,Option.getD_some]at q1 ⊢
    exact .p _ _ (q1.p_inv.flat (List.all_eq_true.1 hfl _ (List.getElem_mem hj)))
   ·simp only[E',Em.addκ,if_true]at h0
    cases h0
  ·obtain ⟨B',us,q1,q2,q3,q4,q5,q6,q7⟩:=hw1.box i b hi
   exact ⟨B',us,q1,q2,q3,fun j hj=>⟨(q4 j hj).1.mono hle,(q4 j hj).2⟩,q5,⟨q6.1,by simp only[E',Em.addκ];rw[if_neg hik];exact q6.2⟩,q7⟩
 ·rcases hcase i b hi with ⟨e1,e2⟩ | ⟨_,hi'⟩ <;> rcases hcase j b hj with ⟨e3,e4⟩ | ⟨_,hj'⟩
  ·exact e1.trans e3.symm
  ·have:=hw.ι_lt hj';omega
  ·have:=hw.ι_lt hi';omega
  ·exact hw.inj i j b hi' hj'
 ·exact hw1.grp g b cap cur hg
 ·rcases hcase i b hi with ⟨rfl,rfl⟩ | ⟨_,hi⟩
  ·have:=hw.γ_lt (show E.γ g=some (b,cap,cur) from hg);omega
  ·exact hw.apart i g b cap cur hi hg
 ·by_cases hj:i=k
  ·subst hj;exact ⟨b0,.inl (by simp[E',Em.addκ])⟩
  ·simp only[E',Em.addκ,if_neg hj]at hi
   exact (hw.kap i c0 hi).imp fun b hb=>hle.ι _ _ hb
 ·exact .ms _ _ _ b0 cap (.inl (by simp[E',Em.addκ])) hcap (fun c0 h0=>by simp only[E',Em.addκ,if_true]at h0;cases h0)
 ·by_cases hj:j=k
  ·exact .inl hj
  ·exact .inr (by simp only[E',Em.addκ];rw[if_neg hj])
theorem spOwn.okB {P:Program} {f:FuncId} {α:Type} {arg:List DC→Option α} {pre:α→Prop} {t:Ty} {e:TypeId} {l:α→List t.den} (hf:∀ a,(t.rows (l a)).all flatP=true) (hne:∀ a,pre a→l a≠[]) (ha:∀ xs a,arg xs=some a→pre a→OwnL P f xs t e (l a) shI) :
  ∀ ds st K,spOwn arg pre t e l (fun _=>shI) OpsS.real f ds st K→CB P f (concL ds) st.conc (KP K):=fun ds st K h=>by
 unfold spOwn at h
 split at h <;> first | exact h.elim | skip
 rename_i xs p hv
 obtain ⟨hp,h⟩:=h
 split at h <;> first | exact h.elim | skip
 rename_i a hxa
 obtain ⟨hpre,hk⟩:=h
 have hview:ViewAs st.conc.box (concL ds) (concL xs):=by
  unfold viewT at hv
  split at hv
  ·rename_i ys hy
   simp only[Option.some.injEq,Prod.mk.injEq]at hv
   obtain ⟨rfl,rfl⟩:=hv
   exact pureA_viewA (pureN_as hy)
  ·exact viewN_as hv hp
 have ho:=ha xs a hxa hpre
 have hl:=hne a hpre
 have h1:=ho.box hl
 simp only[shI,ms_conc',concCs_cons,concCs_nil,cellS,arrCells,List.append_nil,t.norm_eq rfl]at h1
 refine .inr ⟨(l a).length,_,h1.cpn (hf a) hview,?_⟩
 have:=hk.box _ hl rfl
 refine ⟨_,_,(by show _=(DC.ms st.box.length 0 t.size none (l a).length).conc;rw[ms_conc',StS.box_len]),?_,this⟩
 simp only[StS.conc,List.map_append,List.map_cons,List.map_nil,BoxS.conc,concCs_cons,concCs_nil,cellS,arrCells,List.append_nil,t.norm_eq rfl]
def spCl:OpsS→CallS:=spOwn (argT1 (.sl tB)) (fun a=>a.2≠[]∧Short 2000 a.2) tB 5 (fun a=>a.2) (fun _=>shI)
theorem cCloneB:∀ ds st K,spCl OpsS.real 50 ds st K→CB Try.prog 50 (concL ds) st.conc (KP K):=spOwn.okB (α:=(Ty.sl tB).den) (fun a=>rows_int a.2) (fun a h=>h.1) (argT1.ok (a:=.sl tB) (Q:=fun xs a=>(a.2≠[]∧Short 2000 a.2)→OwnL Try.prog 50 xs tB 5 a.2 shI) (fun xs ys a he h hp=>(h hp).cong he) fun a hp=>cCloneO a.1 a.2 hp.1 hp.2)
def cerA (b:List Int) (st:ROWS2×List Nat) (first:Nat):Nat→List Int
 | 0=>b
 | k+1=>(cerA b st first k).set ((gplaces b 0).getD k 0) (certV st first k)
def cerL (b:List Int) (over:Int):List Int:=if isG b over.toNat then cerA b (elimG b) (slv (elimG b) (tgt b over.toNat)).2 (gplaces b 0).length else b
theorem cerA_len (b:List Int) (st:ROWS2×List Nat) (f:Nat):∀ k,(cerA b st f k).length=b.length
 | 0=>rfl
 | k+1=>by rw[cerA,List.length_set];exact cerA_len b st f k
theorem places_inj {b:List Int} {i j:Nat} (hi:i<(gplaces b 0).length) (hj:j<(gplaces b 0).length) (h:i<j):(gplaces b 0).getD i 0<(gplaces b 0).getD j 0:=by
 have:=List.pairwise_iff_getElem.1 (gplaces_as b 0) i j hi hj h
 rwa [List.getD_eq_getElem?_getD,List.getD_eq_getElem?_getD,List.getElem?_eq_getElem hi,List.getElem?_eq_getElem hj]
theorem places_lt {b:List Int} {i:Nat} (hi:i<(gplaces b 0).length):(gplaces b 0).getD i 0<b.length∧b.getD ((gplaces b 0).getD i 0) 0=2:=by
 rw[List.getD_eq_getElem?_getD,List.getElem?_eq_getElem hi];exact gmem.1 (List.getElem_mem hi)
theorem getD_set {l:List Int} {p q:Nat} (h:p<l.length) (x:Int):(l.set p x).getD q 0=if p=q then x else l.getD q 0:=by
 by_cases e:p=q
 ·subst e;rw[if_pos rfl,getD_set_eq h]
 ·rw[if_neg e,getD_set_ne e]
theorem cerA_later {b:List Int} {st:ROWS2×List Nat} {f:Nat}:∀ {k:Nat} {i:Nat},k≤(gplaces b 0).length→(∀ j,j<k→(gplaces b 0).getD j 0≠i)→(cerA b st f k).getD i 0=b.getD i 0
 | 0,i,_,_=>rfl
 | k+1,i,hk,h=>by
  rw[cerA,getD_set_ne (h k (by omega))]
  exact cerA_later (by omega) fun j hj=>h j (by omega)
theorem cerA_open {b:List Int} {st:ROWS2×List Nat} {f k:Nat} (hk:k<(gplaces b 0).length):(cerA b st f k).getD ((gplaces b 0).getD k 0) 0=2:=by
 rw[cerA_later (by omega) fun j hj=>by have:=places_inj (b:=b) (i:=j) (j:=k) (by omega) hk hj;omega]
 exact (places_lt hk).2
theorem set_same2 {l:List Int} {p:Nat} {x:Int} (h:l.getD p 0=x) (hp:p<l.length):l.set p x=l:=by
 apply ext_getD (by simp)
 intro i
 rw[getD_set hp]
 split
 ·rename_i e;subst e;exact h.symm
 ·rfl
def boxK (k:Int):StS:=⟨[{ cells:=[.p (iv k)],e:=3,fz:=false }],[]⟩
theorem cC52 (u0 u1 k:Int) (z:Bool) (hz:z=hasM u0 u1 k) (h:HASP u0 u1 k):FnS Try.prog 52 ([injT tC (u0,u1),.ptr 0 0]) (boxK k ) fun x_ s_=>x_=(.sb z)∧s_=(boxK k):=by
 refine FnS.of (S:=[(53,_)]) (T:=[]) (U:=[]) (tbl:=[]) (n:=7) hm11 cfg (.cons (spT2.ok (a:=(.pair (.int .u64) (.int .u64))) (b:=(.int .i64)) fun x0 x1 h=>cHas x0.1 x0.2 x1 h) .nil) .nil .nil .nil 0 Try.call52 Try.func52 (ac52_ok (some (1,0))) (by rw[Try.ntmps52];exact Nat.le_refl _) rfl _ _ _ (by rfl) ?_
 intro cmp ar cv tn ic ai mx an ad ml sb mn ln em gt up ap sc vw cp rp p1 p2 s1 s2 X Y hX hY r0 r1 r2 r3 r4 r5 r6 r7 r8 r9 r10 r11 r12 r13 r14 r15 r16 r17 r18 r19 r20 r21 r22 r23 r24
 generalize hg0:hasM=g0
 cbv
 rw[hg0]at hz
 refine ⟨h,BR.mk (fun hb=>RET.mk ⟨[some 0],[],?_⟩) fun hb=>RET.mk ⟨[some 0],[],?_⟩⟩
 ·rw[SIM_iff];cbv;rw[hz,show g0 u0 u1 k=true from hb];simp
 ·rw[SIM_iff];cbv;rw[hz,show g0 u0 u1 k=false from hb];simp
structure C52K (u0 u1 k:Int) (p:Bool→Prop):Prop where
 pre:HASP u0 u1 k
 h:∀ z,z=hasM u0 u1 k→p z
def spC52:OpsS→CallS:=fun _ _ ds st K=>match ds with
 | [d,.ptr n 0]=>(match getT tC d,nthD st.box n with
  | some (u0,u1),some B=>(match B.cells with
   | [.p (.v (.int .i64 k))]=>C52K u0 u1 k fun z=>frS [n] [] [injT tC (u0,u1),.ptr 0 0] (boxK k) (.sb z) (boxK k) [injT tC (u0,u1),.ptr n 0] st K
   | _=>False)
  | _,_=>False)
 | _=>False
theorem cC52T:∀ ds st K,spC52 OpsS.real 52 ds st K→FnS Try.prog 52 ds st K:=fun ds st K h=>by
 unfold spC52 at h
 split at h <;> first | exact h.elim | skip
 split at h <;> first | exact h.elim | skip
 split at h <;> first | exact h.elim | skip
 rename_i d n _ _ u0 u1 B hd hB _ k hk
 refine FnS.congA (ys:=[injT tC (u0,u1),.ptr n 0]) ?_ (by simp only[concL,getT_conc hd])
 exact frS_ok (cC52 u0 u1 k _ rfl h.pre) (h.h _ rfl)
theorem cCertain (x:Int) (nb:Option Bool) (b L:List Int) (over:Int) (hL:L=cerL b over) (he:wrnG b over=0) (h:LENB b) (h0:∀ y∈b,0≤y):PurS Try.prog 17 [injT tG (x,nb,b),injT tI over] (.tup [.agg [.p (iv x),.tl none tB L],.p (iv 0)]):=by
 refine PurS.of (S:=[(39,_),(53,_)]) (T:=[(40,_),(41,_),(52,_)]) (U:=[(50,_)]) (tbl:=[(51,ac51 none,[.tmp 4],9),(72,ac72 none,[.tmp 4],19)]) (n:=66) hm11 cfg (.cons (spT2.ok (a:=(.pair (.int .i64) (.sl (.int .u8)))) (b:=(.int .i64)) fun x0 x1 h=>cGchk2 x0.1 x0.2.1 x0.2.2 x1 h) (.cons (spT2.ok (a:=(.pair (.int .u64) (.int .u64))) (b:=(.int .i64)) fun x0 x1 h=>cHas x0.1 x0.2 x1 h) .nil)) (.cons cOfT (.cons cSolveT (.cons cC52T .nil))) (.consB cCloneB .nil) (.cons Try.call51 Try.func51 (ac51_ok none) (by rw[Try.ntmps51];exact Nat.le_refl _) (.cons Try.call72 Try.func72 (ac72_ok none) (by rw[Try.ntmps72];exact Nat.le_refl _) .nil)) 6 Try.call17 Try.func17 (ac17_ok (some (0,0))) (by rw[Try.ntmps17];exact Nat.le_refl _) rfl ⟨_,rfl⟩ ?_
 intro cmp ar cv tn ic ai mx an ad ml sb mn ln em gt up ap sc vw cp rp p1 p2 s1 s2 X Y hX hY r0 r1 r2 r3 r4 r5 r6 r7 r8 r9 r10 r11 r12 r13 r14 r15 r16 r17 r18 r19 r20 r21 r22 r23 r24
 generalize hg0:wrnG=g0
 generalize hg1:hasM=g1
 cbv
 have he0:=he
 obtain ⟨hofp,ho0,ho1,_⟩:=wrnG_ok h0 he
 rw[hg0]at he
 refine ⟨h,BR.neq r0 (fun h1=>absurd he h1) fun h1=>OFK.mk hofp ?_⟩
 intro B P R F M p f hsys hp hf
 have hbne:b≠[]:=fun e=>by have:=hofp.l0;rw[e]at this;simp at this
 have hbl:=hofp.l1
 cbv
 refine ⟨⟨⟨⟨nlLe_self.2 trivial,trivial⟩,trivial⟩,trivial⟩,⟨hbne,⟨by omega⟩⟩,OWNK.mk (fun e=>absurd e hbne) fun M' _ hM'=>?_⟩
 obtain rfl:M'=M:=by rw[hM',hsys.hM]
 cbv
 refine SLK.mk ⟨hsys,ho0,ho1⟩ ?_
 intro is a0 a1 hr
 obtain ⟨hr1,hr2,hr3⟩:=hr
 have hn2:nlLe nb nb:=nlLe_self.2 trivial
 have had:ad 0 M'=M':=by rw[r8];exact Nat.zero_add M'
 have hvw:vw tB M' b 0 M'=b:=by rw[r18];exact vw_all (t:=tB) hsys.hM.symm
 obtain ⟨m,hm⟩:∃ m:Int,m=P.length:=⟨_,rfl⟩
 have hmP:ic (ln tI P)=m:=by rw[r4,r12,hm]
 have hml:(gplaces b 0).length=P.length:=by rw[hsys.hP];unfold plD;simp
 cbv
 try simp only[nc_eq]at *
 rw[hmP]
 refine ⟨⟨⟨⟨⟨hn2,trivial⟩,trivial⟩,trivial⟩,trivial⟩,BR.mk (fun hi=>?_) fun hi=>?_⟩
 ·obtain ⟨est,hest⟩:∃ est,est=elimG b:=⟨_,rfl⟩
  obtain ⟨c,hc⟩:∃ c,c=(slv (elimG b) (tgt b over.toNat)).2:=⟨_,rfl⟩
  rw[hi]at hr1 hr2 hr3
  simp only[if_true]at hr2 hr3
  rw[←hc]at hr2 hr3
  have hLf:L=cerA b est c (gplaces b 0).length:=by rw[hL,hest,hc];unfold cerL;rw[if_pos hr1.symm]
  have hg:GOOD b over.toNat:=⟨hofp.gv,hofp.l0,by omega⟩
  have hclt:c<2 ^ 112:=by
   have:=hg.flt
   rw[←hc]at this
   exact Nat.lt_of_lt_of_le this (Nat.pow_le_pow_right (by decide) (by have:=gplaces_len b 0;omega))
  refine LOOP.ind (σ:=Int×List Int) (fun (k,_)=>[(4,.ptr 1 0),(7,.ptr 4 0),(8,.ptr 6 0),(9,.ptr 7 0),(40,.og 0 tI P),(41,.p (iv m)),(42,.p (iv k))])
   (fun (_,O)=>⟨[{ cells:=[.p (iv x),.tl nb tB b],e:=24,fz:=false },{ cells:=[.p (iv 0),.p (.sl (some true) 0 [])],e:=24,fz:=false },{ cells:=[.p (iv x),.tl nb tB b],e:=24,fz:=false },{ cells:=[.arr M' tB B],e:=5,fz:=false },
    { cells:=[.p (iv x),.tl nb tB b,.ms 3 0 1 none M',.og 0 tI P,.arr 24 tRw R,.og 1 tC F],e:=75,fz:=false },{ cells:=[.arr M' tB O],e:=5,fz:=false },{ cells:=[.p (iv x),.ms 5 0 1 none M'],e:=24,fz:=false },{ cells:=[.p (.v (.int .u64 a0)),.p (.v (.int .u64 a1))],e:=67,fz:=false }],[(p,3),(f,67)]⟩)
   (fun (k,_)=>(m - k).toNat) (fun (k,O)=>0≤k∧k≤m∧O=cerA b est c k.toNat) (0,b) ⟨by omega,by show (0:Int)≤m;omega,rfl⟩ (.inr ⟨[some 0,some 1,some 2,some 3,some 4,some 5,some 6,some 7],[some 0,some 1],?_⟩) ?_
  ·rw[SIM_iff];cbv;simp[nlLe_self]
  intro ⟨k,O⟩ hI X' hX
  obtain ⟨hI1,hI2,hI3⟩:=hI
  obtain ⟨at',hat⟩:∃ y:Int,y=gt tI P k:=⟨_,rfl⟩
  have hm112:m≤112:=by have:=gplaces_len b 0;omega
  have hkn:k<m→k.toNat<(gplaces b 0).length:=fun h=>by omega
  obtain ⟨pk,hpk⟩:∃ pk,pk=(gplaces b 0).getD k.toNat 0:=⟨_,rfl⟩
  have hatp:k<m→at'=pk:=fun h=>by
   have hk:=hkn h
   rw[hat,r14,hsys.hP,hpk]
   show (plD (gplaces b 0)).getD k.toNat 0=_
   unfold plD
   rw[List.getD_eq_getElem?_getD,List.getElem?_map,List.getElem?_eq_getElem hk,List.getD_eq_getElem?_getD,List.getElem?_eq_getElem hk];rfl
  have hpl:k<m→pk<b.length:=fun h=>by rw[hpk];exact (places_lt (hkn h)).1
  have hOl:O.length=M':=by rw[hI3,cerA_len,hsys.hM]
  have hO2:k<m→O.getD pk 0=2:=fun h=>by rw[hI3,hpk];exact cerA_open (hkn h)
  have hnx:k<m→cerA b est c (k+1).toNat=O.set pk (certV est c k.toNat):=fun h=>by
   rw[show (k+1).toNat=k.toNat+1 by omega,cerA,←hI3,←hpk]
  have hup:∀ v:Int,k<m→up tB M' O at' v=O.set pk v:=fun v h=>by
   rw[r15,hatp h];unfold upR;rw[Ty.norm_eq tB hOl,Int.toNat_natCast]
  have hup2:∀ v u:Int,k<m→up tB M' (O.set pk v) at' u=O.set pk u:=fun v u h=>by
   rw[r15,hatp h];unfold upR;rw[Ty.norm_eq tB (by rw[List.length_set];exact hOl),Int.toNat_natCast,List.set_set]
  have hadd:k<m→ar .add .i64 k 1=k+1:=fun h=>by rw[r1];exact wrap64 (n:=k+1) (by omega) (by omega)
  have hMI:ic M'=b.length:=by rw[r4,hsys.hM]
  have hFl:F.length=est.2.length:=by rw[hsys.hF,hest];unfold freeD;simp
  obtain ⟨q,hq⟩:∃ q:Int,q=F.length:=⟨_,rfl⟩
  have hqF:ic (ln tC F)=q:=by rw[r4,r12,hq]
  have hq112:q≤112:=by
   have h1:=elim_len (colsG b) (colsG b).length
   have h2:(colsG b).length≤112:=by unfold colsG;rw[List.length_map];have:=gplaces_len b 0;omega
   have h3:est.2.length=(elim (colsG b) (colsG b).length).2.length:=by rw[hest];rfl
   omega
  have hfirst:k<m→HASP a0 a1 k∧hasM a0 a1 k=c.testBit k.toNat:=fun h=>by
   have hk:=hkn h
   have:=gplaces_len b 0
   refine ⟨⟨by rw[hr2];exact c0U _,by rw[hr3];exact c1U (by omega),hI1,by omega⟩,?_⟩
   rw[hr2,hr3]
   have:=has_eq (x:=c) (k:=k.toNat) (by omega) (by omega)
   rwa [show ((k.toNat:Nat):Int)=k by omega]at this
  obtain ⟨w,hw⟩:∃ w,w=est.2.any (·.testBit k.toNat):=⟨_,rfl⟩
  have hcv:certV est c k.toNat=if w then 2 else if c.testBit k.toNat then 1 else 0:=by rw[hw];rfl
  have hest2:=hg.ei
  rw[←hest]at hest2
  cbv
  try simp only[nc_eq]at *
  rw[hmP,←hat]
  refine BR.lss r0 (fun hc'=>?_) fun hc'=>?_
  ·have h1:INB k m:=⟨hI1,hc'⟩
   have hcvs:=hnx hc'
   refine ⟨h1,h1,?_⟩
   rw[hqF]
   refine LOOP.ind0 (σ:=Int) (fun i=>[(0,.og 1 tC F),(1,.fn (.func 52) [] [.ptr 8 0]),(7,.p (iv q)),(8,.p (iv i))])
    (fun _=>⟨[{ cells:=[.p (iv x),.tl nb tB b],e:=24,fz:=false },{ cells:=[.p (iv 0),.p (.sl (some true) 0 [])],e:=24,fz:=false },{ cells:=[.p (iv x),.tl nb tB b],e:=24,fz:=false },{ cells:=[.arr M' tB B],e:=5,fz:=false },
     { cells:=[.p (iv x),.tl nb tB b,.ms 3 0 1 none M',.og 0 tI P,.arr 24 tRw R,.og 1 tC F],e:=75,fz:=false },{ cells:=[.arr M' tB O],e:=5,fz:=false },{ cells:=[.p (iv x),.ms 5 0 1 none M'],e:=24,fz:=false },{ cells:=[.p (.v (.int .u64 a0)),.p (.v (.int .u64 a1))],e:=67,fz:=false },{ cells:=[.p (iv k)],e:=3,fz:=false }],[(p,3),(f,67)]⟩)
    (fun i=>(q - i).toNat) (fun i=>0≤i∧i≤q∧(est.2.drop i.toNat).any (·.testBit k.toNat)=w) 0 ⟨by omega,by omega,by rw[hw];rfl⟩ (.inl ⟨rfl,rfl⟩) ?_
   intro i hJ X2 hY
   obtain ⟨hJ1,hJ2,hJ3⟩:=hJ
   obtain ⟨⟨u0,u1⟩,hu⟩:∃ u:tC.den,u=gt tC F i:=⟨_,rfl⟩
   obtain ⟨fi,hfi⟩:∃ fi,fi=est.2.getD i.toNat 0:=⟨_,rfl⟩
   have hgi:i<q→u0=c0 fi∧u1=c1 fi∧fi<2 ^ 112:=fun h=>by
    have hi':i.toNat<est.2.length:=by omega
    have e:(u0,u1)=setD' fi:=by
     rw[hu,r14,hsys.hF,←hest,hfi]
     show (freeD est.2).getD i.toNat _=_
     unfold freeD
     rw[List.getD_eq_getElem?_getD,List.getElem?_map,List.getElem?_eq_getElem hi',List.getD_eq_getElem?_getD,List.getElem?_eq_getElem hi'];rfl
    simp only[setD',Prod.mk.injEq]at e
    refine ⟨e.1,e.2,?_⟩
    have hm':fi∈est.2:=by rw[hfi,List.getD_eq_getElem?_getD,List.getElem?_eq_getElem hi'];exact List.getElem_mem hi'
    have hlt:=(hest2.fr fi hm').1
    refine Nat.lt_of_lt_of_le hlt (Nat.pow_le_pow_right (by decide) ?_)
    unfold colsG;rw[List.length_map];have:=gplaces_len b 0;omega
   have hst:i<q→w=(fi.testBit k.toNat || (est.2.drop (i+1).toNat).any (·.testBit k.toNat)):=fun h=>by
    have hi':i.toNat<est.2.length:=by omega
    rw[←hJ3,List.drop_eq_getElem_cons hi',List.any_cons,show (i+1).toNat=i.toNat+1 by omega,hfi,List.getD_eq_getElem?_getD,List.getElem?_eq_getElem hi'];rfl
   have hend:¬ i<q→w=false:=fun h=>by rw[←hJ3,List.drop_eq_nil_of_le (by omega)];rfl
   have haddi:i<q→ar .add .i64 i 1=i+1:=fun h=>by rw[r1];exact wrap64 (n:=i+1) (by omega) (by omega)
   have hhas:i<q→HASP u0 u1 k∧hasM u0 u1 k=fi.testBit k.toNat:=fun h=>by
    obtain ⟨e1,e2,e3⟩:=hgi h
    have hk:=hkn hc'
    have:=gplaces_len b 0
    refine ⟨⟨by rw[e1];exact c0U _,by rw[e2];exact c1U (by omega),hI1,by omega⟩,?_⟩
    rw[e1,e2]
    have:=has_eq (x:=fi) (k:=k.toNat) (by omega) (by omega)
    rwa [show ((k.toNat:Nat):Int)=k by omega]at this
   have p_1:p1 tV tV (u0,u1)=u0:=by rw[r21]
   have p_2:p2 tV tV (u0,u1)=u1:=by rw[r22]
   have hfk:=hfirst hc'
   rw[hg1]at hhas hfk
   have hatv:=hatp hc'
   have hplv:=hpl hc'
   have hO2v:=hO2 hc'
   have hup1:=fun v=>hup v hc'
   have hup2:=fun v u=>hup2 v u hc'
   have haddk:=hadd hc'
   clear hnx hup
   cbv
   try simp only[nc_eq]at *
   rw[hqF,←hu,p_1,p_2,haddk,hup1,hup2,hMI]
   have hout:INB at' b.length:=⟨by omega,by omega⟩
   refine BR.lss r0 (fun hci=>?_) fun hci=>?_
   ·obtain ⟨hh1,hh2⟩:=hhas hci
    have hs:=hst hci
    refine ⟨⟨hJ1,hci⟩,⟨hJ1,hci⟩,C52K.mk hh1 ?_⟩
    intro z hz
    rw[hg1,hh2]at hz
    cbv
    try simp only[nc_eq]at *
    rw[haddi hci,haddk]
    refine BR.mk (fun hb=>?_) fun hb=>?_
    ·have hw1:w=true:=by rw[hs,←hz,hb];rfl
     rw[hw1,if_pos rfl]at hcv
     refine BR.geq r0 (fun _=>NEXT.mk (hX (k+1,O) _ _ ⟨by omega,by omega,?_⟩ (by show (m - (k+1)).toNat<(m - k).toNat;omega) (.inr ⟨[some 0,some 1,some 2,some 3,some 4,some 5,some 6,some 7],[some 0,some 1],?_⟩))) fun h=>absurd hJ1 h
     ·rw[hcvs,hcv,set_same2 hO2v (by omega)]
     ·rw[SIM_iff];cbv;simp[nlLe_self]
    ·refine NEXT.mk (hY (i+1) _ _ ⟨by omega,by omega,?_⟩ (by show (q - (i+1)).toNat<(q - i).toNat;omega) (.inl ⟨rfl,rfl⟩))
     rw[hs,←hz,hb];rfl
   ·have hw0:=hend hci
    rw[hw0,if_neg (by decide)]at hcv
    refine BR.geq r0 (fun h=>absurd h (by decide)) fun _=>?_
    refine ⟨hout,hout,hfk.1,BR.mk (fun hb=>?_) fun hb=>?_⟩
    ·rw[show c.testBit k.toNat=true by rw[←hfk.2];exact hb,if_pos rfl]at hcv
     refine ⟨hout,hout,NEXT.mk (hX (k+1,O.set pk 1) _ _ ⟨by omega,by omega,?_⟩ (by show (m - (k+1)).toNat<(m - k).toNat;omega) (.inr ⟨[some 0,some 1,some 2,some 3,some 4,some 5,some 6,some 7],[some 0,some 1],?_⟩))⟩
     ·rw[hcvs,hcv]
     ·rw[SIM_iff];cbv;simp[nlLe_self]
    ·rw[show c.testBit k.toNat=false by rw[←hfk.2];exact hb,if_neg (by decide)]at hcv
     refine NEXT.mk (hX (k+1,O.set pk 0) _ _ ⟨by omega,by omega,?_⟩ (by show (m - (k+1)).toNat<(m - k).toNat;omega) (.inr ⟨[some 0,some 1,some 2,some 3,some 4,some 5,some 6,some 7],[some 0,some 1],?_⟩))
     ·rw[hcvs,hcv]
     ·rw[SIM_iff];cbv;simp[nlLe_self]
  ·have hk:k.toNat=(gplaces b 0).length:=by omega
   have hOL:O=L:=by rw[hI3,hLf,hk]
   have hvo:vw tB M' O 0 M'=O:=by rw[r18];exact vw_all (t:=tB) hOl
   rw[had,hvo]
   exact ⟨⟨⟨⟨Nat.le_refl _⟩,trivial⟩,trivial⟩,⟨⟨nlLe_none.2 trivial,hOL⟩,trivial⟩,trivial⟩
 ·have hLb:b=L:=by rw[hL];unfold cerL;rw[if_neg (by rw[←hr1,hi];decide)]
  rw[had,hvw]
  exact ⟨⟨⟨⟨Nat.le_refl _⟩,trivial⟩,trivial⟩,⟨⟨nlLe_none.2 trivial,hLb⟩,trivial⟩,trivial⟩
end Go.Ab
