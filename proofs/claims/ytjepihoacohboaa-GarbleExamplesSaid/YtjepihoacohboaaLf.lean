/- A solution of a system. -/
import Derived.Test.YtjepihoacohboaaLe
set_option linter.unusedSimpArgs false
set_option linter.unusedVariables false
set_option maxRecDepth 20000
set_option maxHeartbeats 4000000
namespace Go.Ab
open Go.Proofs
def solS (x:Int) (nb:Option Bool) (b:List Int) (M:Nat) (B P:List Int) (R:List tRw.den) (F:List tC.den):List BoxS:=
 [{ cells:=[.arr M tB B],e:=5,fz:=false },{ cells:=[.p (iv x),.tl nb tB b,.ms 0 0 1 none M,.og 0 tI P,.arr 24 tRw R,.og 1 tC F],e:=75,fz:=false }]
structure SYS (b B P:List Int) (R:List tRw.den) (F:List tC.den) (M:Nat):Prop where
 ok:OFP b
 hB:B=gbase b
 hP:P=plD (gplaces b 0)
 hR:R=rowsD (elimG b).1
 hF:F=freeD (elimG b).2
 hM:M=b.length
theorem cSolve (x:Int) (nb:Option Bool) (b B P:List Int) (R:List tRw.den) (F:List tC.den) (M p' f':Nat) (h:SYS b B P R F M) (o':Nat) (over:Int) (hov:over=o') (ho:o'<2 ^ 24) (is:Bool) (a0 a1:Int) (his:is=isG b o') (ha:a0=(if is then c0 (slv (elimG b) (tgt b o')).2 else 0)∧a1=(if is then c1 (slv (elimG b) (tgt b o')).2 else 0)):FnS Try.prog 41 ([.ptr 1 0,injT tI over]) (⟨solS x nb b M B P R F,[(p',3),(f',67)]⟩ ) fun x_ s_=>x_=(.tup [.agg [.p (.v (.int .u64 a0)),.p (.v (.int .u64 a1))],.sb is])∧s_=(⟨solS x nb b M B P R F,[(p',3),(f',67)]⟩):=by
 refine FnS.of (S:=[(25,_),(62,_),(63,_)]) (T:=[]) (U:=[]) (tbl:=[]) (n:=45) hm11 cfg (.cons (spT1.ok (a:=(.sl (.int .u8))) fun x0 h=>cAddrP x0.1 x0.2 h) (.cons (spT1.ok (a:=(.int .u64)) fun x0 h=>cLen x0 h) (.cons (spT2.ok (a:=(.pair (.int .u64) (.int .u64))) (b:=(.pair (.int .u64) (.int .u64))) fun x0 x1 h=>cWith x0.1 x0.2 x1.1 x1.2 h) .nil))) .nil .nil .nil 0 Try.call41 Try.func41 (ac41_ok (some (2,2))) (by rw[Try.ntmps41];exact Nat.le_refl _) rfl _ _ _ (by rfl) ?_
 intro cmp ar cv tn ic ai mx an ad ml sb mn ln em gt up ap sc vw cp rp p1 p2 s1 s2 X Y hX hY r0 r1 r2 r3 r4 r5 r6 r7 r8 r9 r10 r11 r12 r13 r14 r15 r16 r17 r18 r19 r20 r21 r22 r23 r24
 generalize hg0:adrV=g0
 generalize hg1:adrE=g1
 generalize hg2:lenB=g2
 generalize hg3:xU=g3
 cbv
 obtain ⟨⟨hgv,hl0,hl1⟩,hB,hP,hR,hF,hM⟩:=h
 have hBl:B.length=M:=by rw[hB,gbase_len,hM]
 have hvw:vw tB M B 0 M=B:=by rw[r18];exact vw_all (t:=tB) hBl
 have had:ad 0 M=M:=by rw[r8];exact Nat.zero_add M
 have hBb:BITS B:=by rw[hB];exact gbase_bit hgv
 have hcsb:∀ c∈colsG b,c<2 ^ 24:=colsG_lt hl0
 have hei:=elimA_ei hcsb
 obtain ⟨est,hest⟩:∃ est,est=elimG b:=⟨_,rfl⟩
 have hei:EI (colsG b) (colsG b).length est:=by rw[hest];exact hei
 rw[←hest]at hR hF
 have hcl:(colsG b).length≤112:=by unfold colsG;rw[List.length_map];have:=gplaces_len b 0;omega
 have hadr:g0 B=(ovN B:Nat):=by
  have hbt:bitsE B=0:=by
   unfold bitsE
   rw[if_neg (by omega),bigB_bit hBb];rfl
  rw[←hg0]
  unfold adrV
  rw[if_pos (by unfold adrE;rw[if_neg (by rw[hbt];decide),if_neg (by omega)])]
 have hov24:ovN B<2 ^ 24:=ovN_lt hBb (by omega)
 obtain ⟨T,hT⟩:∃ T:Int,T=ar .xor .i64 (g0 B) over:=⟨_,rfl⟩
 obtain ⟨t,ht⟩:∃ t,t=tgt b o':=⟨_,rfl⟩
 have hTt:T=t:=by
  rw[hT,r1,hadr,hov,xorI (by omega) (by omega),ht,hB];rfl
 have ht24:t<2 ^ 24:=by rw[ht];exact Nat.xor_lt_two_pow (by rw[←hB];exact hov24) ho
 rw[hvw,had]
 refine ⟨⟨⟨Nat.le_refl _⟩,trivial⟩,⟨by rw[hBl];simp only[maxLen];omega,fun y hy=>?_⟩,?_⟩
 ·rcases hBb y hy with rfl | rfl <;> decide
 show LOOP _ _ _ _ [(0,DC.ptr 1 0),(4,DC.ptr 2 0),(6,.p (iv (ar .xor .i64 (g0 B) over))),(8,DC.ptr 3 0)] _
 rw[←hT]
 have hisd:is=decide ((red (rowF est.1) 24 (t,0)).1=0):=by rw[his,ht,hest];rfl
 have haa:a0=(if is then c0 (red (rowF est.1) 24 (t,0)).2 else 0)∧a1=(if is then c1 (red (rowF est.1) 24 (t,0)).2 else 0):=by rw[ht,hest];exact ha
 clear ha his
 refine LOOP.ind (σ:=Int×Int×Int) (fun (V,_,_)=>[(0,.ptr 1 0),(4,.ptr 2 0),(6,.p (iv V)),(8,.ptr 3 0)])
  (fun (V,x0,x1)=>⟨[{ cells:=[.arr M tB B],e:=5,fz:=false },{ cells:=[.p (iv x),.tl nb tB b,.ms 0 0 1 none M,.og 0 tI P,.arr 24 tRw R,.og 1 tC F],e:=75,fz:=false },{ cells:=[.p (.v (.int .u64 0)),.p (.v (.int .u64 0))],e:=67,fz:=false },{ cells:=[.p (.v (.int .u64 x0)),.p (.v (.int .u64 x1))],e:=67,fz:=false }],[(p',3),(f',67)]⟩)
  (fun (V,_,_)=>V.toNat) (fun (V,x0,x1)=>∃ v c:Nat,V=v∧x0=c0 c∧x1=c1 c∧v<2 ^ 24∧c<2 ^ 113∧red (rowF est.1) 24 (v,c)=red (rowF est.1) 24 (t,0)) (T,0,0)
  ⟨t,0,hTt,rfl,rfl,ht24,Nat.two_pow_pos _,rfl⟩ (.inl ⟨rfl,rfl⟩) ?_
 intro ⟨V,x0,x1⟩ hJ X2 hY
 obtain ⟨v,c,hJ1,hJ2,hJ3,hJ4,hJ5,hJ6⟩:=hJ
 obtain ⟨H,hH⟩:∃ H,H=ar .sub .i64 (g2 (cv .u64 V)) 1:=⟨_,rfl⟩
 obtain ⟨⟨rv,ra,rb⟩,hrw⟩:∃ r:tRw.den,r=gt tRw R H:=⟨_,rfl⟩
 have hlen:=hei.len
 have hHv:v≠0→H=(v.log2:Nat)∧v.log2<24:=fun h=>by
  have h2:=lenB_eq h (show v<2 ^ 63 by omega)
  have hlt:=log2_lt' hJ4 h
  refine ⟨?_,hlt⟩
  have e:cv .u64 V=(v:Int):=by rw[r2,hJ1];exact wrap_u64 (by omega) (by omega)
  rw[hH,e,←hg2,h2,r1]
  exact (wrap64 (n:=((v.log2:Int)+1) - 1) (by omega) (by omega)).trans (by omega)
 have hrow:v≠0→rv=((rowF est.1 v.log2).1:Nat)∧ra=c0 (rowF est.1 v.log2).2∧rb=c1 (rowF est.1 v.log2).2:=fun h=>by
  obtain ⟨h1,h2⟩:=hHv h
  have e:(rv,ra,rb)=rowD (rowF est.1 v.log2):=by rw[hrw,r14,h1,hR,rowsD_get (by omega)]
  simp only[rowD,Prod.mk.injEq]at e
  exact e
 have hrlt:=hei.rok.lt v.log2
 have hklt:2 ^ (colsG b).length≤2 ^ 112:=Nat.pow_le_pow_right (by decide) hcl
 have hvU:INB (cv .u64 V) 18446744073709551616:=by
  rw[r2,hJ1];show INB (IntKind.wrap .u64 (v:Int)) _;rw[wrap_u64 (by omega) (by omega)];exact ⟨by omega,by omega⟩
 have p_1:p1 tI tC (rv,ra,rb)=rv:=by rw[r21]
 have p_2:p1 tV tV (p2 tI tC (rv,ra,rb))=ra:=by rw[r21,r22]
 have p_3:p2 tV tV (p2 tI tC (rv,ra,rb))=rb:=by rw[r22]
 have hi24:v≠0→INB H 24:=fun h=>by obtain ⟨h1,h2⟩:=hHv h;exact ⟨by omega,by omega⟩
 have hic:ic 24=24:=by rw[r4];rfl
 have hnext:v≠0→(rowF est.1 v.log2).1≠0→ar .xor .i64 V rv=((v ^^^ (rowF est.1 v.log2).1:Nat):Int)∧g3 x0 ra=c0 (c ^^^ (rowF est.1 v.log2).2)∧g3 x1 rb=c1 (c ^^^ (rowF est.1 v.log2).2)∧C2P x0 x1 ra rb∧v ^^^ (rowF est.1 v.log2).1<2 ^ 24∧c ^^^ (rowF est.1 v.log2).2<2 ^ 113:=fun h h1=>by
  obtain ⟨q1,q2,q3⟩:=hrow h
  have hr24:(rowF est.1 v.log2).1<2 ^ 24:=by
   have:=hei.rok.hi _ h1
   exact (Nat.log2_lt h1).1 (by have:=(hHv h).2;omega)
  refine ⟨?_,?_,?_,⟨?_,?_,?_,?_⟩,Nat.xor_lt_two_pow hJ4 hr24,Nat.xor_lt_two_pow hJ5 (by omega)⟩
  ·rw[r1,hJ1,q1,xorI (by omega) (by omega)]
  ·rw[hJ2,q2,←hg3,xU0]
  ·rw[hJ3,q3,←hg3,xU1]
  ·rw[hJ2];exact c0U _
  ·rw[hJ3];exact c1U (by omega)
  ·rw[q2];exact c0U _
  ·rw[q3];exact c1U (by omega)
 have hno:v≠0→(rowF est.1 v.log2).1=0→false=is∧0=a0∧0=a1:=fun h h0=>by
  have e:is=false:=by rw[hisd,←hJ6,red_end (.inr h0)];exact decide_eq_false h
  rw[haa.1,haa.2,e];exact ⟨rfl,rfl,rfl⟩
 have hyes:v=0→true=is∧x0=a0∧x1=a1:=fun h=>by
  have er:=red_end (rows:=rowF est.1) (c:=c) (.inl h:v=0∨_)
  have e:is=true:=by rw[hisd,←hJ6,er];exact decide_eq_true h
  rw[haa.1,haa.2,e,←hJ6,er,if_pos rfl,if_pos rfl];exact ⟨rfl,hJ2,hJ3⟩
 clear haa
 cbv
 try simp only[nc_eq]at *
 rw[←hH,←hrw,p_1,p_2,p_3,hic]
 refine BR.neq r0 (fun hc0=>?_) (fun hc0=>?_)
 ·have hv0:v≠0:=by omega
  have hi:=hi24 hv0
  obtain ⟨q1,q2,q3⟩:=hrow hv0
  refine ⟨hvU,hi,hi,BR.eql r0 (fun h=>?_) (fun h=>?_)⟩
  ·obtain ⟨e1,e2,e3⟩:=hno hv0 (by omega)
   refine RET.mk ⟨[some 0,some 1],[some 0,some 1],?_⟩
   rw[SIM_iff];cbv;simp[nlLe_self,e1.symm,e2.symm,e3.symm]
  ·obtain ⟨z1,z2,z3,z4,z5,z6⟩:=hnext hv0 (by omega)
   have hrn:=red_next hei.rok.hi hJ4 hv0 (c:=c) (show (rowF est.1 v.log2).1≠0 by omega)
   refine ⟨z4,NEXT.mk (hY (_,_,_) _ _ ⟨_,_,z1,z2,z3,z5,z6,by rw[←hJ6];exact hrn.1⟩ ?_ (.inr ⟨[some 0,some 1,some 2,some 3],[some 0,some 1],?_⟩))⟩
   ·show (ar .xor .i64 V rv).toNat<V.toNat
    rw[z1,hJ1,Int.toNat_natCast,Int.toNat_natCast];exact hrn.2
   ·rw[SIM_iff];cbv;simp[nlLe_self]
 ·obtain ⟨e1,e2,e3⟩:=hyes (by omega)
  refine RET.mk ⟨[some 0,some 1],[some 0,some 1],?_⟩
  rw[SIM_iff];cbv;simp[nlLe_self,e1,e2,e3]
structure OFK (x:Int) (nb:Option Bool) (b:List Int) (k:List Int→List Int→List tRw.den→List tC.den→Nat→Nat→Nat→Prop):Prop where
 pre:OFP b
 h:∀ B P R F M p f,SYS b B P R F M→p=P.length→f=F.length*2→k B P R F M p f
def spOf:OpsS→CallS:=fun _ _ ds st K=>match ds with
 | [d]=>(match getT tG d with
  | some (x,nb,b)=>OFK x nb b fun B P R F M p f=>frS [] [] [injT tG (x,nb,b)] ⟨[],[]⟩ (.ptr 2 0) ⟨sysS x nb b M B P R F,[(p,3),(f,67)]⟩ [injT tG (x,nb,b)] st K
  | none=>False)
 | _=>False
theorem FnS.congA {P:Program} {f:FuncId} {xs ys:List DC} {st:StS} {K:DC→StS→Prop} (h:FnS P f ys st K) (he:concL xs=concL ys):FnS P f xs st K:=by
 unfold FnS;rw[he];exact h
theorem cOfT:∀ ds st K,spOf OpsS.real 40 ds st K→FnS Try.prog 40 ds st K:=fun ds st K h=>by
 unfold spOf at h
 split at h <;> first | exact h.elim | skip
 split at h <;> first | exact h.elim | skip
 rename_i d _ x nb b hd
 refine FnS.congA (ys:=[injT tG (x,nb,b)]) ?_ (by simp only[concL,getT_conc hd])
 exact frS_ok (cOf x nb b _ _ _ _ h.pre rfl rfl rfl rfl _ _ _ rfl rfl rfl) (h.h _ _ _ _ _ _ _ ⟨h.pre,rfl,rfl,rfl,rfl,rfl⟩ rfl rfl)
def sysAt (st:StS) (n:Nat):Option (Int×Option Bool×List Int×Nat×Nat×Nat×Nat×List Int×List Int×List tRw.den×List tC.den×Nat×Nat):=match nthD st.box n with
 | some S=>(match S.cells with
  | [.p (.v (.int .i64 x)),.tl nb t b,.ms bb 0 1 none M,.og g0 t0 P,.arr 24 t1 R,.og g1 t2 F]=>(match castL tB t b,castL tI t0 P,castL tRw t1 R,castL tC t2 F,nthD st.box bb,nthD st.grp g0,nthD st.grp g1 with
   | some b,some P,some R,some F,some BB,some (p,_),some (f,_)=>(match BB.cells with
    | [.arr _ t3 B]=>(match castL tB t3 B with
     | some B=>some (x,nb,b,M,bb,g0,g1,B,P,R,F,p,f)
     | none=>none)
    | _=>none)
   | _,_,_,_,_,_,_=>none)
  | _=>none)
 | none=>none
structure SLP (b B P:List Int) (R:List tRw.den) (F:List tC.den) (M:Nat) (over:Int):Prop where
 sys:SYS b B P R F M
 o0:0≤over
 o1:over≤16777215
structure SLR (b:List Int) (over:Int) (is:Bool) (a0 a1:Int):Prop where
 h:is=isG b over.toNat
 e0:a0=(if is then c0 (slv (elimG b) (tgt b over.toNat)).2 else 0)
 e1:a1=(if is then c1 (slv (elimG b) (tgt b over.toNat)).2 else 0)
structure SLK (b B P:List Int) (R:List tRw.den) (F:List tC.den) (M:Nat) (over:Int) (k:Bool→Int→Int→Prop):Prop where
 pre:SLP b B P R F M over
 h:∀ is a0 a1,SLR b over is a0 a1→k is a0 a1
def spSolve:OpsS→CallS:=fun _ _ ds st K=>match ds with
 | [.ptr n 0,.p (.v (.int .i64 over))]=>(match sysAt st n with
  | some (x,nb,b,M,bb,g0,g1,B,P,R,F,p,f)=>SLK b B P R F M over fun is a0 a1=>frS [bb,n] [g0,g1] [.ptr 1 0,injT tI over] ⟨solS x nb b M B P R F,[(p,3),(f,67)]⟩ (.tup [.agg [.p (.v (.int .u64 a0)),.p (.v (.int .u64 a1))],.sb is]) ⟨solS x nb b M B P R F,[(p,3),(f,67)]⟩ [.ptr n 0,.p (.v (.int .i64 over))] st K
  | none=>False)
 | _=>False
theorem cSolveT:∀ ds st K,spSolve OpsS.real 41 ds st K→FnS Try.prog 41 ds st K:=fun ds st K h=>by
 unfold spSolve at h
 split at h <;> first | exact h.elim | skip
 split at h <;> first | exact h.elim | skip
 obtain ⟨⟨hs,h0,h1⟩,hk⟩:=h
 have hh:=hk _ _ _ ⟨rfl,rfl,rfl⟩
 rename_i over _ _ _ _ _ _ _ _ _ _ _ _ _ _ _
 exact frS_ok (cSolve _ _ _ _ _ _ _ _ _ _ hs over.toNat over (by omega) (by omega) _ _ _ rfl ⟨rfl,rfl⟩) hh
def wrnG (b:List Int) (over:Int):Int:=if gchk b≠0 then gchk b else if over<0∨over>16777215 then 1 else 0
structure LENB (b:List Int):Prop where
 h:b.length≤maxLen
theorem cGChkP (x:Int) (nb:Option Bool) (b:List Int) (h:LENB b):PurS Try.prog 19 [injT tG (x,nb,b)] (.p (iv (gchk b))):=cGChk x nb b h.h
theorem cGchk2 (x:Int) (nb:Option Bool) (b:List Int) (over:Int) (h:LENB b):PurS Try.prog 39 [injT tG (x,nb,b),injT tI over] (.p (iv (wrnG b over))):=by
 refine PurS.of (S:=[(19,_)]) (T:=[]) (U:=[]) (tbl:=[]) (n:=17) hm11 cfg (.cons (spT1.ok (a:=(.pair (.int .i64) (.sl (.int .u8)))) fun x0 h=>cGChkP x0.1 x0.2.1 x0.2.2 h) .nil) .nil .nil .nil 0 Try.call39 Try.func39 (ac39_ok (some (0,0))) (by rw[Try.ntmps39];exact Nat.le_refl _) rfl ⟨_,rfl⟩ ?_
 intro cmp ar cv tn ic ai mx an ad ml sb mn ln em gt up ap sc vw cp rp p1 p2 s1 s2 X Y hX hY r0 r1 r2 r3 r4 r5 r6 r7 r8 r9 r10 r11 r12 r13 r14 r15 r16 r17 r18 r19 r20 r21 r22 r23 r24
 generalize hg0:gchk=g0
 generalize hg1:wrnG=g1
 cbv
 have e:g1 b over=if g0 b≠0 then g0 b else if over<0∨over>16777215 then 1 else 0:=by rw[←hg0,←hg1];rfl
 refine ⟨h,BR.neq r0 (fun h1=>by rw[e,if_pos h1]) fun h1=>?_⟩
 rw[e,if_neg h1]
 exact BR.lss r0 (fun h2=>by rw[if_pos (.inl h2)]) fun h2=>BR.gtr r0 (fun h3=>by rw[if_pos (.inr h3)]) fun h3=>by rw[if_neg (by omega)]
theorem big2_of {b:List Int} (h0:∀ y∈b,0≤y) (h:big2 b=false):GV b:=by
 induction b with
 | nil=>intro x hx;cases hx
 | cons y b ih=>
  simp only[big2,Bool.or_eq_false_iff,decide_eq_false_iff_not]at h
  intro x hx
  rcases List.mem_cons.1 hx with rfl | hx
  ·have:=h0 x (by simp);have:=h.1;omega
  ·exact ih (fun z hz=>h0 z (by simp[hz])) h.2 x hx
theorem wrnG_ok {b:List Int} {over:Int} (h0:∀ y∈b,0≤y) (h:wrnG b over=0):OFP b∧0≤over∧over≤16777215∧gchk b=0:=by
 unfold wrnG at h
 split at h
 ·omega
 ·rename_i hg
  split at h
  ·cases h
  ·rename_i ho
   have hg:gchk b=0:=by omega
   have hg2:=hg
   unfold gchk at hg2
   split at hg2
   ·cases hg2
   ·rename_i hl
    split at hg2
    ·cases hg2
    ·rename_i hb
     exact ⟨⟨big2_of h0 (by simpa using hb),by omega,by omega⟩,by omega,by omega,hg⟩
def cntN (b:List Int) (over:Int):Int:=if wrnG b over=0∧isG b over.toNat=true∧(elimG b).2.length≤30 then ((2 ^ (elimG b).2.length:Nat):Int) else 0
def cntE (b:List Int) (over:Int):Int:=if wrnG b over≠0 then wrnG b over else if isG b over.toNat=true∧(elimG b).2.length>30 then 7 else 0
theorem cCount (x:Int) (nb:Option Bool) (b:List Int) (over:Int) (h:LENB b) (h0:∀ y∈b,0≤y):PurS Try.prog 13 [injT tG (x,nb,b),injT tI over] (.tup [.p (iv (cntN b over)),.p (iv (cntE b over))]):=by
 refine PurS.of (S:=[(39,_)]) (T:=[(40,_),(41,_)]) (U:=[]) (tbl:=[]) (n:=38) hm11 cfg (.cons (spT2.ok (a:=(.pair (.int .i64) (.sl (.int .u8)))) (b:=(.int .i64)) fun x0 x1 h=>cGchk2 x0.1 x0.2.1 x0.2.2 x1 h) .nil) (.cons cOfT (.cons cSolveT .nil)) .nil .nil 0 Try.call13 Try.func13 (ac13_ok (some (0,0))) (by rw[Try.ntmps13];exact Nat.le_refl _) rfl ⟨_,rfl⟩ ?_
 intro cmp ar cv tn ic ai mx an ad ml sb mn ln em gt up ap sc vw cp rp p1 p2 s1 s2 X Y hX hY r0 r1 r2 r3 r4 r5 r6 r7 r8 r9 r10 r11 r12 r13 r14 r15 r16 r17 r18 r19 r20 r21 r22 r23 r24
 generalize hg0:wrnG=g0
 generalize hg1:cntN=g1
 generalize hg2:cntE=g2
 cbv
 have eN:g1 b over=if g0 b over=0∧isG b over.toNat=true∧(elimG b).2.length≤30 then ((2 ^ (elimG b).2.length:Nat):Int) else 0:=by rw[←hg0,←hg1];rfl
 have eE:g2 b over=if g0 b over≠0 then g0 b over else if isG b over.toNat=true∧(elimG b).2.length>30 then 7 else 0:=by rw[←hg0,←hg2];rfl
 have hok:=wrnG_ok (over:=over) h0
 rw[hg0]at hok
 refine ⟨h,BR.neq r0 (fun h1=>?_) fun h1=>?_⟩
 ·rw[if_pos h1]at eE
  rw[if_neg (fun h=>h1 h.1)]at eN
  exact ⟨eN.symm,eE.symm,trivial⟩
 have h1:g0 b over=0:=Classical.not_not.1 h1
 rw[if_neg (fun h=>h h1)]at eE
 obtain ⟨hofp,ho0,ho1,_⟩:=hok h1
 refine OFK.mk hofp ?_
 intro B P R F M p f hsys hp hf
 cbv
 refine ⟨⟨⟨⟨nlLe_self.2 trivial,trivial⟩,trivial⟩,trivial⟩,SLK.mk ⟨hsys,ho0,ho1⟩ ?_⟩
 intro is a0 a1 hr
 cbv
 have hF:F.length=(elimG b).2.length:=by rw[hsys.hF];unfold freeD;rw[List.length_map]
 have hla:ic (ln tC F)=((elimG b).2.length:Nat):=by rw[r4,r12,←hF]
 obtain ⟨q,hq⟩:∃ q:Nat,q=(elimG b).2.length:=⟨_,rfl⟩
 rw[←hq]at hla eN eE
 rw[hla]
 refine ⟨⟨⟨⟨⟨nlLe_self.2 trivial,trivial⟩,trivial⟩,trivial⟩,trivial⟩,BR.mk (fun h=>?_) fun h=>?_⟩
 ·have hi:isG b over.toNat=true:=by rw[←hr.h,h]
  refine BR.gtr r0 (fun h30=>?_) (fun h30=>⟨⟨Int.natCast_nonneg _⟩,?_,?_,trivial⟩)
  ·rw[if_neg (by omega)]at eN
   rw[if_pos ⟨hi,by omega⟩]at eE
   exact ⟨eN.symm,eE.symm,trivial⟩
  ·rw[if_pos ⟨h1,hi,by omega⟩]at eN
   rw[eN,r1,show (1:Int)=((1:Nat):Int) by rfl]
   have hp:2 ^ q≤2 ^ 30:=Nat.pow_le_pow_right (by decide) (by omega)
   rw[shlI (by omega) (by omega),Nat.one_mul]
  ·rw[if_neg (by omega)]at eE
   exact eE.symm
 ·have hi:¬ isG b over.toNat=true:=by rw[←hr.h,h];decide
  rw[if_neg (fun h=>hi h.2.1)]at eN
  rw[if_neg (fun h=>hi h.1)]at eE
  exact ⟨eN.symm,eE.symm,trivial⟩
theorem gchk_ok {b:List Int} (h0:∀ y∈b,0≤y) (h:gchk b=0):OFP b:=(wrnG_ok (over:=0) h0 (by unfold wrnG;rw[if_neg (fun h'=>h' h),if_neg (by omega)])).1
def outA (l:List Int):Bool:=l.any fun a=>decide (a<0∨a>16777215)
theorem outA_cons {l:List Int} {i:Int} (h0:0≤i) (h1:i<l.length):outA (l.drop i.toNat)=(decide (gtR tI l i<0∨gtR tI l i>16777215) || outA (l.drop (i+1).toNat)):=by rw[gtR_drop (t:=tI) h0 h1];rfl
def fitE (b l:List Int):Int:=if gchk b≠0 then gchk b else if l.length>64 then 10 else if outA l then 1 else 0
def fitF (b l:List Int):List Int:=l.filter fun a=>isG b a.toNat
def fitL (b l:List Int):List Int:=if fitE b l=0 then fitF b l else []
theorem cFits (x:Int) (nb nl:Option Bool) (b l L:List Int) (hL:L=fitL b l) (h:LENB b) (h0:∀ y∈b,0≤y) (hl:LENB l):PurS Try.prog 33 [injT tG (x,nb,b),injT (.sl tI) (nl,l)] (.tup [.tl none tI L,.p (iv (fitE b l))]):=by
 refine PurS.of (S:=[(19,_)]) (T:=[(40,_),(41,_)]) (U:=[]) (tbl:=[(60,ac60 none,[.tmp 4],9),(78,ac78 none,[.tmp 4],19),(61,ac61 none,[.tmp 2],9)]) (n:=43) hm11 cfg (.cons (spT1.ok (a:=(.pair (.int .i64) (.sl (.int .u8)))) fun x0 h=>cGChkP x0.1 x0.2.1 x0.2.2 h) .nil) (.cons cOfT (.cons cSolveT .nil)) .nil (.cons Try.call60 Try.func60 (ac60_ok none) (by rw[Try.ntmps60];exact Nat.le_refl _) (.cons Try.call78 Try.func78 (ac78_ok none) (by rw[Try.ntmps78];exact Nat.le_refl _) (.cons Try.call61 Try.func61 (ac61_ok none) (by rw[Try.ntmps61];exact Nat.le_refl _) .nil))) 6 Try.call33 Try.func33 (ac33_ok (some (0,0))) (by rw[Try.ntmps33];exact Nat.le_refl _) rfl ⟨_,rfl⟩ ?_
 intro cmp ar cv tn ic ai mx an ad ml sb mn ln em gt up ap sc vw cp rp p1 p2 s1 s2 X Y hX hY r0 r1 r2 r3 r4 r5 r6 r7 r8 r9 r10 r11 r12 r13 r14 r15 r16 r17 r18 r19 r20 r21 r22 r23 r24
 generalize hg0:gchk=g0
 generalize hg1:fitE=g1
 cbv
 have eE:g1 b l=if g0 b≠0 then g0 b else if l.length>64 then 10 else if outA l then 1 else 0:=by rw[←hg0,←hg1];rfl
 have eL:L=if g1 b l=0 then fitF b l else []:=by rw[hL,←hg1];rfl
 have hla:ic (ln tI l)=l.length:=by rw[r4,r12]
 refine ⟨h,BR.neq r0 (fun h1=>?_) fun h1=>?_⟩
 ·rw[if_pos h1]at eE
  rw[eE,if_neg h1]at eL
  exact ⟨⟨nlLe_none.2 trivial,eL⟩,eE.symm,trivial⟩
 rw[if_neg h1]at eE
 rw[hla]
 refine BR.gtr r0 (fun h2=>?_) fun h2=>?_
 ·rw[if_pos (by omega)]at eE
  rw[eE,if_neg (by decide)]at eL
  exact ⟨⟨nlLe_none.2 trivial,eL⟩,eE.symm,trivial⟩
 rw[if_neg (by omega)]at eE
 obtain ⟨w,hw⟩:∃ w,w=outA l:=⟨_,rfl⟩
 rw[←hw]at eE
 have hofp:=gchk_ok h0
 rw[hg0]at hofp
 have hofp:=hofp (Classical.not_not.1 h1)
 obtain ⟨N,hN⟩:∃ N:Int,N=l.length:=⟨_,rfl⟩
 rw[←hN]at hla ⊢
 refine LOOP.ind0 (σ:=Int) (fun k=>[(0,.tl nl tI l),(1,.fn (.func 61) [] []),(7,.p (iv N)),(8,.p (iv k))]) (fun _=>⟨[{ cells:=[.p (iv x),.tl nb tB b],e:=24,fz:=false }],[]⟩) (fun k=>(N - k).toNat) (fun k=>0≤k∧k≤N∧outA (l.drop k.toNat)=w) 0 ⟨by omega,by omega,by rw[hw];rfl⟩ (.inl ⟨rfl,rfl⟩) ?_
 intro k hJ X2 hY
 obtain ⟨hJ1,hJ2,hJ3⟩:=hJ
 obtain ⟨y,hy⟩:∃ y:Int,y=gt tI l k:=⟨_,rfl⟩
 have hst:k<N→w=(decide (y<0∨y>16777215) || outA (l.drop (k+1).toNat)):=fun h=>by
  rw[←hJ3,outA_cons hJ1 (by omega),hy,r14]
 have hend:¬ k<N→w=false:=fun h=>by rw[←hJ3,gtR_end (by omega)];rfl
 have hadd:k<N→ar .add .i64 k 1=k+1:=fun h=>by rw[r1];exact wrap64 (n:=k+1) (by omega) (by omega)
 have hbad:w=true→(nlLe (some true) none∧L=[])∧1=g1 b l∧True:=fun h=>by
  rw[if_pos h]at eE
  rw[eE,if_neg (by decide)]at eL
  exact ⟨⟨nlLe_none.2 trivial,eL⟩,eE.symm,trivial⟩
 cbv
 try simp only[nc_eq]at *
 rw[hla,←hy]
 refine BR.lss r0 (fun hc=>?_) fun hc=>?_
 ·have h3:INB k N:=⟨hJ1,hc⟩
  have hs:=hst hc
  rw[hadd hc]
  refine ⟨h3,h3,BR.lss r0 (fun h4=>?_) fun h4=>BR.gtr r0 (fun h5=>?_) fun h5=>?_⟩
  ·have hw1:=hbad (by rw[hs,decide_eq_true (.inl h4)];rfl)
   exact BR.geq r0 (fun _=>hw1) fun h=>absurd hJ1 h
  ·have hw1:=hbad (by rw[hs,decide_eq_true (.inr h5)];rfl)
   exact BR.geq r0 (fun _=>hw1) fun h=>absurd hJ1 h
  ·refine NEXT.mk (hY (k+1) _ _ ⟨by omega,by omega,?_⟩ (by show (N - (k+1)).toNat<(N - k).toNat;omega) (.inl ⟨rfl,rfl⟩))
   rw[hs,decide_eq_false (by omega)];rfl
 ·have hwf:=hend hc
  rw[hwf,if_neg (by decide)]at eE
  rw[eE,if_pos rfl]at eL
  refine BR.geq r0 (fun h=>absurd h (by decide)) fun _=>OFK.mk hofp ?_
  intro B P R F M p f hsys hp hf
  clear hbad hY X2 hst hadd hJ1 hJ2 hJ3 hc hend hy y k
  cbv
  try simp only[nc_eq]at *
  refine ⟨⟨⟨⟨nlLe_self.2 trivial,trivial⟩,trivial⟩,trivial⟩,?_⟩
  have hin:∀ a∈l,0≤a∧a≤16777215:=fun a ha=>by
   have h2:outA l=false:=by rw[←hw,hwf]
   unfold outA at h2
   rw[List.any_eq_false]at h2
   have:=h2 a ha
   simp only[decide_eq_true_eq]at this
   omega
  rw[hla]
  refine LOOP.ind (σ:=Int×List Int) (fun (i,O)=>[(4,.og 2 tI O),(7,.ptr 3 0),(24,.tl nl tI l),(25,.p (iv N)),(26,.p (iv i))]) (fun (i,O)=>⟨[{ cells:=[.p (iv x),.tl nb tB b],e:=24,fz:=false },{ cells:=[.p (iv x),.tl nb tB b],e:=24,fz:=false },{ cells:=[.arr M tB B],e:=5,fz:=false },
   { cells:=[.p (iv x),.tl nb tB b,.ms 2 0 1 none M,.og 0 tI P,.arr 24 tRw R,.og 1 tC F],e:=75,fz:=false }],[(p,3),(f,67),(ml (ln tI O) 1,3)]⟩) (fun (i,_)=>(N - i).toNat) (fun (i,O)=>0≤i∧i≤N∧O.length≤i∧O ++ fitF b (l.drop i.toNat)=L) (0,[]) ⟨by omega,by show (0:Int)≤N;omega,by simp,by rw[eL];rfl⟩ (.inr ⟨[some 0,some 1,some 2,some 3],[some 0,some 1,none],?_⟩) ?_
  ·rw[SIM_iff];cbv;simp[nlLe_self]
  intro ⟨i,O⟩ hJ X2 hY
  obtain ⟨hJ1,hJ2,hJ3,hJ4⟩:=hJ
  obtain ⟨y,hy⟩:∃ y:Int,y=gt tI l i:=⟨_,rfl⟩
  have hyb:i<N→0≤y∧y≤16777215:=fun h=>hin y (by rw[hy,r14];exact gtR_mem (t:=tI) hJ1 (by omega))
  have hst:i<N→fitF b (l.drop i.toNat)=if isG b y.toNat=true then y :: fitF b (l.drop (i+1).toNat) else fitF b (l.drop (i+1).toNat):=fun h=>by
   rw[gtR_drop (t:=tI) hJ1 (by omega),show gtR tI l i=y by rw[hy,r14]]
   unfold fitF
   rw[List.filter_cons]
  have hend:¬ i<N→O=L:=fun h=>by rw[←hJ4,gtR_end (by omega)];unfold fitF;rw[List.filter_nil,List.append_nil]
  have hadd:i<N→ar .add .i64 i 1=i+1:=fun h=>by rw[r1];exact wrap64 (n:=i+1) (by omega) (by omega)
  have hap:ap tI O [y]=O ++ [y]:=by rw[r16]
  have hll:=hl.h
  have hli:i<N→LIM (ad (ln tI O) (ln tI [y])) 8:=fun h=>by
   rw[r8,r12];show LIM (O.length+1) 8
   exact LIM_iff.2 ⟨by omega,by omega⟩
  have hnn:nlLe none none:=nlLe_none.2 trivial
  cbv
  try simp only[nc_eq]at *
  rw[hla,←hy]
  refine BR.lss r0 (fun hc=>?_) fun hc=>?_
  ·have h3:INB i N:=⟨hJ1,hc⟩
   have hb:=hyb hc
   refine ⟨h3,h3,SLK.mk ⟨hsys,hb.1,hb.2⟩ ?_⟩
   intro is a0 a1 hr
   have hrh:=hr.h
   have hs:=hst hc
   rw[←hrh]at hs
   cbv
   try simp only[nc_eq]at *
   rw[hadd hc,hap]
   refine ⟨⟨⟨⟨⟨nlLe_self.2 trivial,trivial⟩,trivial⟩,trivial⟩,trivial⟩,BR.mk (fun h=>?_) fun h=>?_⟩
   ·rw[if_pos h]at hs
    refine ⟨⟨rfl⟩,hli hc,NEXT.mk (hY (i+1,O ++ [y]) _ _ ⟨by omega,by omega,by show ((O ++ [y]).length:Int)≤i+1;rw[List.length_append,List.length_singleton];omega,by rw[List.append_assoc,List.singleton_append,←hs];exact hJ4⟩ (by show (N - (i+1)).toNat<(N - i).toNat;omega) (.inr ⟨[some 0,some 1,some 2,some 3],[some 0,some 1,some 2],?_⟩))⟩
    rw[SIM_iff];cbv;simp[nlLe_self]
   ·rw[if_neg (by rw[h];decide)]at hs
    refine NEXT.mk (hY (i+1,O) _ _ ⟨by omega,by omega,by show (O.length:Int)≤i+1;omega,by rw[←hs];exact hJ4⟩ (by show (N - (i+1)).toNat<(N - i).toNat;omega) (.inr ⟨[some 0,some 1,some 2,some 3],[some 0,some 1,some 2],?_⟩))
    rw[SIM_iff];cbv;simp[nlLe_self]
  ·exact ⟨⟨hnn,hend hc⟩,eE.symm,trivial⟩
end Go.Ab
