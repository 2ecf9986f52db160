/- Comparisons,copies,checks of this seat. -/
import Derived.Test.YtjepihoacohboaaCod3
import Derived.Test.YtjepihoacohboaaLo
set_option linter.unusedSimpArgs false
set_option linter.unusedVariables false
set_option maxRecDepth 20000
set_option maxHeartbeats 4000000
namespace Go.Ab
open Go.Proofs
theorem hm11:Try.prog.follows .mixedOrders=true:=by kernel_rfl
abbrev tB:Ty:=.int .u8
abbrev tV:Ty:=.int .u64
abbrev tTr:Ty:=.sl tB
abbrev tG:Ty:=.pair tI tTr
abbrev tC:Ty:=.pair tV tV
theorem drop_eq {t:Ty} {a b:List t.den} {i:Int} (h:0≤i) (h1:i<a.length) (h2:a.length=b.length):(a.drop i.toNat=b.drop i.toNat↔gtR t a i=gtR t b i∧a.drop (i+1).toNat=b.drop (i+1).toNat):=by
 rw[gtR_drop h h1,gtR_drop h (by omega)];simp
theorem gtR_mem {t:Ty} {l:List t.den} {i:Int} (h0:0≤i) (h1:i<l.length):gtR t l i∈l:=by
 have h:i.toNat<l.length:=by omega
 simp[gtR,h]
theorem vw_all {t:Ty} {n:Nat} {l:List t.den} (h:l.length=n):vwR t n l 0 n=l:=by unfold vwR;rw[Ty.norm_eq t h,List.drop_zero,←h,List.take_length]
theorem BR.lss {cmp:BinOp→Int→Int→Bool} (h:cmp=cmpR) {x y:Int} {A B:Prop} (t:x<y→A) (f:¬ x<y→B):BR (cmp .lss x y) A B:=by
 subst h;refine ⟨fun h=>t (by simpa [cmpR] using h),fun h=>f (by simpa [cmpR] using h)⟩
theorem BR.leq {cmp:BinOp→Int→Int→Bool} (h:cmp=cmpR) {x y:Int} {A B:Prop} (t:x≤y→A) (f:¬ x≤y→B):BR (cmp .leq x y) A B:=by
 subst h;refine ⟨fun h=>t (by simpa [cmpR] using h),fun h=>f (by simpa [cmpR] using h)⟩
theorem BR.eql {cmp:BinOp→Int→Int→Bool} (h:cmp=cmpR) {x y:Int} {A B:Prop} (t:x=y→A) (f:¬ x=y→B):BR (cmp .eql x y) A B:=by
 subst h;refine ⟨fun h=>t (by simpa [cmpR] using h),fun h=>f (by simpa [cmpR] using h)⟩
theorem BR.neq {cmp:BinOp→Int→Int→Bool} (h:cmp=cmpR) {x y:Int} {A B:Prop} (t:x≠y→A) (f:¬ x≠y→B):BR (cmp .neq x y) A B:=by
 subst h;refine ⟨fun h=>t (by simpa [cmpR] using h),fun h=>f (by simpa [cmpR] using h)⟩
theorem BR.gtr {cmp:BinOp→Int→Int→Bool} (h:cmp=cmpR) {x y:Int} {A B:Prop} (t:x>y→A) (f:¬ x>y→B):BR (cmp .gtr x y) A B:=by
 subst h;refine ⟨fun h=>t (by simpa [cmpR] using h),fun h=>f (by simpa [cmpR] using h)⟩
theorem BR.geq {cmp:BinOp→Int→Int→Bool} (h:cmp=cmpR) {x y:Int} {A B:Prop} (t:x≥y→A) (f:¬ x≥y→B):BR (cmp .geq x y) A B:=by
 subst h;refine ⟨fun h=>t (by simpa [cmpR] using h),fun h=>f (by simpa [cmpR] using h)⟩
theorem BR.nn {cmp:BinOp→Int→Int→Bool} (h:cmp=cmpR) {x:Int} {A B:Prop} (f:B):BR (cmp .neq x x) A B:=BR.neq h (fun h=>absurd rfl h) fun _=>f
def frS (fl hl:List Nat) (dsL:List DC) (stL:StS) (d:DC) (st':StS) (ds:List DC) (st:StS) (K:DC→StS→Prop):Prop:=
 leSs (fl.map some) (hl.map some) ds dsL∧((Nat.ble 0 stL.box.length && Nat.ble 0 stL.grp.length && dupFree (fl.map some) && dupFree (hl.map some) && lowB true 0 (fl.map some) 0 && lowB false 0 (hl.map some) 0)=true ∧
  leBoxes (fl.map some) (hl.map some) st.box 0 0 (fl.map some) stL.box∧leGrps st.grp (hl.map some) stL.grp∧leEnv (fl.map some) (hl.map some) [] []) ∧
 (Nat.ble stL.box.length st'.box.length && Nat.ble stL.grp.length st'.grp.length)=true ∧
 K (renS (rnOf fl st'.box st.box.length) (rnOf hl st'.grp st.grp.length) d) ⟨mergeL fl (st'.box.map (renB (rnOf fl st'.box st.box.length) (rnOf hl st'.grp st.grp.length))) st.box,mergeL hl st'.grp st.grp⟩
theorem frS_ok {P:Program} {f:FuncId} {fl hl:List Nat} {dsL:List DC} {stL:StS} {d:DC} {st':StS} {ds:List DC} {st:StS} {K:DC→StS→Prop} (h:FnS P f dsL stL fun x s=>x=d∧s=st') (hk:frS fl hl dsL stL d st' ds st K):FnS P f ds st K:=
 FnS.frame fl hl hk.1 (SIM_iff.2 hk.2.1) hk.2.2.1 h hk.2.2.2
def eqI (a b:List Int):Bool:=decide (a=b)
theorem cEqB (na:Option Bool) (a:List Int) (nb:Option Bool) (b:List Int) (h:Short 2000 a):PurS Try.prog 56 [injT (.sl tB) (na,a),injT (.sl tB) (nb,b)] (.sb (eqI a b)):=by
 refine PurS.of (S:=[]) (T:=[]) (U:=[]) (tbl:=[]) (n:=26) hm11 cfg .nil .nil .nil .nil 0 Try.call56 Try.func56 (ac56_ok (some (0,0))) (by rw[Try.ntmps56];exact Nat.le_refl _) rfl ⟨_,rfl⟩ ?_
 intro cmp ar cv tn ic ai mx an ad ml sb mn ln em gt up ap sc vw cp rp p1 p2 s1 s2 X Y hX hY r0 r1 r2 r3 r4 r5 r6 r7 r8 r9 r10 r11 r12 r13 r14 r15 r16 r17 r18 r19 r20 r21 r22 r23 r24
 generalize hg0:eqI=g0
 cbv
 refine BR.mk ?_ ?_ <;> intro hc
 ·subst_vars
  simp only[Short_iff,cmpR,arR,mxR,INB_iff,SLB_iff,SLM_iff,NZ_iff,NN_iff,EQN_iff,LEN_iff,LIM_iff,MK_iff,decide_eq_true_eq,decide_eq_false_iff_not,ne_eq,Bool.and_eq_true,nc_eq]at *
  grind [eqI]
 ·refine LOOP.ind (σ:=Int) (fun i=>[(0,.tl na tB a),(1,.tl nb tB b),(5,.p (iv i))]) (fun _=>⟨[],[]⟩) (fun i=>(a.length - i).toNat) (fun i=>0≤i∧i≤a.length∧(a.drop i.toNat=b.drop i.toNat↔a=b)) 0 (by simp) (.inl ⟨rfl,rfl⟩) ?_
  intro i hI X' hX
  have hd:=drop_eq (t:=tB) (a:=a) (b:=b) (i:=i)
  have he:=gtR_end (l:=a) (i:=i)
  have he':=gtR_end (l:=b) (i:=i)
  have h:=h.h
  cbv
  repeat' (first | exact True.intro | refine And.intro ?_ ?_ | (refine BR.mk ?_ ?_ <;> intro _) | (refine CASE.mk ?_;intro _) | refine NEXT.mk (hX _ _ _ ?_ ?_ (.inl ⟨rfl,rfl⟩)))
  all_goals clear hX
  all_goals subst_vars
  all_goals try simp only[Short_iff,cmpR,arR,mxR,INB_iff,SLB_iff,SLM_iff,NZ_iff,NN_iff,EQN_iff,LEN_iff,LIM_iff,MK_iff,decide_eq_true_eq,decide_eq_false_iff_not,ne_eq,Bool.and_eq_true]at *
  all_goals try dsimp only[Ty.den]at *
  all_goals try simp only[nc_eq]at *
  all_goals try (simp (disch:=omega) only[wrap64]at *)
  all_goals grind [eqI]
theorem LOOP.ind0 {body:(Ax→EnvS→StS→Prop)→EnvS→StS→Prop} {keep:List Nat} {Q:Ax→EnvS→StS→Prop} {ρ0:EnvS} {st0:StS} {σ:Type}
  (env:σ→EnvS) (st:σ→StS) (μ:σ→Nat) (I:σ→Prop) (s0:σ) (h0:I s0) (hs:SIMX st0.box.length st0.grp.length ρ0 st0 (env s0) (st s0))
  (h:∀ s,I s→∀ X:EnvS→StS→Prop,(∀ (s':σ) (ρ':EnvS) (st':StS),I s'→μ s'<μ s→SIMX st'.box.length st'.grp.length ρ' st' (env s') (st s')→X ρ' st') →
   body (Ax.thnS (fun ρ' st'=>NEXT X (ρ'.keep keep) st') Q) (env s) (st s)):LOOP body none keep Q ρ0 st0:=by
 refine ⟨μ s0+1,?_⟩
 have key:∀ k s,I s→μ s<k→∀ ρ' st',SIMX st'.box.length st'.grp.length ρ' st' (env s) (st s)→LoopS body none keep Q k ρ' st':=by
  intro k
  induction k with
  | zero=>intro s _ hk;omega
  | succ k ih=>
   intro s hs hk ρ' st' hsim
   exact ⟨env s,st s,by have:=hsim.sim;simpa [SimQ,StS.conc] using this,h s hs _ fun s' ρ' st' hi hlt hsim=>ih s' hi (by omega) ρ' st' hsim⟩
 exact key _ s0 h0 (Nat.lt_succ_self _) ρ0 st0 hs
def bigB:List Int→Bool
 | []=>false
 | x :: l=>decide (x>1) || bigB l
def bitsE (b:List Int):Int:=if b.length>128 then 4 else if bigB b then 1 else 0
def chkL:List (Option Bool×List Int)→Int
 | []=>0
 | x :: l=>if bitsE x.2=0 then chkL l else bitsE x.2
theorem cChk (nl:Option Bool) (L:List (Option Bool×List Int)) (hL:Short 1000 L):PurS Try.prog 74 [injT (.sl tTr) (nl,L)] (.p (iv (chkL L))):=by
 refine PurS.of (S:=[]) (T:=[]) (U:=[]) (tbl:=[(92,ac92 none,[.tmp 4],9),(100,ac100 none,[.tmp 4],19),(93,ac93 none,[.tmp 2],5)]) (n:=17) hm11 cfg .nil .nil .nil (.cons Try.call92 Try.func92 (ac92_ok none) (by rw[Try.ntmps92];exact Nat.le_refl _) (.cons Try.call100 Try.func100 (ac100_ok none) (by rw[Try.ntmps100];exact Nat.le_refl _) (.cons Try.call93 Try.func93 (ac93_ok none) (by rw[Try.ntmps93];exact Nat.le_refl _) .nil))) 6 Try.call74 Try.func74 (ac74_ok (some (0,0))) (by rw[Try.ntmps74];exact Nat.le_refl _) rfl ⟨_,rfl⟩ ?_
 intro cmp ar cv tn ic ai mx an ad ml sb mn ln em gt up ap sc vw cp rp p1 p2 s1 s2 X Y hX hY r0 r1 r2 r3 r4 r5 r6 r7 r8 r9 r10 r11 r12 r13 r14 r15 r16 r17 r18 r19 r20 r21 r22 r23 r24
 generalize hg0:chkL=g0
 generalize hg1:bitsE=g1
 cbv
 refine LOOP.ind (σ:=Int) (fun i=>[(5,.tl nl tTr L),(6,.p (iv (ic (ln tTr L)))),(7,.p (iv i))]) (fun _=>⟨[],[]⟩) (fun i=>(L.length - i).toNat) (fun i=>0≤i∧i≤L.length∧chkL (L.drop i.toNat)=chkL L) 0 (by simp) (.inl ⟨rfl,rfl⟩) ?_
 intro i hI X' hX
 obtain ⟨a,ha⟩:∃ a,a=s2 tB (gt tTr L i):=⟨_,rfl⟩
 obtain ⟨na,hna⟩:∃ a,a=s1 tB (gt tTr L i):=⟨_,rfl⟩
 have hgt:(na,a)=gtR tTr L i:=by rw[ha,hna,r14,r23,r24]
 have hd:=gtR_drop (t:=tTr) (l:=L) (i:=i)
 have hde:=gtR_end (l:=L) (i:=i)
 rw[←hgt]at hd
 have hla:ic (ln tB a)=a.length:=by rw[r4,r12]
 have hE:bitsE a=if a.length>128 then 4 else if bigB a then 1 else 0:=rfl
 have hL:=hL.h
 have hck:chkL ((na,a) :: L.drop (i+1).toNat)=if bitsE a=0 then chkL (L.drop (i+1).toNat) else bitsE a:=rfl
 have hcn:chkL []=0:=rfl
 cbv
 rw[←ha,←hna]
 clear ha hna hgt
 repeat' (first | exact True.intro | refine And.intro ?_ ?_ | (refine BR.mk ?_ ?_ <;> intro _) | (refine CASE.mk ?_;intro _) | refine NEXT.mk (hX _ _ _ ?_ ?_ (.inl ⟨rfl,rfl⟩)))
 all_goals first | (show LOOP _ _ _ _ _ _;skip) | (clear hX;subst_vars;(all_goals try simp only[Short_iff,cmpR,arR,mxR,INB_iff,SLB_iff,SLM_iff,NZ_iff,NN_iff,EQN_iff,LEN_iff,LIM_iff,MK_iff,decide_eq_true_eq,decide_eq_false_iff_not,ne_eq,Bool.and_eq_true,cmpR]at *);(all_goals try dsimp only[Ty.den]at *);(all_goals try simp only[nc_eq]at *);(all_goals try (simp (disch:=omega) only[wrap64]at *));all_goals grind)
 refine LOOP.ind0 (σ:=Int) (fun k=>[(0,.tl na tB a),(1,.fn (.func 93) [] []),(7,.p (iv (ic (ln tB a)))),(8,.p (iv k))]) (fun _=>⟨[],[]⟩) (fun k=>(a.length - k).toNat) (fun k=>0≤k∧k≤a.length∧bigB (a.drop k.toNat)=bigB a) 0 (by simp) (.inl ⟨rfl,rfl⟩) ?_
 intro k hJ X2 hY
 have hd2:=gtR_drop (t:=tB) (l:=a) (i:=k)
 have hde2:=gtR_end (l:=a) (i:=k)
 cbv
 repeat' (first | exact True.intro | refine And.intro ?_ ?_ | (refine BR.mk ?_ ?_ <;> intro _) | (refine CASE.mk ?_;intro _) | refine NEXT.mk (hY _ _ _ ?_ ?_ (.inl ⟨rfl,rfl⟩)) | refine NEXT.mk (hX _ _ _ ?_ ?_ (.inl ⟨rfl,rfl⟩)))
 all_goals clear hY
 all_goals clear hX
 all_goals subst_vars
 all_goals try simp only[Short_iff,cmpR,arR,mxR,INB_iff,SLB_iff,SLM_iff,NZ_iff,NN_iff,EQN_iff,LEN_iff,LIM_iff,MK_iff,decide_eq_true_eq,decide_eq_false_iff_not,ne_eq,Bool.and_eq_true]at *
 all_goals try dsimp only[Ty.den]at *
 all_goals try simp only[nc_eq]at *
 all_goals try (simp (disch:=omega) only[wrap64]at *)
 all_goals grind [bigB]
theorem cBits (nb:Option Bool) (b:List Int):PurS Try.prog 57 [injT (.sl tB) (nb,b)] (.p (iv (bitsE b))):=by
 refine PurS.of (S:=[(74,_)]) (T:=[]) (U:=[]) (tbl:=[]) (n:=6) hm11 cfg (.cons (spT1.ok (a:=(.sl (.sl (.int .u8)))) fun x0 h=>cChk x0.1 x0.2 h) .nil) .nil .nil .nil 0 Try.call57 Try.func57 (ac57_ok (some (0,0))) (by rw[Try.ntmps57];exact Nat.le_refl _) rfl ⟨_,rfl⟩ ?_
 intro cmp ar cv tn ic ai mx an ad ml sb mn ln em gt up ap sc vw cp rp p1 p2 s1 s2 X Y hX hY r0 r1 r2 r3 r4 r5 r6 r7 r8 r9 r10 r11 r12 r13 r14 r15 r16 r17 r18 r19 r20 r21 r22 r23 r24
 generalize hg0:chkL=g0
 generalize hg1:bitsE=g1
 cbv
 have h:chkL [(nb,b)]=bitsE b:=by simp only[chkL];split <;> simp_all
 simp only[hg0,hg1]at h
 rw[h]
 exact ⟨⟨by simp⟩,rfl⟩
def fldE (b:List Int) (at' n:Int):Int:=if bitsE b≠0 then bitsE b else if n<0∨n>64 then 1 else if at'<0∨at'>b.length - n then 8 else 0
theorem cFld (nb:Option Bool) (b:List Int) (at' n:Int) (hb:b.length≤maxLen):PurS Try.prog 75 [injT (.sl tB) (nb,b),injT tI at',injT tI n] (.p (iv (fldE b at' n))):=by
 refine PurS.of (S:=[(74,_)]) (T:=[]) (U:=[]) (tbl:=[]) (n:=33) hm11 cfg (.cons (spT1.ok (a:=(.sl (.sl (.int .u8)))) fun x0 h=>cChk x0.1 x0.2 h) .nil) .nil .nil .nil 0 Try.call75 Try.func75 (ac75_ok (some (0,0))) (by rw[Try.ntmps75];exact Nat.le_refl _) rfl ⟨_,rfl⟩ ?_
 intro cmp ar cv tn ic ai mx an ad ml sb mn ln em gt up ap sc vw cp rp p1 p2 s1 s2 X Y hX hY r0 r1 r2 r3 r4 r5 r6 r7 r8 r9 r10 r11 r12 r13 r14 r15 r16 r17 r18 r19 r20 r21 r22 r23 r24
 generalize hg0:chkL=g0
 generalize hg1:bitsE=g1
 generalize hg2:fldE=g2
 cbv
 have h:chkL [(nb,b)]=bitsE b:=by simp only[chkL];split <;> simp_all
 have h2:fldE b at' n=if bitsE b≠0 then bitsE b else if n<0∨n>64 then 1 else if at'<0∨at'>b.length - n then 8 else 0:=rfl
 simp only[hg0,hg1,hg2]at h h2
 rw[h]
 simp only[maxLen]at hb
 refine ⟨⟨by simp⟩,?_⟩
 repeat' (first | exact True.intro | refine And.intro ?_ ?_ | (refine BR.mk ?_ ?_ <;> intro _) | (refine CASE.mk ?_;intro _))
 all_goals subst_vars
 all_goals try simp only[Short_iff,cmpR,arR,mxR,INB_iff,SLB_iff,SLM_iff,NZ_iff,NN_iff,EQN_iff,LEN_iff,LIM_iff,MK_iff,decide_eq_true_eq,decide_eq_false_iff_not,ne_eq,Bool.and_eq_true]at *
 all_goals try dsimp only[Ty.den]at *
 all_goals try simp only[nc_eq]at *
 all_goals try (simp (disch:=omega) only[wrap64]at *)
 all_goals grind
theorem cEqBits (na:Option Bool) (a:List Int) (nb:Option Bool) (b:List Int) (h:Short 2000 a):PurS Try.prog 29 [injT (.sl tB) (na,a),injT (.sl tB) (nb,b)] (.sb (eqI a b)):=by
 refine PurS.of (S:=[(56,_)]) (T:=[]) (U:=[]) (tbl:=[]) (n:=8) hm11 cfg (.cons (spT2.ok (a:=(.sl (.int .u8))) (b:=(.sl (.int .u8))) fun x0 x1 h=>cEqB x0.1 x0.2 x1.1 x1.2 h) .nil) .nil .nil .nil 0 Try.call29 Try.func29 (ac29_ok (some (0,0))) (by rw[Try.ntmps29];exact Nat.le_refl _) rfl ⟨_,rfl⟩ ?_
 intro cmp ar cv tn ic ai mx an ad ml sb mn ln em gt up ap sc vw cp rp p1 p2 s1 s2 X Y hX hY r0 r1 r2 r3 r4 r5 r6 r7 r8 r9 r10 r11 r12 r13 r14 r15 r16 r17 r18 r19 r20 r21 r22 r23 r24
 generalize hg0:eqI=g0
 cbv
 refine ⟨h,BR.mk (fun h=>h.symm) (fun h=>h.symm)⟩
def eqG (x:Int) (a:List Int) (y:Int) (b:List Int):Bool:=decide (x=y) && eqI a b
theorem cEqG (x:Int) (na:Option Bool) (a:List Int) (y:Int) (nb:Option Bool) (b:List Int) (h:Short 2000 a):PurS Try.prog 22 [injT tG (x,na,a),injT tG (y,nb,b)] (.sb (eqG x a y b)):=by
 refine PurS.of (S:=[(56,_)]) (T:=[]) (U:=[]) (tbl:=[]) (n:=17) hm11 cfg (.cons (spT2.ok (a:=(.sl (.int .u8))) (b:=(.sl (.int .u8))) fun x0 x1 h=>cEqB x0.1 x0.2 x1.1 x1.2 h) .nil) .nil .nil .nil 0 Try.call22 Try.func22 (ac22_ok (some (0,0))) (by rw[Try.ntmps22];exact Nat.le_refl _) rfl ⟨_,rfl⟩ ?_
 intro cmp ar cv tn ic ai mx an ad ml sb mn ln em gt up ap sc vw cp rp p1 p2 s1 s2 X Y hX hY r0 r1 r2 r3 r4 r5 r6 r7 r8 r9 r10 r11 r12 r13 r14 r15 r16 r17 r18 r19 r20 r21 r22 r23 r24
 generalize hg0:eqI=g0
 generalize hg1:eqG=g1
 cbv
 have e:g1 x a y b=(decide (x=y) && g0 a b):=by rw[←hg0,←hg1];rfl
 refine BR.eql r0 (fun hc=>⟨h,BR.mk (fun h2=>?_) (fun h2=>?_)⟩) (fun hc=>?_)
 ·rw[e,decide_eq_true hc,show g0 a b=true from h2];rfl
 ·rw[e,decide_eq_true hc,show g0 a b=false from h2];rfl
 ·rw[e,decide_eq_false hc];rfl
theorem cEqInts (na:Option Bool) (a:List Int) (nb:Option Bool) (b:List Int) (h:Short 2000 a):PurS Try.prog 35 [injT (.sl tI) (na,a),injT (.sl tI) (nb,b)] (.sb (eqI a b)):=by
 refine PurS.of (S:=[]) (T:=[]) (U:=[]) (tbl:=[]) (n:=26) hm11 cfg .nil .nil .nil .nil 0 Try.call35 Try.func35 (ac35_ok (some (0,0))) (by rw[Try.ntmps35];exact Nat.le_refl _) rfl ⟨_,rfl⟩ ?_
 intro cmp ar cv tn ic ai mx an ad ml sb mn ln em gt up ap sc vw cp rp p1 p2 s1 s2 X Y hX hY r0 r1 r2 r3 r4 r5 r6 r7 r8 r9 r10 r11 r12 r13 r14 r15 r16 r17 r18 r19 r20 r21 r22 r23 r24
 generalize hg0:eqI=g0
 cbv
 refine BR.mk ?_ ?_ <;> intro hc
 ·subst_vars
  simp only[Short_iff,cmpR,arR,mxR,INB_iff,SLB_iff,SLM_iff,NZ_iff,NN_iff,EQN_iff,LEN_iff,LIM_iff,MK_iff,decide_eq_true_eq,decide_eq_false_iff_not,ne_eq,Bool.and_eq_true,nc_eq]at *
  grind [eqI]
 ·refine LOOP.ind (σ:=Int) (fun i=>[(0,.tl na tI a),(1,.tl nb tI b),(5,.p (iv i))]) (fun _=>⟨[],[]⟩) (fun i=>(a.length - i).toNat) (fun i=>0≤i∧i≤a.length∧(a.drop i.toNat=b.drop i.toNat↔a=b)) 0 (by simp) (.inl ⟨rfl,rfl⟩) ?_
  intro i hI X' hX
  have hd:=drop_eq (t:=tI) (a:=a) (b:=b) (i:=i)
  have he:=gtR_end (l:=a) (i:=i)
  have he':=gtR_end (l:=b) (i:=i)
  have h:=h.h
  cbv
  repeat' (first | exact True.intro | refine And.intro ?_ ?_ | (refine BR.mk ?_ ?_ <;> intro _) | (refine CASE.mk ?_;intro _) | refine NEXT.mk (hX _ _ _ ?_ ?_ (.inl ⟨rfl,rfl⟩)))
  all_goals clear hX
  all_goals subst_vars
  all_goals try simp only[Short_iff,cmpR,arR,mxR,INB_iff,SLB_iff,SLM_iff,NZ_iff,NN_iff,EQN_iff,LEN_iff,LIM_iff,MK_iff,decide_eq_true_eq,decide_eq_false_iff_not,ne_eq,Bool.and_eq_true]at *
  all_goals try dsimp only[Ty.den]at *
  all_goals try simp only[nc_eq]at *
  all_goals try (simp (disch:=omega) only[wrap64]at *)
  all_goals grind [eqI]
def big2:List Int→Bool
 | []=>false
 | x :: l=>decide (x>2) || big2 l
def gchk (b:List Int):Int:=if b.length≠56∧b.length≠112 then 2 else if big2 b then 1 else 0
theorem big2_cons {b:List Int} {i:Int} (h0:0≤i) (h1:i<b.length):big2 (b.drop i.toNat)=(decide (gtR tB b i>2) || big2 (b.drop (i+1).toNat)):=by rw[gtR_drop (t:=tB) h0 h1];rfl
theorem cGChk (x:Int) (nb:Option Bool) (b:List Int) (h:b.length≤maxLen):PurS Try.prog 19 [injT tG (x,nb,b)] (.p (iv (gchk b))):=by
 refine PurS.of (S:=[]) (T:=[]) (U:=[]) (tbl:=[(54,ac54 none,[.tmp 4],9),(73,ac73 none,[.tmp 4],19),(55,ac55 none,[.tmp 2],5)]) (n:=16) hm11 cfg .nil .nil .nil (.cons Try.call54 Try.func54 (ac54_ok none) (by rw[Try.ntmps54];exact Nat.le_refl _) (.cons Try.call73 Try.func73 (ac73_ok none) (by rw[Try.ntmps73];exact Nat.le_refl _) (.cons Try.call55 Try.func55 (ac55_ok none) (by rw[Try.ntmps55];exact Nat.le_refl _) .nil))) 6 Try.call19 Try.func19 (ac19_ok (some (0,0))) (by rw[Try.ntmps19];exact Nat.le_refl _) rfl ⟨_,rfl⟩ ?_
 intro cmp ar cv tn ic ai mx an ad ml sb mn ln em gt up ap sc vw cp rp p1 p2 s1 s2 X Y hX hY r0 r1 r2 r3 r4 r5 r6 r7 r8 r9 r10 r11 r12 r13 r14 r15 r16 r17 r18 r19 r20 r21 r22 r23 r24
 generalize hg0:gchk=g0
 cbv
 have hla:ic (ln tB b)=b.length:=by rw[r4,r12]
 obtain ⟨z,hz⟩:∃ z,z=g0 b:=⟨_,rfl⟩
 rw[←hz]
 have hE:z=if b.length≠56∧b.length≠112 then 2 else if big2 b then 1 else 0:=by rw[hz,←hg0];rfl
 simp only[maxLen]at h
 refine BR.neq r0 (fun h1=>BR.neq r0 (fun h2=>?_) (fun h2=>?_)) (fun h1=>?_)
 ·rw[hE,if_pos];rw[hla]at h1 h2;omega
 all_goals
  have hE:z=if big2 b then 1 else 0:=by rw[hE,if_neg];rw[hla]at *;omega
  obtain ⟨w,hw⟩:∃ w,w=big2 b:=⟨_,rfl⟩
  rw[←hw]at hE
  show LOOP _ _ _ _ _ _
  refine LOOP.ind0 (σ:=Int) (fun k=>[(0,.tl nb tB b),(1,.fn (.func 55) [] []),(7,.p (iv (ic (ln tB b)))),(8,.p (iv k))]) (fun _=>⟨[{ cells:=[.p (iv x),.tl nb tB b],e:=24,fz:=false }],[]⟩) (fun k=>(b.length - k).toNat) (fun k=>0≤k∧k≤b.length∧big2 (b.drop k.toNat)=w) 0 (by simp[hw]) (.inl ⟨rfl,rfl⟩) ?_
  intro k hJ X2 hY
  have hst:=big2_cons (b:=b) (i:=k)
  have hde2:=gtR_end (l:=b) (i:=k)
  have hend:¬ k<b.length→w=false:=fun h=>by rw[←hJ.2.2,hde2 h];rfl
  cbv
  repeat' (first | exact True.intro | refine And.intro ?_ ?_ | (refine BR.mk ?_ ?_ <;> intro _) | (refine CASE.mk ?_;intro _) | refine NEXT.mk (hY _ _ _ ?_ ?_ (.inl ⟨rfl,rfl⟩)))
  all_goals clear hY
  all_goals subst_vars
  all_goals try simp only[Short_iff,cmpR,arR,mxR,INB_iff,SLB_iff,SLM_iff,NZ_iff,NN_iff,EQN_iff,LEN_iff,LIM_iff,MK_iff,decide_eq_true_eq,decide_eq_false_iff_not,ne_eq,Bool.and_eq_true]at *
  all_goals try dsimp only[Ty.den]at *
  all_goals try simp only[nc_eq]at *
  all_goals try (simp (disch:=omega) only[wrap64]at *)
  all_goals grind
end Go.Ab
