/- Limbs: comparison,sums and differences with carry. -/
import Derived.Test.YtlmdgmppeacobaaGreatCod3
import Derived.Test.YtlmdgmppeacobaaGreatLn
set_option linter.unusedSimpArgs false
set_option linter.unusedVariables false
set_option maxRecDepth 20000
set_option maxHeartbeats 4000000
namespace Go.Ab
open Go.Proofs
theorem hm31:Tryz.prog.follows .mixedOrders=true:=by kernel_rfl
abbrev tB:Ty:=.int .u8
abbrev tV:Ty:=.int .u64
abbrev tW:Ty:=.int .u32
abbrev tN:Ty:=.sl tW
abbrev tR:Ty:=.pair .bool (.pair tN tN)
abbrev uw (n:Int):PD:=.v (.int .u32 n)
theorem drop_eq {t:Ty} {a b:List t.den} {i:Int} (h:0≤i) (h1:i<a.length) (h2:a.length=b.length):(a.drop i.toNat=b.drop i.toNat↔gtR t a i=gtR t b i∧a.drop (i+1).toNat=b.drop (i+1).toNat):=by
 rw[gtR_drop h h1,gtR_drop h (by omega)];simp
theorem gtR_mem {t:Ty} {l:List t.den} {i:Int} (h0:0≤i) (h1:i<l.length):gtR t l i∈l:=by
 have h:i.toNat<l.length:=by omega
 simp[gtR,h]
theorem vw_all {t:Ty} {n:Nat} {l:List t.den} (h:l.length=n):vwR t n l 0 n=l:=by unfold vwR;rw[Ty.norm_eq t h,List.drop_zero,←h,List.take_length]
theorem BR.lss {cmp:BinOp→Int→Int→Bool} (h:cmp=cmpR) {x y:Int} {A B:Prop} (t:x<y→A) (f:¬ x<y→B):BR (cmp .lss x y) A B:=by
 subst h;refine ⟨fun h=>t (by simpa [cmpR] using h),fun h=>f (by simpa [cmpR] using h)⟩
theorem BR.leq {cmp:BinOp→Int→Int→Bool} (h:cmp=cmpR) {x y:Int} {A B:Prop} (t:x≤y→A) (f:¬ x≤y→B):BR (cmp .leq x y) A B:=by
 subst h;refine ⟨fun h=>t (by simpa [cmpR] using h),fun h=>f (by simpa [cmpR] using h)⟩
theorem BR.eql {cmp:BinOp→Int→Int→Bool} (h:cmp=cmpR) {x y:Int} {A B:Prop} (t:x=y→A) (f:¬ x=y→B):BR (cmp .eql x y) A B:=by
 subst h;refine ⟨fun h=>t (by simpa [cmpR] using h),fun h=>f (by simpa [cmpR] using h)⟩
theorem BR.neq {cmp:BinOp→Int→Int→Bool} (h:cmp=cmpR) {x y:Int} {A B:Prop} (t:x≠y→A) (f:¬ x≠y→B):BR (cmp .neq x y) A B:=by
 subst h;refine ⟨fun h=>t (by simpa [cmpR] using h),fun h=>f (by simpa [cmpR] using h)⟩
theorem BR.gtr {cmp:BinOp→Int→Int→Bool} (h:cmp=cmpR) {x y:Int} {A B:Prop} (t:x>y→A) (f:¬ x>y→B):BR (cmp .gtr x y) A B:=by
 subst h;refine ⟨fun h=>t (by simpa [cmpR] using h),fun h=>f (by simpa [cmpR] using h)⟩
theorem BR.geq {cmp:BinOp→Int→Int→Bool} (h:cmp=cmpR) {x y:Int} {A B:Prop} (t:x≥y→A) (f:¬ x≥y→B):BR (cmp .geq x y) A B:=by
 subst h;refine ⟨fun h=>t (by simpa [cmpR] using h),fun h=>f (by simpa [cmpR] using h)⟩
theorem BR.nn {cmp:BinOp→Int→Int→Bool} (h:cmp=cmpR) {x:Int} {A B:Prop} (f:B):BR (cmp .neq x x) A B:=BR.neq h (fun h=>absurd rfl h) fun _=>f
def frS (fl hl:List Nat) (dsL:List DC) (stL:StS) (d:DC) (st':StS) (ds:List DC) (st:StS) (K:DC→StS→Prop):Prop:=
 leSs (fl.map some) (hl.map some) ds dsL∧((Nat.ble 0 stL.box.length && Nat.ble 0 stL.grp.length && dupFree (fl.map some) && dupFree (hl.map some) && lowB true 0 (fl.map some) 0 && lowB false 0 (hl.map some) 0)=true ∧
  leBoxes (fl.map some) (hl.map some) st.box 0 0 (fl.map some) stL.box∧leGrps st.grp (hl.map some) stL.grp∧leEnv (fl.map some) (hl.map some) [] []) ∧
 (Nat.ble stL.box.length st'.box.length && Nat.ble stL.grp.length st'.grp.length)=true ∧
 K (renS (rnOf fl st'.box st.box.length) (rnOf hl st'.grp st.grp.length) d) ⟨mergeL fl (st'.box.map (renB (rnOf fl st'.box st.box.length) (rnOf hl st'.grp st.grp.length))) st.box,mergeL hl st'.grp st.grp⟩
theorem frS_ok {P:Program} {f:FuncId} {fl hl:List Nat} {dsL:List DC} {stL:StS} {d:DC} {st':StS} {ds:List DC} {st:StS} {K:DC→StS→Prop} (h:FnS P f dsL stL fun x s=>x=d∧s=st') (hk:frS fl hl dsL stL d st' ds st K):FnS P f ds st K:=
 FnS.frame fl hl hk.1 (SIM_iff.2 hk.2.1) hk.2.2.1 h hk.2.2.2
def frST (pl fl hl:List Nat) (dsL:List DC) (stL:StS) (d:DC) (st':StS) (ds:List DC) (st:StS) (K:DC→StS→Prop):Prop:=disjN fl pl=true∧frS fl hl dsL stL d st' ds st K
theorem frST_ok {P:Program} {f:FuncId} {pl fl hl:List Nat} {dsL:List DC} {stL:StS} {d:DC} {st':StS} {ds:List DC} {st:StS} {K:DC→StS→Prop} (h:FnS P f dsL stL fun x s=>x=d∧s=st') (hk:frST pl fl hl dsL stL d st' ds st K):CT P pl f (concL ds) st.conc (KP K):=
 FnS.frameT fl hl hk.2.1 (SIM_iff.2 hk.2.2.1) hk.2.2.2.1 hk.1 h hk.2.2.2.2
theorem LOOP.ind0 {body:(Ax→EnvS→StS→Prop)→EnvS→StS→Prop} {keep:List Nat} {Q:Ax→EnvS→StS→Prop} {ρ0:EnvS} {st0:StS} {σ:Type}
  (env:σ→EnvS) (st:σ→StS) (μ:σ→Nat) (I:σ→Prop) (s0:σ) (h0:I s0) (hs:SIMX st0.box.length st0.grp.length ρ0 st0 (env s0) (st s0))
  (h:∀ s,I s→∀ X:EnvS→StS→Prop,(∀ (s':σ) (ρ':EnvS) (st':StS),I s'→μ s'<μ s→SIMX st'.box.length st'.grp.length ρ' st' (env s') (st s')→X ρ' st') →
   body (Ax.thnS (fun ρ' st'=>NEXT X (ρ'.keep keep) st') Q) (env s) (st s)):LOOP body none keep Q ρ0 st0:=by
 refine ⟨μ s0+1,?_⟩
 have key:∀ k s,I s→μ s<k→∀ ρ' st',SIMX st'.box.length st'.grp.length ρ' st' (env s) (st s)→LoopS body none keep Q k ρ' st':=by
  intro k
  induction k with
  | zero=>intro s _ hk;omega
  | succ k ih=>
   intro s hs hk ρ' st' hsim
   exact ⟨env s,st s,by have:=hsim.sim;simpa [SimQ,StS.conc] using this,h s hs _ fun s' ρ' st' hi hlt hsim=>ih s' hi (by omega) ρ' st' hsim⟩
 exact key _ s0 h0 (Nat.lt_succ_self _) ρ0 st0 hs
theorem wrap_u64 {x:Int} (h0:0≤x) (h1:x<18446744073709551616):IntKind.wrap .u64 x=x:=by
 simp[IntKind.wrap,IntKind.signed,IntKind.bits]
 exact Int.emod_eq_of_lt h0 h1
theorem wrap_u32 (x:Int):IntKind.wrap .u32 x=x % 4294967296:=rfl
def cmpI (x y:Int):Int:=if x<y then -1 else if x>y then 1 else 0
theorem cCmpI (x y:Int):PurS Tryz.prog 133 [injT tI x,injT tI y] (.p (iv (cmpI x y))):=by
 refine PurS.of (S:=[]) (T:=[]) (U:=[]) (tbl:=[(145,ac145 none,[.tmp 2],6)]) (n:=20) hm31 cfg .nil .nil .nil (.cons Tryz.call145 Tryz.func145 (ac145_ok none) (by rw[Tryz.ntmps145];exact Nat.le_refl _) .nil) 6 Tryz.call133 Tryz.func133 (ac133_ok (some (0,0))) (by rw[Tryz.ntmps133];exact Nat.le_refl _) rfl ⟨_,rfl⟩ ?_
 intro cmp ar cv tn ic ai mx an ad ml sb mn ln em gt up ap sc vw cp rp p1 p2 s1 s2 X Y hX hY r0 r1 r2 r3 r4 r5 r6 r7 r8 r9 r10 r11 r12 r13 r14 r15 r16 r17 r18 r19 r20 r21 r22 r23 r24
 generalize hg0:cmpI=g0
 cbv
 repeat' (first | exact True.intro | refine And.intro ?_ ?_ | (refine BR.nn r0 ?_) | (refine BR.lss r0 ?_ ?_ <;> intro _) | (refine BR.neq r0 ?_ ?_ <;> intro _) | (refine BR.eql r0 ?_ ?_ <;> intro _) | (refine BR.leq r0 ?_ ?_ <;> intro _) | (refine BR.gtr r0 ?_ ?_ <;> intro _) | (refine BR.geq r0 ?_ ?_ <;> intro _) | (refine BR.mk ?_ ?_ <;> intro _) | (refine CASE.mk ?_;intro _))
 all_goals (rw[←hg0];unfold cmpI;split <;> (try split) <;> omega)
theorem cCmpW (x y:Int):PurS Tryz.prog 134 [injT tW x,injT tW y] (.p (iv (cmpI x y))):=by
 refine PurS.of (S:=[]) (T:=[]) (U:=[]) (tbl:=[(146,ac146 none,[.tmp 2],6)]) (n:=20) hm31 cfg .nil .nil .nil (.cons Tryz.call146 Tryz.func146 (ac146_ok none) (by rw[Tryz.ntmps146];exact Nat.le_refl _) .nil) 6 Tryz.call134 Tryz.func134 (ac134_ok (some (0,0))) (by rw[Tryz.ntmps134];exact Nat.le_refl _) rfl ⟨_,rfl⟩ ?_
 intro cmp ar cv tn ic ai mx an ad ml sb mn ln em gt up ap sc vw cp rp p1 p2 s1 s2 X Y hX hY r0 r1 r2 r3 r4 r5 r6 r7 r8 r9 r10 r11 r12 r13 r14 r15 r16 r17 r18 r19 r20 r21 r22 r23 r24
 generalize hg0:cmpI=g0
 cbv
 repeat' (first | exact True.intro | refine And.intro ?_ ?_ | (refine BR.nn r0 ?_) | (refine BR.lss r0 ?_ ?_ <;> intro _) | (refine BR.neq r0 ?_ ?_ <;> intro _) | (refine BR.eql r0 ?_ ?_ <;> intro _) | (refine BR.leq r0 ?_ ?_ <;> intro _) | (refine BR.gtr r0 ?_ ?_ <;> intro _) | (refine BR.geq r0 ?_ ?_ <;> intro _) | (refine BR.mk ?_ ?_ <;> intro _) | (refine CASE.mk ?_;intro _))
 all_goals (rw[←hg0];unfold cmpI;split <;> (try split) <;> omega)
structure W3 (x y c:Int):Prop where
 x0:0≤x
 x1:x<4294967296
 y0:0≤y
 y1:y<4294967296
 c0:0≤c
 c1:c≤1
def add32 (x y c:Int):Int:=(x+y+c) % 4294967296
def cry32 (x y c:Int):Int:=(x+y+c) / 4294967296
theorem cAdd32 (x y c:Int) (h:W3 x y c):PurS Tryz.prog 148 [injT tW x,injT tW y,injT tW c] (.tup [.p (uw (add32 x y c)),.p (uw (cry32 x y c))]):=by
 refine PurS.of (S:=[]) (T:=[]) (U:=[]) (tbl:=[]) (n:=22) hm31 cfg .nil .nil .nil .nil 0 Tryz.call148 Tryz.func148 (ac148_ok (some (0,0))) (by rw[Tryz.ntmps148];exact Nat.le_refl _) rfl ⟨_,rfl⟩ ?_
 intro cmp ar cv tn ic ai mx an ad ml sb mn ln em gt up ap sc vw cp rp p1 p2 s1 s2 X Y hX hY r0 r1 r2 r3 r4 r5 r6 r7 r8 r9 r10 r11 r12 r13 r14 r15 r16 r17 r18 r19 r20 r21 r22 r23 r24
 generalize hg0:add32=g0
 generalize hg1:cry32=g1
 cbv
 obtain ⟨h1,h2,h3,h4,h5,h6⟩:=h
 rw[←hg0,←hg1,r1,r2]
 have e:arR .add .u64 (arR .add .u64 (IntKind.wrap .u64 x) (IntKind.wrap .u64 y)) (IntKind.wrap .u64 c)=x+y+c:=by
  simp only[arR]
  rw[wrap_u64 (x:=x) (by omega) (by omega),wrap_u64 (x:=y) (by omega) (by omega),wrap_u64 (x:=c) (by omega) (by omega),wrap_u64 (x:=x+y) (by omega) (by omega),wrap_u64 (by omega) (by omega)]
 rw[e]
 refine ⟨⟨by decide⟩,wrap_u32 _,?_,trivial⟩
 show IntKind.wrap .u32 (Int.fdiv (x+y+c) 4294967296)=cry32 x y c
 rw[Int.fdiv_eq_ediv_of_nonneg _ (by decide),wrap_u32]
 unfold cry32;omega
theorem wrapB (v:BitVec 32):IntKind.wrap .u32 (v.toNat:Int)=v.toNat:=by rw[wrap_u32];have:=v.isLt;omega
theorem ofB (v:BitVec 32):BitVec.ofInt 32 (v.toNat:Int)=v:=by
 apply BitVec.eq_of_toNat_eq;rw[BitVec.toNat_ofInt];have:=v.isLt;omega
theorem topB (v:BitVec 32):Int.fdiv (v.toNat:Int) 2147483648=if v.msb then 1 else 0:=by
 rw[Int.fdiv_eq_ediv_of_nonneg _ (by decide),BitVec.msb_eq_decide]
 have:=v.isLt
 by_cases h:2 ^ (32 - 1)≤v.toNat
 ·simp only[h,decide_true,if_true];omega
 ·simp only[h,decide_false,Bool.false_eq_true,if_false];omega
def sub32 (x y c:Int):Int:=(x - y - c) % 4294967296
def brw32 (x y c:Int):Int:=if x<y+c then 1 else 0
theorem cSub32 (x y c:Int) (h:W3 x y c):PurS Tryz.prog 135 [injT tW x,injT tW y,injT tW c] (.tup [.p (uw (sub32 x y c)),.p (uw (brw32 x y c))]):=by
 refine PurS.of (S:=[]) (T:=[]) (U:=[]) (tbl:=[]) (n:=25) hm31 cfg .nil .nil .nil .nil 0 Tryz.call135 Tryz.func135 (ac135_ok (some (0,0))) (by rw[Tryz.ntmps135];exact Nat.le_refl _) rfl ⟨_,rfl⟩ ?_
 intro cmp ar cv tn ic ai mx an ad ml sb mn ln em gt up ap sc vw cp rp p1 p2 s1 s2 X Y hX hY r0 r1 r2 r3 r4 r5 r6 r7 r8 r9 r10 r11 r12 r13 r14 r15 r16 r17 r18 r19 r20 r21 r22 r23 r24
 generalize hg0:sub32=g0
 generalize hg1:brw32=g1
 cbv
 obtain ⟨h1,h2,h3,h4,h5,h6⟩:=h
 rw[←hg0,←hg1,r1]
 have e:arR .sub .u32 (arR .sub .u32 x y) c=sub32 x y c:=by
  simp only[arR,wrap_u32];unfold sub32;omega
 rw[e]
 refine ⟨⟨by decide⟩,rfl,?_,trivial⟩
 obtain ⟨d,hd⟩:∃ d,d=sub32 x y c:=⟨_,rfl⟩
 rw[←hd]
 have hd':d=(x - y - c) % 4294967296:=hd
 obtain ⟨bx,hbx⟩:∃ b,b=BitVec.ofInt 32 x:=⟨_,rfl⟩
 obtain ⟨bY,hby⟩:∃ b,b=BitVec.ofInt 32 y:=⟨_,rfl⟩
 obtain ⟨bd,hbd⟩:∃ b,b=BitVec.ofInt 32 d:=⟨_,rfl⟩
 have nx:(bx.toNat:Int)=x:=by rw[hbx,BitVec.toNat_ofInt];omega
 have ny:(bY.toNat:Int)=y:=by rw[hby,BitVec.toNat_ofInt];omega
 have nd:(bd.toNat:Int)=d:=by rw[hbd,BitVec.toNat_ofInt];omega
 show Int.fdiv (IntKind.wrap .u32 (BitVec.ofInt 32 (IntKind.wrap .u32 (BitVec.ofInt 32 (IntKind.wrap .u32 (BitVec.ofInt 32 4294967295 ^^^ BitVec.ofInt 32 x).toNat) &&& BitVec.ofInt 32 y).toNat) |||
  BitVec.ofInt 32 (IntKind.wrap .u32 (BitVec.ofInt 32 (IntKind.wrap .u32 (BitVec.ofInt 32 4294967295 ^^^ BitVec.ofInt 32 (IntKind.wrap .u32 (BitVec.ofInt 32 x ^^^ BitVec.ofInt 32 y).toNat)).toNat) &&& BitVec.ofInt 32 d).toNat)).toNat) 2147483648=brw32 x y c
 rw[←hbx,←hby,←hbd]
 simp only[wrapB,ofB]
 rw[topB]
 simp only[BitVec.msb_or,BitVec.msb_and,BitVec.msb_xor]
 rw[show (BitVec.ofInt 32 4294967295).msb=true by decide]
 simp only[BitVec.msb_eq_decide]
 unfold brw32
 by_cases q1:2 ^ (32 - 1)≤bx.toNat <;> by_cases q2:2 ^ (32 - 1)≤bY.toNat <;> by_cases q3:2 ^ (32 - 1)≤bd.toNat <;> simp only[q1,q2,q3,decide_true,decide_false] <;> by_cases q4:x<y+c <;> simp only[q4,if_true,if_false] <;> (try rfl) <;> (exfalso;omega)
end Go.Ab
