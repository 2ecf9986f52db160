/- Abstract values and states for the functions of a translated program,and preconditions over them: functions,contracts,calls that are worked out. What is proved holds for every program,without conditions. -/
import Derived.Test.YteiolnofaebknaaAbB
import Derived.RangeFuncLeaves
import Derived.RangeFuncRecord
import Derived.RangeFuncCalls
import Derived.LoopNIn
import Derived.TacticsIn
import Derived.OrdersIn
set_option linter.unusedSimpArgs false
set_option linter.unusedVariables false
namespace Go.Ab
open Go.RowKit
structure Nm (f h:Nat→Option Nat) (E E':Em):Prop where
 G:E'.G=E.G
 b:∀ j i x,f j=some i→E.N i x→E'.N j x∧E'.κ j=E.κ i
 g:∀ j i t,h j=some i→E.γ i=some t→E'.γ j=some t
def LeD (f h:Nat→Option Nat) (d d':D):Prop:=∀ E E' u,Nm f h E E'→RD E d u→RD E' d' u
structure SimOK (base gbase:Nat) (f h:Nat→Option Nat) (ρ:Env) (st:St) (ρ':Env) (st':St):Prop where
 hb:base≤st'.box.length
 hg:gbase≤st'.grp.length
 box:∀ j i,f j=some i→∃ B B',st.box[i]? = some B∧st'.box[j]? = some B'∧B.fz=B.m∧B'.fz=B'.m∧(B'.m=B.m∧(B.m=true→B'.cells.length=B.cells.length))∧B'.e=B.e∧B'.ap=B.ap∧B'.cells.length≤B.cells.length ∧
  ∀ k,k<B'.cells.length→LeD f h (B.cells.getD k default) (B'.cells.getD k default)
 inj:∀ j j' i,f j=some i→f j'=some i→j=j'
 low:∀ j,j<base→f j=some j∨(f j=none∧∃ B',st'.box[j]? = some B'∧B'.fz=true∧B'.m=false)
 grp:∀ j i,h j=some i→∃ q,st.grp[i]? = some q∧st'.grp[j]? = some q
 ginj:∀ j j' i,h j=some i→h j'=some i→j=j'
 glow:∀ j,j<gbase→h j=some j
 env:∀ t,LeD f h (ρ.get t) (ρ'.get t)
def simE (base:Nat) (f h:Nat→Option Nat) (E:Em):Em:=
 ⟨E.G,fun j=>(f j).bind E.ι,fun g=>(h g).bind E.γ,fun j=>if j<base∧f j=none then (match E.ι j with | some b=>some b | none=>E.δ j) else none,
  fun j=>match f j with | some i=>E.κ i | none=>if j<base then E.κ j else none⟩
def Sim (base gbase:Nat) (ρ:Env) (st:St) (ρ':Env) (st':St):Prop:=
 ∀ (P:Program) (c:Ctx) (n:Nat) (E:Em) (a:Act) (w:World),(∀ i b,c.E0.N i b→i<base)→(∀ g t,c.E0.γ g=some t→g<gbase)→HR P c E st w→RE c E n ρ a →
  ∃ E',HR P c E' st' w∧RE c E' n ρ' a
theorem Sim.refl (base gbase:Nat) (ρ:Env) (st:St):Sim base gbase ρ st ρ st:=fun _ _ _ E _ _ _ _ hw ha=>⟨E,hw,ha⟩
theorem SimOK.at {base gbase:Nat} {f h:Nat→Option Nat} {ρ:Env} {st:St} {ρ':Env} {st':St} (hs:SimOK base gbase f h ρ st ρ' st') {P:Program} {c:Ctx} {E:Em} {w:World} (h0:∀ i b,c.E0.N i b→i<base) (h1:∀ g t,c.E0.γ g=some t→g<gbase) (hw:HR P c E st w) :
  HR P c (simE base f h E) st' w∧Nm f h E (simE base f h E):=by
 have hnm:Nm f h E (simE base f h E):=by
  refine ⟨rfl,fun j i x hj hN=>?_,fun j i t hj ht=>by simp only[simE,hj];exact ht⟩
  obtain ⟨B,B',q1,q2,q3,_⟩:=hs.box j i hj
  have:=hw.liveB hN q1 q3
  exact ⟨.inl (by simp only[simE,hj];exact this),by simp only[simE,hj]⟩
 have low:∀ i b,i<base→E.N i b→(simE base f h E).N i b∧(simE base f h E).κ i=E.κ i:=fun i b hlt h=>by
  rcases hs.low i hlt with hf | ⟨hf,_⟩
  ·exact hnm.b i i b hf h
  ·refine ⟨.inr ?_,by simp only[simE,hf,if_pos hlt]⟩
   simp only[simE,hf,hlt,and_self,if_true]
   rcases h with h | h
   ·rw[h]
   ·cases hι:E.ι i with
    | none=>exact h
    | some b'=>
     obtain ⟨B,vs,k1,k2,k3,k4,k5,k6,k7⟩:=hw.box i b' hι
     obtain ⟨B2,l1,l2⟩:=hw.dead i b h
     rw[k1]at l1
     have:=k6.1
     rw[Option.some.inj l1,l2.1,l2.2]at this;cases this
 have oldι:∀ {j b},(simE base f h E).ι j=some b→∃ i,f j=some i∧E.ι i=some b:=fun {j b} hj=>Option.bind_eq_some_iff.1 hj
 have oldγ:∀ {g t},(simE base f h E).γ g=some t→∃ g',h g=some g'∧E.γ g'=some t:=fun {g t} hj=>Option.bind_eq_some_iff.1 hj
 refine ⟨⟨hw.os,hw.tape,hw.output,hw.size,hw.old,⟨hw.le.G,fun i b hN=>(low i b (h0 i b hN) (hw.le.ι i b hN)).1,fun i b hN=>(low i b (h0 i b hN) (hw.le.ι i b hN)).2.trans (hw.le.κ i b hN),fun g b cap cur hg=>?_⟩,hw.gnew,hw.gok,
  fun j b hj=>?_,fun j j' b hj hj'=>?_,fun g b cap cur hg=>?_,fun g g' b cap cur cap' cur' hg hg'=>?_,fun j g b cap cur hj hg=>?_,fun j b hj=>?_,fun j c0 hj=>?_⟩,hnm⟩
 ·obtain ⟨b',cap',cur',k1,k2⟩:=hw.le.γ g b cap cur hg
  exact ⟨b',cap',cur',hnm.g g g _ (hs.glow g (h1 g _ hg)) k1,k2⟩
 ·obtain ⟨i,ho,hi⟩:=oldι hj
  obtain ⟨B,B',p1,p2,p3,p4,pm,p5,p6,p7,p8⟩:=hs.box j i ho
  obtain ⟨B0,vs,q1,q2,q3,q4,q5,q6,q7⟩:=hw.box i b hi
  rw[p1]at q1
  obtain rfl:=Option.some.inj q1
  refine ⟨B',vs,p2,by rw[objOf_congr vs pm.1 p5 pm.2];exact q2,by omega,fun k hk=>⟨p8 k hk E _ _ hnm (q4 k (by omega)).1,(q4 k (by omega)).2⟩,q5,⟨p4,?_⟩,q7⟩
  have hκ:(simE base f h E).κ j=E.κ i:=by simp only[simE,ho]
  rw[hκ]
  exact ⟨p6.trans q6.2.1,by rw[p5];exact q6.2.2⟩
 ·obtain ⟨i,ho,hi⟩:=oldι hj
  obtain ⟨i',ho',hi'⟩:=oldι hj'
  obtain rfl:=hw.inj i i' b hi hi'
  exact hs.inj j j' i ho ho'
 ·obtain ⟨g0,ho,hi⟩:=oldγ hg
  obtain ⟨e,vs,inf,q1,q2⟩:=hw.grp g0 b cap cur hi
  obtain ⟨q,k1,k2⟩:=hs.grp g g0 ho
  rw[k1]at q1
  obtain rfl:=Option.some.inj q1
  exact ⟨e,vs,inf,k2,q2⟩
 ·obtain ⟨i,ho,hi⟩:=oldγ hg
  obtain ⟨i',ho',hi'⟩:=oldγ hg'
  obtain rfl:=hw.ginj i i' b _ _ _ _ hi hi'
  exact hs.ginj g g' i ho ho'
 ·obtain ⟨i,ho,hi⟩:=oldι hj
  obtain ⟨i',ho',hi'⟩:=oldγ hg
  exact hw.apart i i' b cap cur hi hi'
 ·have hj:(if j<base∧f j=none then (match E.ι j with | some b=>some b | none=>E.δ j) else none)=some b:=hj
  split at hj
  ·rename_i hlt
   rcases hs.low j hlt.1 with hf | ⟨_,B',k1,k2⟩
   ·rw[hlt.2]at hf;cases hf
   ·exact ⟨B',k1,k2⟩
  ·cases hj
 ·cases hf:f j with
  | some i=>
   have hκ:(simE base f h E).κ j=E.κ i:=by simp only[simE,hf]
   rw[hκ]at hj
   obtain ⟨b,hb⟩:=hw.kap i c0 hj
   exact ⟨b,(hnm.b j i b hf hb).1⟩
  | none=>
   have hκ:(simE base f h E).κ j=if j<base then E.κ j else none:=by simp only[simE,hf]
   rw[hκ]at hj
   split at hj
   ·rename_i hlt
    obtain ⟨b,hb⟩:=hw.kap j c0 hj
    exact ⟨b,(low j b hlt hb).1⟩
   ·cases hj
theorem SimOK.sim {base gbase:Nat} {f h:Nat→Option Nat} {ρ:Env} {st:St} {ρ':Env} {st':St} (hs:SimOK base gbase f h ρ st ρ' st'):Sim base gbase ρ st ρ' st':=by
 intro P c n E a w h0 h1 hw ha
 obtain ⟨h2,h3⟩:=hs.at h0 h1 hw
 exact ⟨_,h2,ha.1,ha.2.1,fun t=>hs.env t E _ _ h3 (ha.2.2 t)⟩
end Go.Ab
namespace Go.Ab
open Go.RowKit
def FR (r:Option Nat):Fence:={ Fence.wide with round:=r }
def isDefer:Op→Bool
 | .defer _=>true
 | _=>false
def noDef (ops:List Oper):Bool:=match ops with
 | []=>true
 | o :: r=>!isDefer o.op && noDef r
theorem noDef_mem:∀ {ops:List Oper},noDef ops=true→∀ o∈ops,∀ c,o.op≠.defer c
 | [],_,o,h,_=>by simp at h
 | x :: r,h,o,ho,c=>by
  simp only[noDef,Bool.and_eq_true,Bool.not_eq_true']at h
  rcases List.mem_cons.1 ho with rfl | ho
  ·intro e;rw[e]at h;simp[isDefer]at h
  ·exact noDef_mem h.2 o ho c
section
variable {P:Program} {r:Option Nat} {n:Nat} {ops:Array Oper} {Q:Exit→Act→World→Prop}
theorem callsIn_FR {f:FuncId} {args:Array Value} {w:World} {R:Ending→World→Prop}:CallsIn (FR r) n P f args w R↔Calls P f args w R:=by
 cases r with
 | none=>exact callsIn_wide
 | some l=>exact callsIn_wide (n:=n)
theorem rowsIn_FR {row:String} {args:Array Value} {w:World} {R:Value→World→Prop} (h:Rows P row args w R):RowsIn (FR r) n P row args w R:=by
 intro c cs _
 obtain ⟨v,w',h1,h2⟩:=h c cs
 refine ⟨v,w',h1,?_⟩
 have:=stepsIn_wide.2 h2
 cases r <;> exact this
theorem op_in {o:Oper} (ho:∀ c,o.op≠.defer c) {a:Act} {w:World} {K:Act→World→Prop} (h:o.wp P a w K Q):o.wpIn (FR r) n P a w K Q:=by
 refine ⟨fun _ _=>trivial,?_⟩
 unfold Oper.wp at h
 rw[Oper.semAt_eq _ _ _ ho]
 generalize (execOp a.eval o).run P w=x at *
 cases x with
 | ok y w'=>
  cases y <;> simp only[Oper.upon,Oper.uponIn]at h ⊢ <;> first
   | exact h
   | exact ⟨fun h=>by simp[FR,Fence.wide]at h,callsIn_FR.2 h⟩
   | exact ⟨fun h=>by simp[FR,Fence.wide]at h,rowsIn_FR h⟩
   | exact h.elim
 | halt y w'=>cases y <;> simp only[Oper.upon,Oper.uponIn]at h ⊢ <;> exact h
theorem list_in (hQ:¬ LetsOut Q):∀ (l:List Oper) (a:Act) (w:World),noDef l=true→wpList P ops Q l a w→wpListIn (FR r) n P ops Q l a w
 | [],_,_,_,h=>h
 | o :: l,a,w,hd,h=>by
  simp only[noDef,Bool.and_eq_true,Bool.not_eq_true']at hd
  have ho:∀ c,o.op≠.defer c:=fun c e=>by rw[e]at hd;simp[isDefer]at hd
  unfold wpList at h
  unfold wpListIn
  split
  ·rename_i hw
   rw[if_pos hw]at h
   rcases h with h | h
   ·exact op_in ho (Oper.wp_mono (fun a w h=>list_in hQ l a w hd.2 h) h)
   ·exact absurd h.2 hQ
  ·rename_i hw
   rw[if_neg hw]at h
   exact ⟨fun _ _=>trivial,list_in hQ l _ w hd.2 h⟩
theorem wpOp_in (hQ:¬ LetsOut Q) (hd:noDef ops.toList=true) {i:Nat} {a:Act} {w:World} {K K':Act→World→Prop} (hK:∀ a w,K a w→K' a w) (h:Go.wpOp P ops Q i K a w):wpOpIn (FR r) n P ops Q i K' a w:=by
 unfold Go.wpOp at h
 unfold wpOpIn
 split
 ·rename_i ho;rw[ho]at h;exact hK _ _ h
 ·rename_i o ho
  rw[ho]at h
  have hm:o∈ops.toList:=by
   obtain ⟨hi,e⟩:=Array.getElem?_eq_some_iff.1 ho
   rw[←e];simp
  dsimp only at h ⊢
  split
  ·rename_i hw
   rw[if_pos hw]at h
   rcases h with h | h
   ·exact op_in (noDef_mem hd o hm) (Oper.wp_mono hK h)
   ·exact absurd h.2 hQ
  ·rename_i hw
   rw[if_neg hw]at h
   exact ⟨fun _ _=>trivial,hK _ _ h⟩
theorem any_in (hQ:¬ LetsOut Q) (hd:noDef ops.toList=true):∀ (k:Nat) (listed:Array Bool) (a:Act) (w:World),wpAny P .any ops Q k listed a w→wpAnyIn (FR r) n P .any ops Q k listed a w
 | 0,_,_,_,h=>h
 | k+1,listed,a,w,h=>⟨h.1,fun i hi=>wpOp_in hQ hd (fun a w h=>any_in hQ hd k _ a w h) (h.2 i hi)⟩
theorem wpIn_scope_straight {F:Fence} {c:Code} {a:Act} {w:World} (h:c.wpIn F n P (Exit.noGoto Q) a w):(Code.scope c).wpIn F n P Q a w:=by
 intro b k cs hro hb hr
 have s1:step P (lone (b.atR a (.code (.scope c) :: k)) cs w)=.next (lone (b.atR a (.code c :: .inScope c :: k)) cs w):=step_lone_go (by simp[stepG,stepG.exec,Frame.atR])
 have s2:∀ a w,step P (lone (b.atR a (.inScope c :: k)) cs w)=.next (lone (b.atR a k) cs w):=fun a w=>step_lone_go (by simp[stepG,stepG.exec,Frame.atR])
 have h0:(lone (b.atR a (.code (.scope c) :: k)) cs w).fenced P F:=fenced_calm hb hr rfl
 obtain ⟨e,a₁,w₁,hq,harr⟩:=h b (.inScope c :: k) cs hro hb hr
 cases e with
 | normal=>exact ⟨.normal,a₁,w₁,hq,.head h0 s1 (StepsIn.trans harr (.one (fenced_calm hb hr rfl) (s2 _ _)))⟩
 | exit id=>
  have hx:exitTo id (.inScope c :: k)=exitTo id k:=by simp[exitTo]
  exact ⟨.exit id,a₁,w₁,hq,fun k' hk=>.head h0 s1 (harr.1 k' (by rw[hx];exact hk)),fun hr' hk=>let ⟨k₁,h1,h2⟩:=harr.2 hr' (by rw[hx];exact hk);⟨k₁,h1,.head h0 s1 h2⟩⟩
 | goto l=>exact hq.elim
 | ret=>exact ⟨_,a₁,w₁,hq,.of_steps (.one h0 s1) harr⟩
 | panic ch=>exact ⟨_,a₁,w₁,hq,.of_steps (.one h0 s1) harr⟩
 | outgrown=>exact ⟨_,a₁,w₁,hq,.of_steps (.one h0 s1) harr⟩
end
end Go.Ab
namespace Go.Ab
open Go.RowKit
def CMono (C:CallW):Prop:=∀ f args st (K K':D→St→Prop),(∀ d st,K d st→K' d st)→C f args st K→C f args st K'
theorem CW.cmono {P:Program} {c:Ctx} {T:Nat→Prop}:CMono (CW P c T):=fun _ _ _ _ _ hK h=>
 ⟨h.1,fun E w vs hw hgl hs hR=>(h.2 E w vs hw hgl hs hR).mono fun _ _ ⟨v,E',d,st',h1,h2,h3,h4,h5,h6⟩=>⟨v,E',d,st',h1,h2,h3,h4,h5,hK _ _ h6⟩⟩
theorem CP.cmono {P:Program}:CMono (CP P):=fun _ _ _ _ _ hK ⟨x,h1,h2⟩=>⟨x,h1,hK _ _ h2⟩
theorem CT.cmono {P:Program} {pl:List Nat}:CMono (CT P pl):=fun _ _ _ _ _ hK h=>h.imp (CP.cmono _ _ _ _ _ hK) fun ⟨T,h1,h2⟩=>⟨T,h1,fun c=>CW.cmono _ _ _ _ _ hK (h2 c)⟩
theorem CB.cmono {P:Program}:CMono (CB P):=fun _ _ _ _ _ hK h=>h.imp (CP.cmono _ _ _ _ _ hK) fun ⟨n,B,h1,h2⟩=>⟨n,B,h1,hK _ _ h2⟩
theorem CPo.cmono {P:Program}:∀ o,CMono (CPo P o)
 | none=>CB.cmono
 | some _=>CT.cmono
theorem sBin_mono {op:BinOp} {x y:Value} {K K':Value→Prop} (hK:∀ v,K v→K' v) (h:sBin op x y K):sBin op x y K':=by
 unfold sBin at h ⊢
 split at h
 ·split at h <;> first | exact ⟨h.1,hK _ h.2⟩ | exact ⟨h.1,h.2.1,hK _ h.2.2⟩
 ·exact h.elim
theorem mapBox_imp {st:St} {kk vv:Nat} {d:D} {F F':Nat→Box→Prop} (hF:∀ i B,F i B→F' i B) (h:mapBox st kk vv d F):mapBox st kk vv d F':=mapBox_mono h (fun _ _ h=>h) hF
theorem wpM_mono {ρ:Env} {st:St} {K K':D→St→Prop} (hK:∀ d st,K d st→K' d st) {m:MOp} (h:wpM ρ st K m):wpM ρ st K' m:=by
 cases m with
 | mk kk vv=>exact ⟨h.1,hK _ _ h.2⟩
 | ldF size k esz i x=>
  simp only[wpM]at h ⊢
  split at h
  ·split at h
   ·obtain ⟨h1,h2,h3,h4,h5,h⟩:=h
    refine ⟨h1,h2,h3,h4,h5,?_⟩
    split at h
    ·obtain ⟨h6,h7,h8,h⟩:=h
     refine ⟨h6,h7,h8,?_⟩
     split at h
     ·exact hK _ _ h
     ·exact h.elim
    ·exact h.elim
   ·exact h.elim
  ·exact h.elim
 | lit0 e=>exact hK _ _ h
 | apn e size bytes s x=>
  simp only[wpM]at h ⊢
  split at h
  ·obtain ⟨h1,h2,h3,h⟩:=h
   refine ⟨h1,h2,h3,?_⟩
   split
   ·rename_i h0;rw[if_pos h0]at h;exact hK _ _ h
   ·rename_i h0;rw[if_neg h0]at h;exact hK _ _ h
  ·exact h.elim
 | apz e size bytes zero s x=>
  simp only[wpM]at h ⊢
  split at h
  ·obtain ⟨h1,h2,h3,h⟩:=h
   refine ⟨h1,h2,h3,?_⟩
   split
   ·rename_i h0;rw[if_pos h0]at h;exact hK _ _ h
   ·rename_i h0;rw[if_neg h0]at h;exact hK _ _ h
  ·exact h.elim
 | apf e size bytes s x=>
  simp only[wpM]at h ⊢
  split at h
  ·obtain ⟨h1,h2,h3,h⟩:=h
   exact ⟨h1,h2,h3,hK _ _ h⟩
  ·exact h.elim
 | capN x=>
  simp only[wpM]at h ⊢
  split at h
  ·exact hK _ _ h
  ·exact h.elim
 | frz size x=>
  simp only[wpM]at h ⊢
  split at h
  ·split at h
   ·obtain ⟨h1,h2,h⟩:=h
    refine ⟨h1,h2,?_⟩
    split at h
    ·exact hK _ _ h
    ·exact h.elim
   ·exact h.elim
  ·exact h.elim
 | eqN neg x y=>
  simp only[wpM]at h ⊢
  split at h
  ·exact hK _ _ h
  ·exact hK _ _ h
  ·exact h.elim
 | len kk vv x=>
  simp only[wpM]at h ⊢
  split at h
  ·exact hK _ _ h
  ·exact mapBox_imp (fun _ _ h=>hK _ _ h) h
 | rng kk vv x=>
  simp only[wpM]at h ⊢
  split at h
  ·exact hK _ _ h
  ·refine mapBox_imp (fun _ B h=>?_) h
   split at h
   ·exact hK _ _ h
   ·exact h.elim
 | look ok V z x y=>
  simp only[wpM]at h ⊢
  split at h
  ·split at h
   ·exact hK _ _ h
   ·refine mapBox_imp (fun _ B h=>?_) h
    split at h
    ·exact ⟨h.1,hK _ _ h.2⟩
    ·exact hK _ _ h
    ·exact h.elim
  ·exact h.elim
 | upd V x y z=>
  simp only[wpM]at h ⊢
  split at h
  ·refine mapBox_imp (fun _ B h=>?_) h
   refine ⟨h.1,h.2.1,h.2.2.1,h.2.2.2.1,?_⟩
   have h:=h.2.2.2.2
   split at h
   ·exact hK _ _ h
   ·split at h
    ·exact hK _ _ h
    ·exact h.elim
   ·exact h.elim
  ·exact h.elim
 | del V x y=>
  simp only[wpM]at h ⊢
  split at h
  ·refine mapBox_imp (fun _ B h=>?_) h
   refine ⟨h.1,?_⟩
   have h:=h.2
   split at h
   ·exact hK _ _ h
   ·exact hK _ _ h
   ·exact h.elim
  ·exact h.elim
 | nxt kk vv x=>
  simp only[wpM]at h ⊢
  split at h
  ·split at h
   ·refine ⟨h.1,h.2.1,h.2.2.1,?_⟩
    have h:=h.2.2.2
    split at h
    ·exact hK _ _ h
    ·refine mapBox_imp (fun _ B h=>?_) h
     split at h
     ·exact ⟨h.1,h.2.1,h.2.2.1,fun e=>hK _ _ (h.2.2.2.1 e),fun q hq e=>hK _ _ (h.2.2.2.2 q hq e)⟩
     ·exact h.elim
    ·exact h.elim
   ·exact h.elim
  ·exact h.elim
 | ent kk vv x=>
  simp only[wpM]at h ⊢
  split at h
  ·split at h
   ·refine ⟨h.1,h.2.1,h.2.2.1,?_⟩
    have h:=h.2.2.2
    split at h
    ·refine mapBox_imp (fun _ B h=>?_) h
     split at h
     ·refine ⟨h.1,?_⟩
      have h:=h.2
      split at h
      ·split at h
       ·exact hK _ _ h
       ·exact h.elim
      ·exact h.elim
     ·exact h.elim
    ·exact h.elim
   ·exact h.elim
  ·exact h.elim
theorem wpOp_mono {C:CallW} (hC:CMono C) {ρ:Env} {st:St} {K K':D→St→Prop} (hK:∀ d st,K d st→K' d st) {op:AOp} (h:wpOp C ρ st K op):wpOp C ρ st K' op:=by
 cases op with
 | call f args=>exact hC _ _ _ _ _ hK h
 | callv x args=>
  simp only[wpOp]at h ⊢
  split at h
  ·exact hC _ _ _ _ _ hK h
  ·exact h.elim
 | invk tbl x args=>
  simp only[wpOp]at h ⊢
  split at h
  ·split at h
   ·exact hC _ _ _ _ _ hK h
   ·split at h
    ·split at h
     ·obtain ⟨h1,d',h2,h3⟩:=h
      exact ⟨h1,d',h2,hC _ _ _ _ _ hK h3⟩
     ·exact h.elim
    ·exact h.elim
   ·exact h.elim
  ·exact h.elim
 | bin op x y=>
  simp only[wpOp]at h ⊢
  split at h
  ·exact sBin_mono (fun _ h=>hK _ _ h) h
  ·exact h.elim
 | mv x=>exact hK _ _ h
 | mop m=>exact wpM_mono hK h
 | alloc e z=>exact hK _ _ h
 | allocL e z=>exact hK _ _ h
 | mkfn f a b=>exact hK _ _ h
 | mkifc t x=>exact hK _ _ h
 | box e x=>exact ⟨h.1,hK _ _ h.2⟩
 | _=>
  simp only[wpOp]at h ⊢
  (repeat' split at h) <;> first | exact h.elim | (simp only[*]at *;done) | grind
theorem wpR_mono {C:CallW} (hC:CMono C) {K K':Env→St→Prop} (hK:∀ ρ st,K ρ st→K' ρ st):∀ (l:List AO) (ρ:Env) (st:St),wpR C K l ρ st→wpR C K' l ρ st
 | [],_,_,h=>hK _ _ h
 | ⟨none,_,_⟩ :: r,_,_,h=>wpOp_mono hC (fun _ _ h=>wpR_mono hC hK r _ _ h) h
 | ⟨some (_,_),_,_⟩ :: r,_,_,h=>by
  simp only[wpR]at h ⊢
  split at h
  ·rename_i hb
   try simp only[hb]
   exact ⟨fun e=>wpOp_mono hC (fun _ _ h=>wpR_mono hC hK r _ _ h) (h.1 e),fun e=>wpR_mono hC hK r _ _ (h.2 e)⟩
  ·rename_i hb
   try simp only[hb]
   exact wpR_mono hC hK r _ _ h
  ·exact h.elim
theorem wpD_mono {C:List Nat→CallW} (hC:∀ pl,CMono (C pl)) {K K':Env→St→Prop} (hK:∀ ρ st,K ρ st→K' ρ st):∀ (l:List AO) (pl:List Nat) (is:List (Nat×Nat)) (ρ:Env) (st:St),wpD C K pl is l ρ st→wpD C K' pl is l ρ st
 | [],_,_,_,_,h=>hK _ _ h
 | ⟨none,_,_⟩ :: r,_,_,_,_,h=>⟨h.1,wpOp_mono (hC _) (fun _ _ h=>wpD_mono hC hK r _ _ _ _ h) h.2⟩
 | ⟨some (_,_),_,_⟩ :: r,_,_,_,_,h=>by
  simp only[wpD]at h ⊢
  split at h
  ·rename_i hb
   try simp only[hb]
   exact ⟨fun e=>⟨(h.1 e).1,wpOp_mono (hC _) (fun _ _ h=>wpD_mono hC hK r _ _ _ _ h) (h.1 e).2⟩,fun e=>wpD_mono hC hK r _ _ _ _ (h.2 e)⟩
  ·rename_i hb
   try simp only[hb]
   exact wpD_mono hC hK r _ _ _ _ h
  ·exact h.elim
theorem wpDs_mono {C:CallW} {C':CallO} (hC:CMono C) (hC':∀ o,CMono (C' o)) {K K':Env→St→Prop} (hK:∀ ρ st,K ρ st→K' ρ st):∀ (l:List Seg) (ρ:Env) (st:St),wpDs C C' K l ρ st→wpDs C C' K' l ρ st
 | [],_,_,h=>hK _ _ h
 | (true,_,l) :: r,ρ,st,h=>wpR_mono hC (fun ρ st h=>wpDs_mono hC hC' hK r ρ st h) l ρ st h
 | (false,is,l) :: r,ρ,st,h=>wpD_mono (fun _=>hC' _) (fun ρ st h=>wpDs_mono hC hC' hK r ρ st h) l [] is ρ st h
section
variable {C D:CallW}
theorem wpOp_call (hC:∀ f ds st K,C f ds st K→D f ds st K) {ρ:Env} {st:St} {K:Ab.D→St→Prop} {op:AOp} (h:wpOp C ρ st K op):wpOp D ρ st K op:=by
 cases op <;> first | exact h | skip
 case call f args=>exact hC _ _ _ _ h
 case callv x args=>
  simp only[wpOp]at h ⊢
  split at h
  ·exact hC _ _ _ _ h
  ·exact h.elim
 case invk tbl x args=>
  simp only[wpOp]at h ⊢
  split at h
  ·split at h
   ·exact hC _ _ _ _ h
   ·split at h
    ·split at h
     ·obtain ⟨h1,d',h2,h3⟩:=h
      exact ⟨h1,d',h2,hC _ _ _ _ h3⟩
     ·exact h.elim
    ·exact h.elim
   ·exact h.elim
  ·exact h.elim
theorem wpR_call (hC:∀ f ds st K,C f ds st K→D f ds st K) (hm:CMono D) {K K':Env→St→Prop} (hK:∀ ρ st,K ρ st→K' ρ st):∀ (l:List AO) (ρ:Env) (st:St),wpR C K l ρ st→wpR D K' l ρ st
 | [],_,_,h=>hK _ _ h
 | ⟨none,_,_⟩ :: r,_,_,h=>wpOp_mono hm (fun _ _ h=>wpR_call hC hm hK r _ _ h) (wpOp_call hC h)
 | ⟨some (_,_),_,_⟩ :: r,_,_,h=>by
  simp only[wpR]at h ⊢
  split at h
  ·rename_i hb
   try simp only[hb]
   exact ⟨fun e=>wpOp_mono hm (fun _ _ h=>wpR_call hC hm hK r _ _ h) (wpOp_call hC (h.1 e)),fun e=>wpR_call hC hm hK r _ _ (h.2 e)⟩
  ·rename_i hb
   try simp only[hb]
   exact wpR_call hC hm hK r _ _ h
  ·exact h.elim
theorem wpD_call {C D:List Nat→CallW} (hC:∀ pl f ds st K,C pl f ds st K→D pl f ds st K) (hm:∀ pl,CMono (D pl)) {K K':Env→St→Prop} (hK:∀ ρ st,K ρ st→K' ρ st):∀ (l:List AO) (pl:List Nat) (is:List (Nat×Nat)) (ρ:Env) (st:St),wpD C K pl is l ρ st→wpD D K' pl is l ρ st
 | [],_,_,_,_,h=>hK _ _ h
 | ⟨none,_,_⟩ :: r,_,_,_,_,h=>⟨h.1,wpOp_mono (hm _) (fun _ _ h=>wpD_call hC hm hK r _ _ _ _ h) (wpOp_call (hC _) h.2)⟩
 | ⟨some (_,_),_,_⟩ :: r,_,_,_,_,h=>by
  simp only[wpD]at h ⊢
  split at h
  ·rename_i hb
   try simp only[hb]
   exact ⟨fun e=>⟨(h.1 e).1,wpOp_mono (hm _) (fun _ _ h=>wpD_call hC hm hK r _ _ _ _ h) (wpOp_call (hC _) (h.1 e).2)⟩,fun e=>wpD_call hC hm hK r _ _ _ _ (h.2 e)⟩
  ·rename_i hb
   try simp only[hb]
   exact wpD_call hC hm hK r _ _ _ _ h
  ·exact h.elim
theorem wpDs_call {C' D':CallO} (hC:∀ f ds st K,C f ds st K→D f ds st K) (hm:CMono D) (hC':∀ o f ds st K,C' o f ds st K→D' o f ds st K) (hm':∀ o,CMono (D' o)) {K K':Env→St→Prop} (hK:∀ ρ st,K ρ st→K' ρ st) :
  ∀ (l:List Seg) (ρ:Env) (st:St),wpDs C C' K l ρ st→wpDs D D' K' l ρ st
 | [],_,_,h=>hK _ _ h
 | (true,_,l) :: r,ρ,st,h=>wpR_call hC hm (fun ρ st h=>wpDs_call hC hm hC' hm' hK r ρ st h) l ρ st h
 | (false,is,l) :: r,ρ,st,h=>wpD_call (fun _=>hC' _) (fun _=>hm' _) (fun ρ st h=>wpDs_call hC hm hC' hm' hK r ρ st h) l [] is ρ st h
end
end Go.Ab
namespace Go.Ab
open Go.RowKit
inductive AC where
 | rg (l:List AO)
 | dr (segs:List Seg)
 | seq (a b:AC)
 | cond (c:Operand) (a b:AC)
 | blk (id:Nat) (a:AC)
 | loop (q:Option (Nat×Nat)) (keep:List Nat) (a:AC)
 | exit (id:Nat)
 | ret
 | skip
 | dead
 | rf (x:Operand) (ps:List Nat) (gf nt:Nat) (it as bd:AC)
 | iy (k:Nat) (l:List AO) (t:Operand) (a b:AC)
def argsEnv:Nat→List D→Env
 | _,[]=>[]
 | i,d :: r=>(i,d) :: argsEnv (i+1) r
abbrev Hdl:=Nat→List D→St→(St→Prop)→(Option Nat→St→Prop)→Prop
def noH:Hdl:=fun _ _ _ _ _=>False
structure ALLY (p:Nat→Prop):Prop where
 h:∀ l,p l
def roundQ (Kt:St→Prop) (Kf:Option Nat→St→Prop):Ax→Env→St→Prop
 | .n,_,st=>Kt st
 | .x id,_,st=>Kf (some id) st
 | .r,_,st=>Kf none st
 | .jmp _,_,_=>False
def iterQ (Q:Ax→Env→St→Prop) (ρ:Env):Ax→Env→St→Prop
 | .n,_,st=>Q .n ρ st
 | .r,_,st=>Q .n ρ st
 | .x _,_,_=>False
 | .jmp none,_,st=>Q .r ρ st
 | .jmp (some id),_,st=>Q (.x id) ρ st
def bindPs:List Nat→List D→Env→Env
 | p :: ps,d :: ds,ρ=>bindPs ps ds ((p,d) :: ρ)
 | _,_,ρ=>ρ
def isRet:AC→Bool
 | .ret=>true
 | _=>false
def rfFree:AC→Bool
 | .seq a b=>rfFree a && rfFree b
 | .cond _ a b=>rfFree a && rfFree b
 | .blk _ a=>rfFree a
 | .loop _ _ a=>rfFree a
 | .rf ..=>false
 | .iy _ _ _ a b=>rfFree a && rfFree b
 | _=>true
def SimQ (q:Option (Nat×Nat)) (ρ:Env) (st:St) (ρ':Env) (st':St):Prop:=match q with
 | none=>Sim st.box.length st.grp.length ρ st ρ' st'
 | some (b,g)=>Sim b g ρ st ρ' st'
theorem SimQ.refl (q:Option (Nat×Nat)) (ρ:Env) (st:St):SimQ q ρ st ρ st:=by
 cases q with
 | none=>exact Sim.refl _ _ _ _
 | some p=>exact Sim.refl _ _ _ _
def LoopN (body:(Ax→Env→St→Prop)→Env→St→Prop) (q:Option (Nat×Nat)) (keep:List Nat) (Q:Ax→Env→St→Prop):Nat→Env→St→Prop
 | 0,_,_=>False
 | k+1,ρ,st=>∃ ρ1 st1,SimQ q ρ st ρ1 st1∧body (Ax.thn (fun ρ' st'=>LoopN body q keep Q k (ρ'.keep keep) st') Q) ρ1 st1
def gcFree:AC→Bool
 | .seq a b=>gcFree a && gcFree b
 | .cond _ a b=>gcFree a && gcFree b
 | .blk _ a=>gcFree a
 | .loop q a b=>q.isNone && gcFree b
 | .rf _ _ _ _ it as bd=>gcFree it && gcFree as && gcFree bd
 | .iy _ _ _ a b=>gcFree a && gcFree b
 | _=>true
def gcBase (b g:Nat):AC→Bool
 | .seq x y=>gcBase b g x && gcBase b g y
 | .cond _ x y=>gcBase b g x && gcBase b g y
 | .blk _ x=>gcBase b g x
 | .loop (some (b',g')) _ x=>Nat.ble b b' && Nat.ble g g' && gcBase b g x
 | .loop none _ x=>gcBase b g x
 | .rf _ _ _ _ it as bd=>gcBase b g it && gcBase b g as && gcBase b g bd
 | .iy _ _ _ x y=>gcBase b g x && gcBase b g y
 | _=>true
def GcOK (c:Ctx):AC→Prop
 | .seq a b=>GcOK c a∧GcOK c b
 | .cond _ a b=>GcOK c a∧GcOK c b
 | .blk _ a=>GcOK c a
 | .loop q _ a=>(∀ b g,q=some (b,g)→(∀ i x,c.E0.N i x→i<b)∧∀ j t,c.E0.γ j=some t→j<g)∧GcOK c a
 | .rf _ _ _ _ it as bd=>GcOK c it∧GcOK c as∧GcOK c bd
 | .iy _ _ _ a b=>GcOK c a∧GcOK c b
 | _=>True
theorem GcOK.of {c:Ctx} {b g:Nat} (h0:∀ i x,c.E0.N i x→i<b) (h1:∀ j t,c.E0.γ j=some t→j<g):∀ {ac:AC},gcBase b g ac=true→GcOK c ac
 | .seq x y,h=>by simp only[gcBase,Bool.and_eq_true]at h;exact ⟨GcOK.of h0 h1 h.1,GcOK.of h0 h1 h.2⟩
 | .cond _ x y,h=>by simp only[gcBase,Bool.and_eq_true]at h;exact ⟨GcOK.of h0 h1 h.1,GcOK.of h0 h1 h.2⟩
 | .blk _ x,h=>GcOK.of (ac:=x) h0 h1 h
 | .loop none _ x,h=>⟨fun _ _ e=>(by cases e),GcOK.of (ac:=x) h0 h1 h⟩
 | .rf _ _ _ _ it as bd,h=>by simp only[gcBase,Bool.and_eq_true]at h;exact ⟨GcOK.of h0 h1 h.1.1,GcOK.of h0 h1 h.1.2,GcOK.of h0 h1 h.2⟩
 | .iy _ _ _ x y,h=>by simp only[gcBase,Bool.and_eq_true]at h;exact ⟨GcOK.of h0 h1 h.1,GcOK.of h0 h1 h.2⟩
 | .loop (some (b',g')) _ x,h=>by
  simp only[gcBase,Bool.and_eq_true,Nat.ble_eq]at h
  refine ⟨fun _ _ e=>?_,GcOK.of (ac:=x) h0 h1 h.2⟩
  cases e
  exact ⟨fun i x hx=>by have:=h0 i x hx;omega,fun j t ht=>by have:=h1 j t ht;omega⟩
 | .rg _,_=>trivial
 | .dr _,_=>trivial
 | .exit _,_=>trivial
 | .ret,_=>trivial
 | .skip,_=>trivial
 | .dead,_=>trivial
theorem GcOK.free {c:Ctx}:∀ {ac:AC},gcFree ac=true→GcOK c ac
 | .seq x y,h=>by simp only[gcFree,Bool.and_eq_true]at h;exact ⟨GcOK.free h.1,GcOK.free h.2⟩
 | .cond _ x y,h=>by simp only[gcFree,Bool.and_eq_true]at h;exact ⟨GcOK.free h.1,GcOK.free h.2⟩
 | .blk _ x,h=>GcOK.free (ac:=x) h
 | .loop none _ x,h=>⟨fun _ _ e=>(by cases e),GcOK.free (ac:=x) (by simpa [gcFree] using h)⟩
 | .rf _ _ _ _ it as bd,h=>by simp only[gcFree,Bool.and_eq_true]at h;exact ⟨GcOK.free h.1.1,GcOK.free h.1.2,GcOK.free h.2⟩
 | .iy _ _ _ x y,h=>by simp only[gcFree,Bool.and_eq_true]at h;exact ⟨GcOK.free h.1,GcOK.free h.2⟩
 | .loop (some _) _ x,h=>by simp[gcFree]at h
 | .rg _,_=>trivial
 | .dr _,_=>trivial
 | .exit _,_=>trivial
 | .ret,_=>trivial
 | .skip,_=>trivial
 | .dead,_=>trivial
theorem GcOK.none {c:Ctx} (h0:∀ i x,¬ c.E0.N i x) (h1:∀ j t,c.E0.γ j≠some t):∀ (ac:AC),GcOK c ac
 | .seq x y=>⟨GcOK.none h0 h1 x,GcOK.none h0 h1 y⟩
 | .cond _ x y=>⟨GcOK.none h0 h1 x,GcOK.none h0 h1 y⟩
 | .blk _ x=>GcOK.none h0 h1 x
 | .loop _ _ x=>⟨fun _ _ _=>⟨fun i x hx=>absurd hx (h0 i x),fun j t ht=>absurd ht (h1 j t)⟩,GcOK.none h0 h1 x⟩
 | .rf _ _ _ _ it as bd=>⟨GcOK.none h0 h1 it,GcOK.none h0 h1 as,GcOK.none h0 h1 bd⟩
 | .iy _ _ _ x y=>⟨GcOK.none h0 h1 x,GcOK.none h0 h1 y⟩
 | .rg _=>trivial
 | .dr _=>trivial
 | .exit _=>trivial
 | .ret=>trivial
 | .skip=>trivial
 | .dead=>trivial
def wpYc (C:CallW) (Y:Hdl) (K:Env→St→Prop) (O:Option Nat→Env→St→Prop) (r:List AO) (dst:Option Nat) (op:AOp) (ρ:Env) (st:St):Prop:=match op with
 | .callv x args=>(match ev ρ x with
  | .fn (.yield l) [] []=>Y l (args.map (ev ρ)) st (fun st'=>wpR C K r (setD dst (boolD true) ρ) st') (fun j st'=>wpR (fun _ _ _ _=>False) (O j) r (setD dst (boolD false) ρ) st')
  | _=>False)
 | _=>False
def wpY (C:CallW) (Y:Hdl) (K:Env→St→Prop) (O:Option Nat→Env→St→Prop):Nat→List AO→Env→St→Prop
 | _,[],_,_=>False
 | 0,⟨none,dst,op⟩ :: r,ρ,st=>wpYc C Y K O r dst op ρ st
 | 0,⟨some (t,want),dst,op⟩ :: r,ρ,st=>match ρ.get t with
  | .p (.v (.bool b))=>(b=want→wpYc C Y K O r dst op ((t,boolD want) :: ρ) st)∧(b = !want→wpR C K r (setD dst undefD ((t,boolD (!want)) :: ρ)) st)
  | .p (.v (.tuple _))=>wpR C K r (setD dst undefD ρ) st
  | _=>False
 | k+1,⟨none,dst,op⟩ :: r,ρ,st=>wpOp C ρ st (fun d st'=>wpY C Y K O k r (setD dst d ρ) st') op
 | k+1,⟨some (t,want),dst,op⟩ :: r,ρ,st=>match ρ.get t with
  | .p (.v (.bool b))=>(b=want→wpOp C ((t,boolD want) :: ρ) st (fun d st'=>wpY C Y K O k r (setD dst d ((t,boolD want) :: ρ)) st') op) ∧
    (b = !want→wpY C Y K O k r (setD dst undefD ((t,boolD (!want)) :: ρ)) st)
  | .p (.v (.tuple _))=>wpY C Y K O k r (setD dst undefD ρ) st
  | _=>False
def condK (d:D) (A B:Prop):Prop:=match d with
 | .p (.v (.bool v))=>(v=true→A)∧(v=false→B)
 | _=>False
def wpA (C:CallW) (C':CallO):AC→Hdl→(Ax→Env→St→Prop)→Env→St→Prop
 | .rg l,_,Q,ρ,st=>wpR C (Q .n) l ρ st
 | .dr segs,_,Q,ρ,st=>wpDs C C' (Q .n) segs ρ st
 | .seq a b,Y,Q,ρ,st=>wpA C C' a Y (Ax.thn (wpA C C' b Y Q) Q) ρ st
 | .cond c a b,Y,Q,ρ,st=>match ev ρ c with | .p (.v (.bool t))=>(t=true→wpA C C' a Y Q ρ st)∧(t=false→wpA C C' b Y Q ρ st) | _=>False
 | .blk id a,Y,Q,ρ,st=>wpA C C' a Y (Ax.blk id Q) ρ st
 | .loop q keep a,Y,Q,ρ,st=>∃ k,LoopN (wpA C C' a Y) q keep Q k (ρ.keep keep) st
 | .exit id,_,Q,ρ,st=>Q (.x id) ρ st
 | .ret,_,Q,ρ,st=>Q .r ρ st
 | .skip,_,Q,ρ,st=>Q .n ρ st
 | .dead,_,_,_,_=>False
 | .rf x ps gf nt it as bd,_,Q,ρ,st=>match ev ρ x with
  | .fn (.func g) first captured=>g=gf∧first.length+1+captured.length≤nt∧gcBase st.box.length st.grp.length it=true ∧
    ALLY fun l=>wpA C C' it (fun l' ds st Kt Kf=>l'=l∧ds.length=ps.length∧gcBase st.box.length st.grp.length as=true ∧
     wpA C C' as noH (Ax.thn (fun ρ' st'=>gcBase st'.box.length st'.grp.length bd=true∧wpA C C' bd noH (roundQ Kt Kf) ρ' st') fun _ _ _=>False) (bindPs ps ds ρ) st) (iterQ Q ρ) (argsEnv 0 (first ++ [.fn (.yield l) [] []] ++ captured)) st
  | _=>False
 | .iy k l t a b,Y,Q,ρ,st=>wpY C Y (fun ρ st=>condK (ev ρ t) (wpA C C' a Y Q ρ st) (wpA C C' b Y Q ρ st)) (fun j ρ st=>condK (ev ρ t) (isRet a=true∧Q (.jmp j) ρ st) (isRet b=true∧Q (.jmp j) ρ st)) k l ρ st
def strip:Code→Code
 | .scope a=>strip a
 | c=>c
noncomputable def compA (P:Program):AC→Nat→Code→Option AC
 | .rg l,n,c=>match c with
  | .region _ ops false=>if noDef ops.toList=true then (compR P n ops ops.toList l).map .rg else none
  | _=>none
 | .dr segs,n,c=>match c with
  | .region _ ops true=>if Region.noSelect ops && noDef ops.toList then
    (compDs P n ops segs).bind fun r=>if segLen r=ops.size∧canonF ops r (Array.replicate ops.size false)=true then some (.dr r) else none
   else none
  | _=>none
 | .seq x y,n,c=>match c with
  | .seq a b=>(compA P x n (strip a)).bind fun x=>(compA P y n (strip b)).map (.seq x ·)
  | _=>none
 | .cond _ x y,n,c=>match c with
  | .cond c a b=>(compA P x n (strip a)).bind fun x=>(compA P y n (strip b)).map (.cond c x ·)
  | _=>none
 | .blk _ x,n,c=>match c with
  | .block id a=>(compA P x n (strip a)).map (.blk id ·)
  | _=>none
 | .loop q keep x,n,c=>match c with
  | .loop a=>(compA P x n (strip a)).map (.loop q keep ·)
  | _=>none
 | .exit _,_,c=>match c with
  | .exit id=>some (.exit id)
  | _=>none
 | .ret,_,c=>match c with
  | .ret=>some .ret
  | _=>none
 | .dead,_,_=>some .dead
 | .skip,_,c=>match c with
  | .skip=>some .skip
  | .label _=>some .skip
  | _=>none
 | .rf _ _ gf _ it as bd,n,c=>match c with
  | .rangeFunc x ps a b=>match P.funcs[gf]? with
   | some fn=>match fn.body with
    | some cb=>(compA P it fn.ntmps (strip cb)).bind fun it=>(compA P as n (strip a)).bind fun as=>(compA P bd n (strip b)).bind fun bd=>
      if rfFree it && rfFree as && rfFree bd && fn.results.isEmpty && ps.toList.all (fun p => Nat.blt p n) && !(fn.name == "runtime.NumGoroutine") then some (.rf x ps.toList gf fn.ntmps it as bd) else none
    | none=>none
   | none=>none
  | _=>none
 | .iy k l _ x y,n,c=>match c with
  | .seq (.region _ ops false) (.cond t a b)=>if noDef ops.toList=true then (compR P n ops ops.toList l).bind fun l=>(compA P x n (strip a)).bind fun x=>(compA P y n (strip b)).bind fun y=>if rfFree x && rfFree y then some (.iy k l t x y) else none else none
  | _=>none
noncomputable def comp (P:Program) (n:Nat) (code:Code) (g:AC):Option AC:=compA P g n (strip code)
section
variable {P:Program} {c:Ctx} {n:Nat}
theorem SimQ.use {q:Option (Nat×Nat)} {ρ ρ':Env} {st st':St} (h:SimQ q ρ st ρ' st') (hq:∀ b g,q=some (b,g)→(∀ i x,c.E0.N i x→i<b)∧∀ j t,c.E0.γ j=some t→j<g) {E:Em} {a:Act} {w:World} (hw:HR P c E st w) (ha:RE c E n ρ a) :
  ∃ E',HR P c E' st' w∧RE c E' n ρ' a:=by
 cases q with
 | some p=>exact h P c n E a w (hq p.1 p.2 rfl).1 (hq p.1 p.2 rfl).2 hw ha
 | none=>
  refine h P c n E a w (fun i x hN=>?_) (fun g t ht=>?_) hw ha
  ·rcases hw.le.ι i x hN with hι | hδ
   ·obtain ⟨B,_,q1,_⟩:=hw.box i x hι;exact (List.getElem?_eq_some_iff.1 q1).1
   ·obtain ⟨B,q1,_⟩:=hw.dead i x hδ;exact (List.getElem?_eq_some_iff.1 q1).1
  ·obtain ⟨b,cap,cur⟩:=t
   obtain ⟨b',cap',cur',k1,_⟩:=hw.le.γ g b cap cur ht
   obtain ⟨e,vs,inf,q1,_⟩:=hw.grp g b' cap' cur' k1
   exact (List.getElem?_eq_some_iff.1 q1).1
theorem lift_thn {yl:Option (Nat×Loop)} {K:Env→St→Prop} {Q:Ax→Env→St→Prop} {next:Act→World→Prop} (hn:∀ E ρ st a w,HR P c E st w→RE c E n ρ a→K ρ st→next a w) :
  ∀ e a w,lift P c n yl (Ax.thn K Q) e a w→Exit.then next (lift P c n yl Q) e a w:=by
 intro e a w h
 cases e <;> simp only[lift,Exit.then]at h ⊢
 case normal=>obtain ⟨E,ρ,st,h1,h2,h3⟩:=h;exact hn E ρ st a w h1 h2 h3
 all_goals first | exact h | exact h.elim
theorem lift_blk {yl:Option (Nat×Loop)} {id:Nat} {Q:Ax→Env→St→Prop}:∀ e a w,lift P c n yl (Ax.blk id Q) e a w→Exit.inBlock id (lift P c n yl Q) e a w:=by
 intro e a w h
 cases e <;> simp only[lift,Exit.inBlock]at h ⊢
 case exit i=>
  obtain ⟨E,ρ,st,h1,h2,h3⟩:=h
  simp only[Ax.blk]at h3
  split <;> rename_i hi
  ·rw[if_pos hi]at h3;exact ⟨E,ρ,st,h1,h2,h3⟩
  ·rw[if_neg hi]at h3;exact ⟨E,ρ,st,h1,h2,h3⟩
 all_goals first | exact h | exact h.elim
theorem lift_noGoto {yl:Option (Nat×Loop)} {Q:Ax→Env→St→Prop}:∀ e a w,lift P c n yl Q e a w→Exit.noGoto (lift P c n yl Q) e a w:=by
 intro e a w h
 cases e <;> simp only[lift,Exit.noGoto]at h ⊢ <;> first | exact h | exact h.elim
theorem strip_in {F:Fence} {m:Nat} {Q:Exit→Act→World→Prop} (hq:∀ e a w,Q e a w→Exit.noGoto Q e a w) {a:Act} {w:World}:∀ {code:Code},(strip code).wpIn F m P Q a w→code.wpIn F m P Q a w
 | .scope x,h=>wpIn_scope_straight (wpIn_mono (strip_in hq (code:=x) h) hq)
 | .region ..,h=>h
 | .seq ..,h=>h
 | .cond ..,h=>h
 | .block ..,h=>h
 | .loop ..,h=>h
 | .exit ..,h=>h
 | .goto ..,h=>h
 | .ret,h=>h
 | .skip,h=>h
 | .label ..,h=>h
 | .rangeFunc ..,h=>h
 | .refuse ..,h=>h
def HdlOK (P:Program) (c:Ctx) (Y:Hdl) (yl:Option (Nat×Loop)):Prop:=
 ∀ l ds st Kt Kf,Y l ds st Kt Kf→∃ r0,yl=some (l,r0)∧l<c.w0.heap.size∧¬ c.X l∧∀ E w,HR P c E st w→∀ vs:Array Value,vs.size=ds.length→(∀ i,i<ds.length→RD E (ds.getD i default) (vs.getD i undef)) →
  w.heap[l]? = some (.loop r0)∧vs.size=r0.params.size∧∀ m,RoundIn (FR none) m P l r0.fn ((r0.params.zip vs).foldl (fun t (p,v)=>t.setIfInBounds p v) r0.tmps) r0.assign r0.body w fun e w'=>
   (e=.returned (.bool true)∧∃ E' st',E.le E'∧HR P c E' st' w'∧Kt st') ∨
   (∃ j,e=.returned (.bool false)∧∃ E' st',E.le E'∧HR P (c.put l (.loop (doneRec r0 j))) E' st' w'∧Kf j st')
theorem HdlOK.no {yl:Option (Nat×Loop)}:HdlOK P c noH yl:=fun _ _ _ _ _ h=>h.elim
theorem run_yieldOp {o:Oper} {x:Operand} {args:List Operand} {ats:Array TypeId} (ho:o.op=.call { callee:=.value x,args:=args.toArray,argTypes:=ats }) {a:Act} {w:World} {l:Nat} (hx:a.eval x=.func (.yield l) #[] #[]) {r0:Loop}
  (hl:w.heap[l]? = some (.loop r0)) (hs:args.length=r0.params.size) :
  (execOp a.eval o).run P w=.ok (.round l r0.fn ((r0.params.zip (args.toArray.map a.eval)).foldl (fun t (p,v)=>t.setIfInBounds p v) r0.tmps) r0.assign r0.body) w:=by
 unfold execOp
 have:=run_yield (P:=P) (args:=args.toArray.map a.eval) hl (by simpa using hs)
 simp only[ho,resolve,hx,Deferred.ofValue,Sem.run_bind,Sem.run_pure,Result.andThen_ok,invoke]
 simpa using this
theorem roundIn_FR {r:Option Nat} {m l:Nat} {f:FuncId} {tmps:Array Value} {assign body:Code} {w:World} {R:Ending→World→Prop} (h:RoundIn (FR none) m P l f tmps assign body w R):RoundIn (FR r) m P l f tmps assign body w R:=by
 cases r <;> exact h
theorem wpR_in {ops:Array Oper} {r:Option Nat} {m:Nat} {c':Ctx} {C:CallW} (hC:∀ f ds st K,C f ds st K→CW P c' (fun _=>True) f ds st K) {K:Env→St→Prop} {Q:Exit→Act→World→Prop} (hQ:¬ LetsOut Q) (os:List Oper) (gs ars:List AO) (hc:compR P n ops os gs=some ars) (hd:noDef os=true)
  {ρ:Env} {st:St} (h:wpR C K ars ρ st) {E:Em} {a:Act} {w:World} (hw:HR P c' E st w) (ha:RE c' E n ρ a) (hq:∀ E' ρ' st' a' w',HR P c' E' st' w'→RE c' E' n ρ' a'→K ρ' st'→Q .normal a' w'):wpListIn (FR r) m P ops Q os a w:=
 list_in hQ os a w hd (wpR_sound os gs ars hc ρ st (wpR_call hC CW.cmono (fun _ _ h=>h) ars ρ st h) E a w hw ha hq)
theorem wpY_sound {ops:Array Oper} {r:Option Nat} {m:Nat} {Y:Hdl} {yl:Option (Nat×Loop)} (hY:HdlOK P c Y yl) {K:Env→St→Prop} {O:Option Nat→Env→St→Prop} {Q:Exit→Act→World→Prop} (hQ:¬ LetsOut Q)
  (hK:∀ E' ρ' st' a' w',HR P c E' st' w'→RE c E' n ρ' a'→K ρ' st'→Q .normal a' w')
  (hO:∀ l r0 j,yl=some (l,r0)→∀ E' ρ' st' a' w',HR P (c.put l (.loop (doneRec r0 j))) E' st' w'→RE c E' n ρ' a'→w'.heap[l]? = some (.loop (doneRec r0 j))→O j ρ' st'→Q .normal a' w') :
  ∀ (os:List Oper) (gs ars:List AO) (k:Nat),compR P n ops os gs=some ars→noDef os=true→∀ ρ st,wpY (CW P c fun _=>True) Y K O k ars ρ st→∀ E a w,HR P c E st w→RE c E n ρ a→wpListIn (FR r) m P ops Q os a w
 | [],gs,ars,k,hc,hd,ρ,st,h,E,a,w,hw,ha=>by
  cases gs with
  | nil=>simp only[compR,Option.some.injEq]at hc;subst hc;simp[wpY]at h
  | cons=>simp[compR]at hc
 | o :: os,gs,ars,k,hc,hd,ρ,st,h,E,a,w,hw,ha=>by
  cases gs with
  | nil=>simp[compR]at hc
  | cons g gs=>
   simp only[compR,Option.bind_eq_some_iff,Option.map_eq_some_iff]at hc
   obtain ⟨ao,hao,rest,hr,rfl⟩:=hc
   obtain ⟨h1,h2,h3,h4⟩:=compOp_spec hao
   obtain ⟨gd,dst,op⟩:=ao
   simp only at h1 h2 h3
   subst h3
   simp only[noDef,Bool.and_eq_true,Bool.not_eq_true']at hd
   have hod:∀ c,o.op≠.defer c:=fun c e=>by rw[e]at hd;simp[isDefer]at hd
   have skip:∀ ρ,RE c E n ρ a→wpR (CW P c fun _=>True) K rest (setD o.dst undefD ρ) st→wpListIn (FR r) m P ops Q os (a.put o.dst undef) w:=fun ρ ha h=>
    wpR_in (fun _ _ _ _ h=>h) hQ os gs rest hr hd.2 h hw (ha.setD h4 (.p _ _ (.v _))) hK
   have run:∀ ρ,RE c E n ρ a→wpYc (CW P c fun _=>True) Y K O rest o.dst op ρ st→o.wpIn (FR r) m P a w (wpListIn (FR r) m P ops Q os) Q:=fun ρ ha h=>by
    unfold wpYc at h
    split at h
    ·rename_i x args _
     split at h
     ·rename_i l hx
      obtain ⟨ats,ho⟩:=compO_callv h1
      have hv:=ha.ev x
      rw[hx]at hv
      obtain ⟨us,ws,heq,hs,ht,_,_⟩:=hv.fn_inv
      have e1:us=#[]:=Array.eq_empty_of_size_eq_zero hs
      have e2:ws=#[]:=Array.eq_empty_of_size_eq_zero ht
      subst e1 e2
      obtain ⟨r0,hy,hl,hX,hrest⟩:=hY _ _ _ _ _ h
      obtain ⟨hh,hsz,hround⟩:=hrest E w hw (args.toArray.map a.eval) (by simp) (fun i hi=>ha.evs args i (by simpa using hi))
      refine ⟨fun _ _=>trivial,?_⟩
      rw[Oper.semAt_eq _ _ _ hod,run_yieldOp ho heq hh (by simpa using hsz)]
      refine ⟨fun h=>by simp[FR,Fence.wide]at h,?_⟩
      refine (roundIn_FR (hround (m - 1))).mono ?_
      rintro e w' (⟨rfl,E',st',hle,hw',hk⟩ | ⟨j,rfl,E',st',hle,hw',hk⟩)
      ·exact wpR_in (fun _ _ _ _ h=>h) hQ os gs rest hr hd.2 hk hw' ((ha.mono hle).setD h4 (.p _ _ (.v _))) hK
      ·have ha':RE (c.put l (.loop (doneRec r0 j))) E' n (setD o.dst (boolD false) ρ) (a.put o.dst (.bool false)):=(ha.mono hle).setD h4 (.p _ _ (.v _))
       refine wpR_in (c':=c.put l (.loop (doneRec r0 j))) (C:=fun _ _ _ _=>False) (fun _ _ _ _ h=>h.elim) hQ os gs rest hr hd.2 hk hw' ha' fun E2 ρ2 st2 a2 w2 q1 q2 q3=>hO l r0 j hy E2 ρ2 st2 a2 w2 q1 q2 ?_ q3
       have:=q1.old l (by simpa [Ctx.put,World.putObj] using hl) hX
       rw[this]
       exact World.putObj_heap_same hl
     ·exact h.elim
    ·exact h.elim
   have runOp:∀ (k:Nat) (ρ:Env),RE c E n ρ a→wpOp (CW P c fun _=>True) ρ st (fun d st'=>wpY (CW P c fun _=>True) Y K O k rest (setD o.dst d ρ) st') op→o.wpIn (FR r) m P a w (wpListIn (FR r) m P ops Q os) Q:=fun k ρ ha h=>by
    refine op_in hod (compO_does (T:=fun _=>True) h1 (fun _ _=>trivial) h E a w hw ha _ Q (fun v w' E' d st' hle hw' hd' _ hk=>?_))
    exact wpY_sound hY hQ hK hO os gs rest k hr hd.2 _ st' hk E' _ w' hw' ((ha.mono hle).setD h4 hd')
   unfold wpListIn
   cases gd with
   | none=>
    rw[if_pos (wanted_none h2)]
    cases k with
    | zero=>exact run ρ ha h
    | succ k=>exact runOp k ρ ha h
   | some q=>
    obtain ⟨t,want⟩:=q
    obtain ⟨ht,hwt⟩:=wanted_some h2 a.tmps ha.2.1
    rw[hwt]
    have hv:=ha.2.2 t
    cases k with
    | zero=>
     simp only[wpY]at h
     split at h
     ·rename_i b hb
      rw[hb]at hv
      have e:=hv.v_inv
      rw[e]
      by_cases hbw:b=want
      ·subst hbw
       simp only[beq_self_eq_true,if_true]
       exact run _ (ha.known e) (h.1 rfl)
      ·have hb2:b = !want:=by cases b <;> cases want <;> simp_all
       subst hb2
       rw[if_neg (by simp)]
       exact ⟨fun _ _=>trivial,skip _ (ha.known e) (h.2 rfl)⟩
     ·rename_i vs hb
      rw[hb]at hv
      rw[hv.v_inv]
      simp only[Bool.false_eq_true,if_false]
      exact ⟨fun _ _=>trivial,skip _ ha h⟩
     ·exact h.elim
    | succ k=>
     simp only[wpY]at h
     split at h
     ·rename_i b hb
      rw[hb]at hv
      have e:=hv.v_inv
      rw[e]
      by_cases hbw:b=want
      ·subst hbw
       simp only[beq_self_eq_true,if_true]
       exact runOp k _ (ha.known e) (h.1 rfl)
      ·have hb2:b = !want:=by cases b <;> cases want <;> simp_all
       subst hb2
       rw[if_neg (by simp)]
       exact ⟨fun _ _=>trivial,wpY_sound hY hQ hK hO os gs rest k hr hd.2 _ st (h.2 rfl) E _ w hw ((ha.known e).setD h4 (.p _ _ (.v _)))⟩
     ·rename_i vs hb
      rw[hb]at hv
      rw[hv.v_inv]
      simp only[Bool.false_eq_true,if_false]
      exact ⟨fun _ _=>trivial,wpY_sound hY hQ hK hO os gs rest k hr hd.2 _ st h E _ w hw (ha.setD h4 (.p _ _ (.v _)))⟩
     ·exact h.elim
theorem isRet_code {g ac:AC} {code:Code} (h:compA P g n code=some ac) (hr:isRet ac=true):code=.ret:=by
 cases ac <;> simp only[isRet,Bool.false_eq_true]at hr
 cases g <;> cases code <;> simp only[compA,reduceCtorEq]at h <;> first
  | rfl
  | (exfalso;split at h <;> simp[Option.map_eq_some_iff,Option.bind_eq_some_iff]at h;done)
  | (exfalso;simp[Option.map_eq_some_iff,Option.bind_eq_some_iff]at h;done)
  | (exfalso;(repeat' split at h) <;> simp[Option.map_eq_some_iff,Option.bind_eq_some_iff]at h;done)
theorem wpA_sound (hm:P.follows .mixedOrders=true) (r:Option Nat) (m:Nat) {yl:Option (Nat×Loop)}:∀ (g:AC) (n:Nat) (code:Code) (ac:AC),compA P g n code=some ac→rfFree ac=true→GcOK c ac→∀ Y,HdlOK P c Y yl→∀ (Q:Ax→Env→St→Prop) ρ st,wpA (CW P c fun _=>True) (CPo P) ac Y Q ρ st →
  ∀ E a w,HR P c E st w→RE c E n ρ a→code.wpIn (FR r) m P (lift P c n yl Q) a w:=by
 intro g
 induction g with
 | rg l=>
  intro n code ac hc hf hg Y hY Q ρ st h E a w hw ha
  cases code <;> simp only[compA,reduceCtorEq]at hc
  rename_i id ops draw
  cases draw <;> simp only[reduceCtorEq]at hc
  split at hc
  ·rename_i hd
   simp only[Option.map_eq_some_iff]at hc
   obtain ⟨l',hr,rfl⟩:=hc
   exact wpIn_region_list (wpR_in (fun _ _ _ _ h=>h) lift_out ops.toList _ l' hr hd h hw ha fun E' ρ' st' a' w' h1 h2 h3=>⟨E',ρ',st',h1,h2,h3⟩)
  ·cases hc
 | dr segs=>
  intro n code ac hc hf hg Y hY Q ρ st h E a w hw ha
  cases code <;> simp only[compA,reduceCtorEq]at hc
  rename_i id ops draw
  cases draw <;> simp only[reduceCtorEq]at hc
  split at hc
  ·rename_i hs
   simp only[Bool.and_eq_true]at hs
   simp only[Option.bind_eq_some_iff]at hc
   obtain ⟨l',hr,hc⟩:=hc
   split at hc
   ·rename_i hB
    simp only[Option.some.injEq]at hc
    subst hc
    refine wpIn_region_any hm (any_in lift_out hs.2 _ _ _ _ ?_)
    have:=wpDs_sound (P:=P) (c:=c) (n:=n) (Q:=lift P c n yl Q) (K:=Q .n) (fun _ _ _ h=>h) hs.1 _ _ hr _ Closed.start (canonF_imp hB.2) ρ st h E a w.drew hw.drew ha (fun E' ρ' st' a' w' h1 h2 h3=>⟨E',ρ',st',h1,h2,h3⟩)
    rw[hB.1]at this
    exact this
   ·cases hc
  ·cases hc
 | seq x y ihx ihy=>
  intro n code ac hc hf hg Y hY Q ρ st h E a w hw ha
  cases code <;> simp only[compA,Option.bind_eq_some_iff,Option.map_eq_some_iff,reduceCtorEq]at hc
  obtain ⟨x',hx,y',hy,rfl⟩:=hc
  simp only[rfFree,Bool.and_eq_true]at hf
  exact wpIn_seq (wpIn_mono (strip_in lift_noGoto (ihx _ _ _ hx hf.1 hg.1 Y hY _ ρ st h E a w hw ha)) (lift_thn fun E' ρ' st' a' w' h1 h2 h3=>strip_in lift_noGoto (ihy _ _ _ hy hf.2 hg.2 Y hY Q ρ' st' h3 E' a' w' h1 h2)))
 | cond q x y ihx ihy=>
  intro n code ac hc hf hg Y hY Q ρ st h E a w hw ha
  cases code <;> simp only[compA,Option.bind_eq_some_iff,Option.map_eq_some_iff,reduceCtorEq]at hc
  rename_i q _ _
  obtain ⟨x',hx,y',hy,rfl⟩:=hc
  simp only[rfFree,Bool.and_eq_true]at hf
  simp only[wpA]at h
  have hq:=ha.ev q
  split at h
  ·rename_i t ht
   rw[ht]at hq
   exact wpIn_cond_split hq.v_inv (fun e=>strip_in lift_noGoto (ihx _ _ _ hx hf.1 hg.1 Y hY Q ρ st (h.1 e) E a w hw ha)) (fun e=>strip_in lift_noGoto (ihy _ _ _ hy hf.2 hg.2 Y hY Q ρ st (h.2 e) E a w hw ha))
  ·exact h.elim
 | blk id x ih=>
  intro n code ac hc hf hg Y hY Q ρ st h E a w hw ha
  cases code <;> simp only[compA,Option.map_eq_some_iff,reduceCtorEq]at hc
  obtain ⟨x',hx,rfl⟩:=hc
  exact wpIn_block (wpIn_mono (strip_in lift_noGoto (ih _ _ _ hx hf hg Y hY _ ρ st h E a w hw ha)) lift_blk)
 | loop q keep x ih=>
  intro n code ac hc hf hg Y hY Q ρ st h E a w hw ha
  cases code <;> simp only[compA,Option.map_eq_some_iff,reduceCtorEq]at hc
  rename_i code
  obtain ⟨x',hx,rfl⟩:=hc
  simp only[wpA]at h
  obtain ⟨k,h⟩:=h
  refine wpIn_loop_rounds k ?_
  have key:∀ (k:Nat) ρ st E a w,HR P c E st w→RE c E n ρ a→LoopN (wpA (CW P c fun _=>True) (CPo P) x' Y) q keep Q k ρ st→Code.roundsIn (FR r) m P code (lift P c n yl Q) k a w:=by
   intro k
   induction k with
   | zero=>intro ρ st E a w _ _ h;exact h.elim
   | succ k ihk=>
    intro ρ st E a w hw ha h
    obtain ⟨ρ1,st1,hs,h⟩:=h
    obtain ⟨E1,hw,ha⟩:=hs.use hg.1 hw ha
    rw[roundsIn_succ]
    exact wpIn_mono (strip_in lift_noGoto (ih _ _ _ hx hf hg.2 Y hY _ _ st1 h E1 a w hw ha)) (lift_thn fun E' ρ' st' a' w' h1 h2 h3=>ihk _ st' E' a' w' h1 (h2.keep keep) h3)
  exact key k _ st E a w hw (ha.keep keep) h
 | exit id=>intro n code ac hc hf hg Y hY Q ρ st h E a w hw ha;cases code <;> simp only[compA,Option.some.injEq,reduceCtorEq]at hc;subst hc;exact wpIn_exit ⟨E,ρ,st,hw,ha,h⟩
 | ret=>intro n code ac hc hf hg Y hY Q ρ st h E a w hw ha;cases code <;> simp only[compA,Option.some.injEq,reduceCtorEq]at hc;subst hc;exact wpIn_ret (.inl ⟨E,ρ,st,hw,ha,h⟩)
 | dead=>intro n code ac hc hf hg Y hY Q ρ st h E a w hw ha;simp only[compA,Option.some.injEq]at hc;subst hc;exact h.elim
 | skip=>intro n code ac hc hf hg Y hY Q ρ st h E a w hw ha;cases code <;> simp only[compA,Option.some.injEq,reduceCtorEq]at hc <;> subst hc <;> first | exact wpIn_skip ⟨E,ρ,st,hw,ha,h⟩ | exact wpIn_label ⟨E,ρ,st,hw,ha,h⟩
 | rf x ps gf nt it as bd=>
  intro n code ac hc hf
  cases code <;> simp only[compA,reduceCtorEq]at hc
  split at hc
  ·split at hc
   ·simp only[Option.bind_eq_some_iff]at hc
    obtain ⟨_,_,_,_,_,_,hc⟩:=hc
    split at hc
    ·simp only[Option.some.injEq]at hc;subst hc;simp[rfFree]at hf
    ·cases hc
   ·cases hc
  ·cases hc
 | iy k l t x y ihx ihy=>
  intro n code ac hc hf hg Y hY Q ρ st h E a w hw ha
  simp only[compA]at hc
  split at hc
  ·rename_i id ops t a' b'
   split at hc
   ·rename_i hd
    simp only[Option.bind_eq_some_iff]at hc
    obtain ⟨l',hl,x',hx,y',hy,hc⟩:=hc
    obtain rfl:AC.iy k l' t x' y'=ac:=by split at hc <;> first | exact Option.some.inj hc | cases hc
    simp only[rfFree,Bool.and_eq_true]at hf
    simp only[wpA]at h
    refine wpIn_seq (wpIn_region_list (wpY_sound hY ?_ ?_ ?_ ops.toList _ l' k hl hd ρ st h E a w hw ha))
    ·rintro ⟨_,_,h⟩;exact h
    ·intro E' ρ' st' a' w' h1 h2 h3
     simp only[Exit.then]
     have hq:=h2.ev t
     unfold condK at h3
     split at h3
     ·rename_i v hv
      rw[hv]at hq
      exact wpIn_cond_split hq.v_inv (fun e=>strip_in lift_noGoto (ihx _ _ _ hx hf.1 hg.1 Y hY Q ρ' st' (h3.1 e) E' a' w' h1 h2)) (fun e=>strip_in lift_noGoto (ihy _ _ _ hy hf.2 hg.2 Y hY Q ρ' st' (h3.2 e) E' a' w' h1 h2))
     ·exact h3.elim
    ·intro l r0 j hyl E' ρ' st' a' w' h1 h2 h4 h3
     simp only[Exit.then]
     have hq:=h2.ev t
     unfold condK at h3
     split at h3
     ·rename_i v hv
      rw[hv]at hq
      refine wpIn_cond_split hq.v_inv (fun e=>strip_in lift_noGoto ?_) (fun e=>strip_in lift_noGoto ?_)
      ·rw[isRet_code hx (h3.1 e).1];exact wpIn_ret (.inr ⟨l,r0,j,E',ρ',st',hyl,h1,h2,h4,(h3.1 e).2⟩)
      ·rw[isRet_code hy (h3.2 e).1];exact wpIn_ret (.inr ⟨l,r0,j,E',ρ',st',hyl,h1,h2,h4,(h3.2 e).2⟩)
     ·exact h3.elim
   ·cases hc
  ·cases hc
end
end Go.Ab
namespace Go.Ab
open Go.RowKit
inductive ARes where
 | tmp (t:Nat)
 | cell (t:Nat) (size:Option Nat)
def compRes (P:Program):List ResultVar→Option (List ARes)
 | []=>some []
 | .tmp t :: r=>(compRes P r).map (.tmp t :: ·)
 | .cell a t :: r=>match P.underlying t,P.info? t with
  | some d,some inf=>(compRes P r).map (.cell a (if aggT d then some inf.size else none) :: ·)
  | _,_=>none
def wpRes1 (ρ:Env) (st:St) (K:D→Prop):ARes→Prop
 | .tmp t=>K (ρ.get t)
 | .cell t none=>match ρ.get t with
  | .ptr b off=>match st.box[b]? with | some B=>B.fz=false∧∃ d,B.cells[off]? = some d∧K d | none=>False
  | _=>False
 | .cell t (some size)=>match ρ.get t with
  | .ptr b off=>match st.box[b]? with | some B=>B.fz=false∧off+size≤B.cells.length∧K (mkAgg ((B.cells.drop off).take size)) | none=>False
  | _=>False
def wpRes (ρ:Env) (st:St) (K:List D→Prop):List ARes→Prop
 | []=>K []
 | r :: rs=>wpRes1 ρ st (fun d=>wpRes ρ st (fun ds=>K (d :: ds)) rs) r
def resOf:List D→D
 | [d]=>d
 | ds=>mkTup ds
def retQ (ars:List ARes) (K:D→St→Prop):Ax→Env→St→Prop
 | .x _,_,_=>False
 | .jmp _,_,_=>False
 | _,ρ,st=>wpRes ρ st (fun ds=>K (resOf ds) st) ars
theorem argsEnv_get:∀ (l:List D) (k t:Nat),(argsEnv k l).get t=if k≤t∧t<k+l.length then l.getD (t - k) default else .bad
 | [],k,t=>by simp only[argsEnv,Env.get,List.length_nil,Nat.add_zero];rw[if_neg (by omega)]
 | d :: r,k,t=>by
  simp only[argsEnv,Env.get,List.length_cons]
  by_cases h:k=t
  ·subst h;simp
  ·rw[if_neg h,argsEnv_get r (k+1) t]
   by_cases h2:k≤t∧t<k+(r.length+1)
   ·rw[if_pos h2,if_pos (by omega),show t - k=(t - (k+1))+1 by omega];rfl
   ·rw[if_neg h2,if_neg (by omega)]
section
variable {P:Program} {c:Ctx} {n:Nat}
theorem RC.get {E:Em} {st:St} {w:World} (hw:HR P c E st w) {b off:Nat} {u:Value} (hu:RD E (.ptr b off) u) {B:Box} (hB:st.box[b]? = some B) (hf:B.fz=false) :
  ∃ (blk:Nat) (vs:Array Value),u=.pointer (some ⟨blk,off,none⟩)∧B.cells.length≤vs.size∧(∀ j,j<B.cells.length→RD E (B.cells.getD j default) (vs.getD j undef))∧∀ j,j<vs.size→w.cell? ⟨blk,j,none⟩=some (vs.getD j undef):=by
 obtain ⟨blk,hb,e⟩:=hu.ptr_inv
 have hb:=hw.live hb hB hf
 obtain ⟨vs,_,h1,h2,h3⟩:=hw.boxcell hb hB hf
 exact ⟨blk,vs,e,h1,fun j hj=>(h2 j hj).1,h3⟩
def readRes (tmps:Array Value):ResultVar→Sem Value
 | .tmp t=>pure (tmps.getD t undef)
 | .cell a t=>do loadVar t (←asAddr (tmps.getD a undef))
theorem run_res {E:Em} {st:St} {w:World} {ρ:Env} {a:Act} (hw:HR P c E st w) (ha:RE c E n ρ a):∀ (rs:List ResultVar) (ars:List ARes),compRes P rs=some ars→∀ (K:List D→Prop),wpRes ρ st K ars →
  ∃ vs ds,(rs.mapM (readRes a.tmps)).run P w=.ok vs w∧vs.length=ds.length∧(∀ i,i<ds.length→RD E (ds.getD i default) (vs.getD i undef))∧K ds
 | [],ars,hc,K,h=>by
  simp only[compRes,Option.some.injEq]at hc
  subst hc
  exact ⟨[],[],by simp,rfl,fun i hi=>absurd hi (Nat.not_lt_zero _),h⟩
 | r :: rs,ars,hc,K,h=>by
  have step:∀ (v:Value) (d:D) (ars:List ARes),compRes P rs=some ars→(readRes a.tmps r).run P w=.ok v w→RD E d v→wpRes ρ st (fun ds=>K (d :: ds)) ars →
    ∃ vs ds,((r :: rs).mapM (readRes a.tmps)).run P w=.ok vs w∧vs.length=ds.length∧(∀ i,i<ds.length→RD E (ds.getD i default) (vs.getD i undef))∧K ds:=fun v d ars hc hr hd h=>by
   obtain ⟨vs,ds,h1,h2,h3,h4⟩:=run_res hw ha rs ars hc _ h
   refine ⟨v :: vs,d :: ds,by simp[List.mapM_cons,hr,h1],by simp[h2],fun i hi=>?_,h4⟩
   cases i with
   | zero=>exact hd
   | succ i=>exact h3 i (by simpa using hi)
  cases r with
  | tmp t=>
   simp only[compRes,Option.map_eq_some_iff]at hc
   obtain ⟨ars,hc,rfl⟩:=hc
   exact step _ _ ars hc rfl (ha.2.2 t) h
  | cell p t=>
   simp only[compRes]at hc
   split at hc
   ·rename_i d inf ht hi
    simp only[Option.map_eq_some_iff]at hc
    obtain ⟨ars,hc,rfl⟩:=hc
    have hp:=ha.2.2 p
    cases hd:aggT d with
    | false=>
     simp only[hd,Bool.false_eq_true,if_false,wpRes,wpRes1]at h
     split at h
     ·rename_i b off hb
      rw[hb]at hp
      split at h
      ·rename_i B hB
       obtain ⟨hf,d',hd',hk⟩:=h
       obtain ⟨blk,vs,e,hs,hR,hcell⟩:=RC.get hw hp hB hf
       have hlt0:=(List.getElem?_eq_some_iff.1 hd').1
       have hlt:off<vs.size:=by omega
       have h1:=hR off hlt0
       rw[List.getD,hd']at h1
       refine step (vs.getD off undef) d' ars hc ?_ h1 hk
       simp only[readRes,e,asAddr,Sem.run_bind,Sem.run_pure,Result.andThen_ok]
       exact run_loadVar_cell ht hd (hcell off hlt)
      ·exact h.elim
     ·exact h.elim
    | true=>
     simp only[hd,if_true,wpRes,wpRes1]at h
     split at h
     ·rename_i b off hb
      rw[hb]at hp
      split at h
      ·rename_i B hB
       obtain ⟨hf,h⟩:=h
       obtain ⟨blk,vs,e,hs,hR,hcell⟩:=RC.get hw hp hB hf
       refine step _ _ ars hc ?_ (RD.mkAgg (.agg ((B.cells.drop off).take inf.size) ((List.range inf.size).map fun j=>vs.getD (off+j) undef).toArray (by simp;omega) (fun i hi=>?_))) h.2
       ·simp only[readRes,e,asAddr,Sem.run_bind,Sem.run_pure,Result.andThen_ok]
        exact run_loadVar_agg ht hd hi (fun j=>vs.getD (off+j) undef) (fun j hj=>hcell _ (by omega))
       ·simp at hi
        rw[getD_map_range _ _ _ (by omega),getD_take _ _ _ (by omega),getD_drop]
        exact hR _ (by omega)
      ·exact h.elim
     ·exact h.elim
   ·cases hc
theorem run_results {E:Em} {st:St} {w:World} {ρ:Env} {a:Act} (hw:HR P c E st w) (ha:RE c E n ρ a) {fn:Func} {ars:List ARes} (hc:compRes P fn.results.toList=some ars) {K:D→St→Prop} (h:wpRes ρ st (fun ds=>K (resOf ds) st) ars) :
  ∃ v d,(results fn a.tmps).run P w=.ok v w∧RD E d v∧K d st:=by
 obtain ⟨vs,ds,h1,h2,h3,h4⟩:=run_res hw ha _ _ hc _ h
 have hrun:(results fn a.tmps).run P w=.ok (if h:vs.toArray.size=1 then vs.toArray[0] else .tuple vs.toArray) w:=by
  have e:results fn a.tmps=(fn.results.mapM (readRes a.tmps) >>= fun vs=>pure (if h:vs.size=1 then vs[0] else .tuple vs)):=by
   unfold results
   congr 1
  rw[e,Sem.run_bind,Array.mapM_eq_mapM_toList]
  simp only[Sem.run_map,h1,Result.andThen_ok,Sem.run_pure]
 refine ⟨_,_,hrun,?_,h4⟩
 have tup:RD E (.tup ds) (.tuple vs.toArray):=.tup _ _ (by simp[h2]) (fun i hi=>by simpa using h3 i hi)
 match ds,h2,h3,tup with
 | [],h2,_,tup=>rw[dif_neg (by simp[h2])];exact tup.mkTup
 | [d],h2,h3,_=>
  rw[dif_pos (by simpa using h2)]
  have:=h3 0 (by simp)
  have hlt:0<vs.length:=by rw[h2];simp
  simpa [resOf,hlt] using this
 | _ :: _ :: _,h2,_,tup=>rw[dif_neg (by simp[h2])];exact tup.mkTup
end
noncomputable def compF (P:Program) (fn:Func) (g:AC):Option (AC×List ARes):=
 fn.body.bind fun code=>(comp P fn.ntmps code g).bind fun ac=>(compRes P fn.results.toList).map fun rs=>(ac,rs)
end Go.Ab
namespace Go.Ab
open Go.RowKit
theorem thn_mono {K K':Env→St→Prop} {Q Q':Ax→Env→St→Prop} (hK:∀ ρ st,K ρ st→K' ρ st) (hQ:∀ x ρ st,Q x ρ st→Q' x ρ st):∀ x ρ st,Ax.thn K Q x ρ st→Ax.thn K' Q' x ρ st:=by
 intro x ρ st h
 cases x
 ·exact hK _ _ h
 ·exact hQ _ _ _ h
 ·exact hQ _ _ _ h
 ·exact hQ _ _ _ h
theorem LoopN_mono {body body':(Ax→Env→St→Prop)→Env→St→Prop} (hb:∀ (Q Q':Ax→Env→St→Prop),(∀ x ρ st,Q x ρ st→Q' x ρ st)→∀ ρ st,body Q ρ st→body' Q' ρ st) {q:Option (Nat×Nat)} {keep:List Nat} {Q Q':Ax→Env→St→Prop}
  (hQ:∀ x ρ st,Q x ρ st→Q' x ρ st):∀ (k k':Nat),k≤k'→∀ ρ st,LoopN body q keep Q k ρ st→LoopN body' q keep Q' k' ρ st
 | 0,_,_,_,_,h=>h.elim
 | k+1,0,h,_,_,_=>by omega
 | k+1,k'+1,hk,ρ,st,⟨ρ1,st1,hs,h⟩=>⟨ρ1,st1,hs,hb _ _ (thn_mono (fun _ _ h=>LoopN_mono hb hQ k k' (by omega) _ _ h) hQ) _ _ h⟩
def HMono (Y:Hdl):Prop:=∀ l ds st (Kt Kt':St→Prop) (Kf Kf':Option Nat→St→Prop),(∀ st,Kt st→Kt' st)→(∀ j st,Kf j st→Kf' j st)→Y l ds st Kt Kf→Y l ds st Kt' Kf'
theorem HMono.no:HMono noH:=fun _ _ _ _ _ _ _ _ _ h=>h.elim
theorem condK_mono {d:D} {A B A' B':Prop} (ha:A→A') (hb:B→B') (h:condK d A B):condK d A' B':=by
 unfold condK at h ⊢
 split at h
 ·exact ⟨fun e=>ha (h.1 e),fun e=>hb (h.2 e)⟩
 ·exact h.elim
theorem roundQ_mono {Kt Kt':St→Prop} {Kf Kf':Option Nat→St→Prop} (ht:∀ st,Kt st→Kt' st) (hf:∀ j st,Kf j st→Kf' j st):∀ x ρ st,roundQ Kt Kf x ρ st→roundQ Kt' Kf' x ρ st:=by
 intro x ρ st h
 cases x <;> simp only[roundQ]at h ⊢
 ·exact ht _ h
 ·exact hf _ _ h
 ·exact hf _ _ h
theorem iterQ_mono {Q Q':Ax→Env→St→Prop} (hQ:∀ x ρ st,Q x ρ st→Q' x ρ st) {ρ0:Env}:∀ x ρ st,iterQ Q ρ0 x ρ st→iterQ Q' ρ0 x ρ st:=by
 intro x ρ st h
 cases x with
 | jmp j=>cases j <;> simp only[iterQ]at h ⊢ <;> exact hQ _ _ _ h
 | _=>simp only[iterQ]at h ⊢ <;> first | exact hQ _ _ _ h | exact h
theorem blk_mono {id:Nat} {Q Q':Ax→Env→St→Prop} (hQ:∀ x ρ st,Q x ρ st→Q' x ρ st):∀ x ρ st,Ax.blk id Q x ρ st→Ax.blk id Q' x ρ st:=by
 intro x ρ st h
 cases x <;> simp only[Ax.blk]at h ⊢
 ·exact hQ _ _ _ h
 ·split <;> rename_i e
  ·rw[if_pos e]at h;exact hQ _ _ _ h
  ·rw[if_neg e]at h;exact hQ _ _ _ h
 ·exact hQ _ _ _ h
 ·exact hQ _ _ _ h
section
variable {C D:CallW}
theorem wpY_call (hC:∀ f ds st K,C f ds st K→D f ds st K) (hm:CMono D) {Y Y':Hdl} (hY:∀ l ds st Kt Kf,Y l ds st Kt Kf→Y' l ds st Kt Kf) (hYm:HMono Y') {K K':Env→St→Prop} {O O':Option Nat→Env→St→Prop} (hK:∀ ρ st,K ρ st→K' ρ st) (hO:∀ j ρ st,O j ρ st→O' j ρ st) :
  ∀ (k:Nat) (l:List AO) (ρ:Env) (st:St),wpY C Y K O k l ρ st→wpY D Y' K' O' k l ρ st
 | k,[],_,_,h=>by simp[wpY]at h
 | 0,⟨none,dst,op⟩ :: r,ρ,st,h=>go r dst op ρ st h
 | 0,⟨some (t,want),dst,op⟩ :: r,ρ,st,h=>by
  simp only[wpY]at h ⊢
  split at h
  ·rename_i hb
   try simp only[hb]
   exact ⟨fun e=>go r dst op _ st (h.1 e),fun e=>wpR_call hC hm hK r _ _ (h.2 e)⟩
  ·rename_i hb
   try simp only[hb]
   exact wpR_call hC hm hK r _ _ h
  ·exact h.elim
 | k+1,⟨none,_,_⟩ :: r,_,_,h=>wpOp_mono hm (fun _ _ h=>wpY_call hC hm hY hYm hK hO k r _ _ h) (wpOp_call hC h)
 | k+1,⟨some (_,_),_,_⟩ :: r,_,_,h=>by
  simp only[wpY]at h ⊢
  split at h
  ·rename_i hb
   try simp only[hb]
   exact ⟨fun e=>wpOp_mono hm (fun _ _ h=>wpY_call hC hm hY hYm hK hO k r _ _ h) (wpOp_call hC (h.1 e)),fun e=>wpY_call hC hm hY hYm hK hO k r _ _ (h.2 e)⟩
  ·rename_i hb
   try simp only[hb]
   exact wpY_call hC hm hY hYm hK hO k r _ _ h
  ·exact h.elim
where
 go (r:List AO) (dst:Option Nat) (op:AOp) (ρ:Env) (st:St) (h:wpYc C Y K O r dst op ρ st):wpYc D Y' K' O' r dst op ρ st:=by
  unfold wpYc at h ⊢
  split at h
  ·split at h
   ·exact hYm _ _ _ _ _ _ _ (fun st h=>wpR_call hC hm hK r _ _ h) (fun j st h=>wpR_mono (fun _ _ _ _ _ _ h=>h) (hO j) r _ _ h) (hY _ _ _ _ _ h)
   ·exact h.elim
  ·exact h.elim
theorem wpA_call0:∀ (a:AC) (C D:CallW) (C' D':CallO),(∀ f ds st K,C f ds st K→D f ds st K)→CMono D→(∀ o f ds st K,C' o f ds st K→D' o f ds st K)→(∀ o,CMono (D' o))→∀ (Y Y':Hdl),(∀ l ds st Kt Kf,Y l ds st Kt Kf→Y' l ds st Kt Kf)→HMono Y'→∀ (Q Q':Ax→Env→St→Prop),(∀ x ρ st,Q x ρ st→Q' x ρ st)→∀ ρ st,wpA C C' a Y Q ρ st→wpA D D' a Y' Q' ρ st
 | .rg l,C,D,C',D',hC,hm,hC',hm',_,_,_,_,_,_,hQ,_,_,h=>wpR_call hC hm (hQ .n) l _ _ h
 | .dr l,C,D,C',D',hC,hm,hC',hm',_,_,_,_,_,_,hQ,_,_,h=>wpDs_call hC hm hC' hm' (hQ .n) l _ _ h
 | .seq a b,C,D,C',D',hC,hm,hC',hm',Y,Y',hY,hYm,_,_,hQ,_,_,h=>wpA_call0 a C D C' D' hC hm hC' hm' Y Y' hY hYm _ _ (thn_mono (fun _ _ h=>wpA_call0 b C D C' D' hC hm hC' hm' Y Y' hY hYm _ _ hQ _ _ h) hQ) _ _ h
 | .cond c a b,C,D,C',D',hC,hm,hC',hm',Y,Y',hY,hYm,_,_,hQ,_,_,h=>by
  simp only[wpA]at h ⊢
  split at h
  ·rename_i t ht
   try simp only[ht]
   exact ⟨fun e=>wpA_call0 a C D C' D' hC hm hC' hm' Y Y' hY hYm _ _ hQ _ _ (h.1 e),fun e=>wpA_call0 b C D C' D' hC hm hC' hm' Y Y' hY hYm _ _ hQ _ _ (h.2 e)⟩
  ·exact h.elim
 | .blk id a,C,D,C',D',hC,hm,hC',hm',Y,Y',hY,hYm,Q,Q',hQ,_,_,h=>wpA_call0 a C D C' D' hC hm hC' hm' Y Y' hY hYm _ _ (blk_mono hQ) _ _ h
 | .loop q keep a,C,D,C',D',hC,hm,hC',hm',Y,Y',hY,hYm,_,_,hQ,_,_,h=>by
  obtain ⟨k,h⟩:=h
  exact ⟨k,LoopN_mono (fun Q Q' hQ ρ st h=>wpA_call0 a C D C' D' hC hm hC' hm' Y Y' hY hYm Q Q' hQ ρ st h) hQ k k (Nat.le_refl _) _ _ h⟩
 | .exit id,C,D,C',D',hC,hm,hC',hm',_,_,_,_,_,_,hQ,_,_,h=>hQ _ _ _ h
 | .ret,C,D,C',D',hC,hm,hC',hm',_,_,_,_,_,_,hQ,_,_,h=>hQ _ _ _ h
 | .skip,C,D,C',D',hC,hm,hC',hm',_,_,_,_,_,_,hQ,_,_,h=>hQ _ _ _ h
 | .dead,C,D,C',D',hC,hm,hC',hm',_,_,_,_,_,_,hQ,_,_,h=>h.elim
 | .rf x ps gf nt it as bd,C,D,C',D',hC,hm,hC',hm',_,_,_,_,_,_,hQ,_,_,h=>by
  have ha:∀ {Kt Kt':St→Prop} {Kf Kf':Option Nat→St→Prop},(∀ st,Kt st→Kt' st)→(∀ j st,Kf j st→Kf' j st)→∀ ρ st,
    wpA C C' as noH (Ax.thn (fun ρ' st'=>gcBase st'.box.length st'.grp.length bd=true∧wpA C C' bd noH (roundQ Kt Kf) ρ' st') fun _ _ _=>False) ρ st→wpA D D' as noH (Ax.thn (fun ρ' st'=>gcBase st'.box.length st'.grp.length bd=true∧wpA D D' bd noH (roundQ Kt' Kf') ρ' st') fun _ _ _=>False) ρ st:=fun ht hf ρ st h=>
   wpA_call0 as C D C' D' hC hm hC' hm' noH noH (fun _ _ _ _ _ h=>h) .no _ _ (thn_mono (fun _ _ h=>⟨h.1,wpA_call0 bd C D C' D' hC hm hC' hm' noH noH (fun _ _ _ _ _ h=>h) .no _ _ (roundQ_mono ht hf) _ _ h.2⟩) fun _ _ _ h=>h) _ _ h
  have hb:∀ {Kt Kt':St→Prop} {Kf Kf':Option Nat→St→Prop},(∀ st,Kt st→Kt' st)→(∀ j st,Kf j st→Kf' j st)→∀ ρ st,
    wpA D D' as noH (Ax.thn (fun ρ' st'=>gcBase st'.box.length st'.grp.length bd=true∧wpA D D' bd noH (roundQ Kt Kf) ρ' st') fun _ _ _=>False) ρ st→wpA D D' as noH (Ax.thn (fun ρ' st'=>gcBase st'.box.length st'.grp.length bd=true∧wpA D D' bd noH (roundQ Kt' Kf') ρ' st') fun _ _ _=>False) ρ st:=fun ht hf ρ st h=>
   wpA_call0 as D D D' D' (fun _ _ _ _ h=>h) hm (fun _ _ _ _ _ h=>h) hm' noH noH (fun _ _ _ _ _ h=>h) .no _ _ (thn_mono (fun _ _ h=>⟨h.1,wpA_call0 bd D D D' D' (fun _ _ _ _ h=>h) hm (fun _ _ _ _ _ h=>h) hm' noH noH (fun _ _ _ _ _ h=>h) .no _ _ (roundQ_mono ht hf) _ _ h.2⟩) fun _ _ _ h=>h) _ _ h
  simp only[wpA]at h ⊢
  split at h
  ·rename_i hx
   try simp only[hx]
   obtain ⟨h1,h2,h3,h4⟩:=h
   refine ⟨h1,h2,h3,⟨fun l=>wpA_call0 it C D C' D' hC hm hC' hm' _ _ (fun l' ds st Kt Kf h=>?_) (fun l' ds st Kt Kt' Kf Kf' ht hf h=>?_) _ _ (iterQ_mono hQ) _ _ (h4.h l)⟩⟩
   ·exact ⟨h.1,h.2.1,h.2.2.1,ha (fun _ h=>h) (fun _ _ h=>h) _ _ h.2.2.2⟩
   ·exact ⟨h.1,h.2.1,h.2.2.1,hb ht hf _ _ h.2.2.2⟩
  ·exact h.elim
 | .iy k l t a b,C,D,C',D',hC,hm,hC',hm',Y,Y',hY,hYm,_,_,hQ,_,_,h=>wpY_call hC hm hY hYm (fun ρ st h=>condK_mono (fun h=>wpA_call0 a C D C' D' hC hm hC' hm' Y Y' hY hYm _ _ hQ _ _ h) (fun h=>wpA_call0 b C D C' D' hC hm hC' hm' Y Y' hY hYm _ _ hQ _ _ h) h)
   (fun j ρ st h=>condK_mono (fun h=>⟨h.1,hQ _ _ _ h.2⟩) (fun h=>⟨h.1,hQ _ _ _ h.2⟩) h) k l _ _ h
theorem wpA_call {C' D':CallO} (hC:∀ f ds st K,C f ds st K→D f ds st K) (hm:CMono D) (hC':∀ o f ds st K,C' o f ds st K→D' o f ds st K) (hm':∀ o,CMono (D' o)) (a:AC) (Y Y':Hdl) (hY:∀ l ds st Kt Kf,Y l ds st Kt Kf→Y' l ds st Kt Kf) (hYm:HMono Y')
  (Q Q':Ax→Env→St→Prop) (hQ:∀ x ρ st,Q x ρ st→Q' x ρ st) (ρ:Env) (st:St) (h:wpA C C' a Y Q ρ st):wpA D D' a Y' Q' ρ st:=wpA_call0 a C D C' D' hC hm hC' hm' Y Y' hY hYm Q Q' hQ ρ st h
end
theorem wpA_mono {C:CallW} {C':CallO} (hC:CMono C) (hC':∀ o,CMono (C' o)) (a:AC) {Y:Hdl} (hY:HMono Y) (Q Q':Ax→Env→St→Prop) (hQ:∀ x ρ st,Q x ρ st→Q' x ρ st) (ρ:Env) (st:St) (h:wpA C C' a Y Q ρ st):wpA C C' a Y Q' ρ st:=
 wpA_call (fun _ _ _ _ h=>h) hC (fun _ _ _ _ _ h=>h) hC' a Y Y (fun _ _ _ _ _ h=>h) hY Q Q' hQ ρ st h
theorem wpRes1_mono {ρ:Env} {st:St} {K K':D→Prop} (hK:∀ d,K d→K' d) {r:ARes} (h:wpRes1 ρ st K r):wpRes1 ρ st K' r:=by
 unfold wpRes1 at h ⊢
 split at h
 ·exact hK _ h
 ·split at h
  ·split at h
   ·obtain ⟨h0,d,h1,h2⟩:=h;exact ⟨h0,d,h1,hK _ h2⟩
   ·exact h.elim
  ·exact h.elim
 ·split at h
  ·split at h
   ·exact ⟨h.1,h.2.1,hK _ h.2.2⟩
   ·exact h.elim
  ·exact h.elim
theorem wpRes_mono {ρ:Env} {st:St}:∀ {l:List ARes} {K K':List D→Prop},(∀ ds,K ds→K' ds)→wpRes ρ st K l→wpRes ρ st K' l
 | [],_,_,hK,h=>hK _ h
 | _ :: _,_,_,hK,h=>wpRes1_mono (fun d h=>wpRes_mono (fun ds h=>hK _ h) h) h
theorem CPo.of {P:Program} {o:Option (List Nat)} {f:FuncId} {ds:List D} {st:St} {K:D→St→Prop} (h:CP P f ds st K):CPo P o f ds st K:=by
 cases o with
 | none=>exact .inl h
 | some pl=>exact .inl h
theorem CPo.sub {P:Program} {pl pl':List Nat} {f:FuncId} {ds:List D} {st:St} {K:D→St→Prop} (hs:∀ i∈pl',i∈pl) (h:CPo P (some pl) f ds st K):CPo P (some pl') f ds st K:=CT.sub hs h
end Go.Ab
namespace Go
def Obj.isBox:Obj→Bool
 | .cells ..=>true
 | .map ..=>true
 | .mapIter ..=>true
 | _=>false
end Go
namespace Go.Ab
open Go.RowKit
theorem objOf_isBox (B:Box) (vs:Array Value):(objOf B vs).isBox=true:=by
 unfold objOf
 split
 ·split <;> rfl
 ·rfl
structure Put (l:Nat) (w w':World):Prop where
 os:w'.os=w.os
 tape:w'.tape=w.tape∧w.drawn≤w'.drawn
 output:w'.output=w.output
 frz:∀ a,w'.frozen? a=w.frozen? a
 size:w'.heap.size=w.heap.size
 other:∀ k,k≠l→w'.heap[k]? = w.heap[k]?
 nc:∀ o,w.heap[l]? = some o→o.isBox=false
theorem Put.refl {l:Nat} {w:World} (h:∀ o,w.heap[l]? = some o→o.isBox=false):Put l w w:=⟨rfl,⟨rfl,Nat.le_refl _⟩,rfl,fun _=>rfl,rfl,fun _ _=>rfl,h⟩
theorem Put.put {l:Nat} {w:World} {o o':Obj} (h:w.heap[l]? = some o) (ho:o.isBox=false) (ho':o'.isBox=false):Put l w (w.putObj l o') where
 os:=rfl
 tape:=⟨rfl,Nat.le_refl _⟩
 output:=rfl
 frz a:=by
  unfold World.frozen?
  by_cases e:a.block=l
  ·rw[e,World.putObj_heap_same (lt_of_heap h),h]
   cases o <;> cases o' <;> simp_all [Obj.isBox]
  ·rw[World.putObj_heap_other e]
 size:=by simp[World.putObj]
 other k hk:=World.putObj_heap_other hk
 nc o2 hh:=by rw[hh]at h;cases h;exact ho
theorem Put.cell {l:Nat} {w w':World} (h:Put l w w') {b o:Nat} {u:Value} (hc:w.cell? ⟨b,o,none⟩=some u):w'.cell? ⟨b,o,none⟩=some u:=by
 unfold World.cell? at hc ⊢
 dsimp only at hc ⊢
 by_cases e:b=l
 ·subst e
  split at hc
  ·rename_i hh;exact absurd (h.nc _ hh) (by simp[Obj.isBox])
  ·cases hc
 ·rw[h.other b e];exact hc
theorem Put.block {l:Nat} {w w':World} (h:Put l w w') {b:Nat} {o:Obj} (hc:w.heap[b]? = some o) (ho:o.isBox=true:=by first | rfl | exact objOf_isBox _ _):w'.heap[b]? = some o:=by
 rw[h.other b (fun e=>by subst e;rw[h.nc _ hc]at ho;cases ho)];exact hc
def ownX (E:Em):Nat→Prop:=fun b=>(∃ i,E.ι i=some b)∨∃ g cap cur,E.γ g=some (b,cap,cur)
def Ctx.at (w:World) (E0 E:Em) (ms:List Deferred):Ctx:=⟨w,{ E0 with G:=E.G },ownX E,ms⟩
section
variable {P:Program} {c:Ctx} {E:Em} {st:St} {w:World}
theorem Em.le.withG {E0 E:Em} (h:E0.le E):({ E0 with G:=E.G }:Em).le E:=⟨fun _ _ _ h=>h,h.ι,h.κ,h.γ⟩
theorem HR.sub_not' (hw:HR P c E st w) {b:Nat} (hb:b<c.w0.heap.size) (hx:¬ c.X b):¬ ownX E b:=by
 rintro (⟨i,h⟩ | ⟨g,cap,cur,h⟩)
 ·obtain ⟨_,_,_,_,_,_,h5,_⟩:=hw.box i b h
  rcases h5 with h | h
  ·omega
  ·exact hx h
 ·obtain ⟨_,_,_,_,_,_,_,_,_,h7,_⟩:=hw.grp g b cap cur h
  rcases h7 with h | h
  ·omega
  ·exact hx h
theorem HR.own_nc (hw:HR P c E st w) {l:Nat} {o:Obj} (h:w.heap[l]? = some o) (ho:o.isBox=false):¬ ownX E l:=by
 rintro (⟨i,hi⟩ | ⟨g,cap,cur,hg⟩)
 ·obtain ⟨_,_,_,h2,_⟩:=hw.box i l hi
  rw[h2]at h;cases h;rw[objOf_isBox]at ho;cases ho
 ·obtain ⟨_,_,_,_,h2,_⟩:=hw.grp g l cap cur hg
  rw[h2]at h;cases h;simp[Obj.isBox]at ho
theorem HR.enterP (hw:HR P c E st w) {E0:Em} (hle:E0.le E) {l:Nat} {w':World} (hp:Put l w w') (ms:List Deferred):HR P (.at w' E0 E ms) E st w' where
 os:=rfl
 tape:=⟨rfl,Nat.le_refl _⟩
 output:=⟨rfl,fun _ _=>rfl⟩
 size:=Nat.le_refl _
 old _ _ _:=rfl
 le:=hle.withG
 gnew _ _ _ _:=rfl
 gok b o u h:=⟨hp.cell (hw.gok b o u h).1,(hw.gok b o u h).2⟩
 box i b h:=by
  obtain ⟨B,vs,h1,h2,h3,h4,h5,h6⟩:=hw.box i b h
  exact ⟨B,vs,h1,hp.block h2,h3,h4,.inr (.inl ⟨i,h⟩),h6⟩
 inj:=hw.inj
 grp g b cap cur h:=by
  obtain ⟨e,vs,inf,h1,h2,h3,h4,h5,h6,h7,h8⟩:=hw.grp g b cap cur h
  exact ⟨e,vs,inf,h1,hp.block h2,h3,h4,h5,h6,.inr (.inr ⟨g,cap,cur,h⟩),h8⟩
 ginj:=hw.ginj
 apart:=hw.apart
 dead:=hw.dead
 kap:=hw.kap
theorem HR.leaveP (hw:HR P c E st w) {E0:Em} {ms:List Deferred} {l:Nat} {w1 w2 w3:World} (hp:Put l w w1) {E':Em} {st':St} (h:HR P (.at w1 E0 E ms) E' st' w2) (hle:c.E0.le E') (hp2:Put l w2 w3) {o2:Obj}
  (hl:w3.heap[l]? = some o2) (ho2:o2.isBox=false) (hX:l<c.w0.heap.size→¬ c.X l):HR P (c.put l o2) E' st' w3 where
 os:=hp2.os.trans (h.os.trans (hp.os.trans hw.os))
 tape:=td (td (td hw.tape hp.tape) h.tape) hp2.tape
 output:=by
  refine ⟨hp2.output.trans (h.output.1.trans (hp.output.trans hw.output.1)),fun a ha=>?_⟩
  have ha':a.block<c.w0.heap.size:=by simpa [Ctx.put,World.putObj] using ha
  rw[hp2.frz,h.output.2 a (by show a.block<w1.heap.size;rw[hp.size];exact Nat.lt_of_lt_of_le ha' hw.size)]
  show w1.frozen? a=(c.w0.putObj l o2).frozen? a
  rw[hp.frz,hw.output.2 a ha']
  by_cases hlt:l<c.w0.heap.size
  ·obtain ⟨o0,h0⟩:∃ o0,c.w0.heap[l]? = some o0:=⟨_,Array.getElem?_eq_getElem hlt⟩
   have h1:=hw.old l hlt (hX hlt)
   exact ((Put.put h0 (hp.nc _ (h1.trans h0)) ho2).frz a).symm
  ·have:c.w0.putObj l o2=c.w0:=by simp[World.putObj,Array.setIfInBounds,hlt]
   rw[this]
 size:=by
  show (c.w0.putObj l o2).heap.size≤_
  have h1:=hw.size
  have h2:w1.heap.size≤w2.heap.size:=h.size
  have:=hp.size;have:=hp2.size
  simp[World.putObj];omega
 old k hk hx:=by
  have hk':k<c.w0.heap.size:=by simpa [Ctx.put,World.putObj] using hk
  by_cases e:k=l
  ·subst e
   rw[hl]
   exact (World.putObj_heap_same hk').symm
  ·show _=(c.w0.putObj l o2).heap[k]?
   rw[World.putObj_heap_other e,hp2.other k e,←hw.old k hk' hx,←hp.other k e]
   exact h.old k (by show k<w1.heap.size;have:=hw.size;have:=hp.size;omega) (hw.sub_not' hk' hx)
 le:=hle
 gnew b o hb hx:=by
  have hb':b<c.w0.heap.size:=by simpa [Ctx.put,World.putObj] using hb
  exact (h.gnew b o (by show b<w1.heap.size;have:=hw.size;have:=hp.size;omega) (hw.sub_not' hb' hx)).trans (hw.gnew b o hb' hx)
 gok b o u hb:=⟨hp2.cell (h.gok b o u hb).1,(h.gok b o u hb).2⟩
 box i b hi:=by
  obtain ⟨B,vs,h1,h2,h3,h4,h5,h6⟩:=h.box i b hi
  refine ⟨B,vs,h1,hp2.block h2,h3,h4,?_,h6⟩
  have hs:(c.put l o2).w0.heap.size=c.w0.heap.size:=by simp[Ctx.put,World.putObj]
  rw[hs]
  rcases h5 with h5 | ⟨j,h5⟩ | ⟨g,cap,cur,h5⟩
  ·left;have:w1.heap.size≤b:=h5;have:=hw.size;have:=hp.size;omega
  ·obtain ⟨_,_,_,_,_,_,q,_⟩:=hw.box j b h5;exact q
  ·obtain ⟨_,_,_,_,_,_,_,_,_,q,_⟩:=hw.grp g b cap cur h5;exact q
 inj:=h.inj
 grp g b cap cur hg:=by
  obtain ⟨e,vs,inf,h1,h2,h3,h4,h5,h6,h7,h8⟩:=h.grp g b cap cur hg
  refine ⟨e,vs,inf,h1,hp2.block h2,h3,h4,h5,h6,?_,h8⟩
  have hs:(c.put l o2).w0.heap.size=c.w0.heap.size:=by simp[Ctx.put,World.putObj]
  rw[hs]
  rcases h7 with h5 | ⟨j,h5⟩ | ⟨g,cap,cur,h5⟩
  ·left;have:w1.heap.size≤b:=h5;have:=hw.size;have:=hp.size;omega
  ·obtain ⟨_,_,_,_,_,_,q,_⟩:=hw.box j b h5;exact q
  ·obtain ⟨_,_,_,_,_,_,_,_,_,q,_⟩:=hw.grp g b cap cur h5;exact q
 ginj:=h.ginj
 apart:=h.apart
 dead:=h.dead
 kap:=h.kap
theorem Ctx.put_same {l:Nat} {o:Obj} (h:c.w0.heap.size≤l∨c.w0.heap[l]? = some o):c.put l o=c:=by
 have:c.w0.putObj l o=c.w0:=by
  rcases h with h | h
  ·simp[World.putObj,Array.setIfInBounds,Nat.not_lt.2 h]
  ·have hlt:=lt_of_heap h
   simp only[World.putObj]
   congr 1
   apply Array.ext (by simp)
   intro i h1 h2
   rw[Array.getElem_setIfInBounds]
   split
   ·rename_i e;subst e;rw[Array.getElem?_eq_getElem hlt]at h;exact (Option.some.inj h).symm
   ·rfl
 simp[Ctx.put,this]
theorem HR.putNew (hw:HR P c E st w) {l:Nat} {o o':Obj} (hl:w.heap[l]? = some o) (ho:o.isBox=false) (ho':o'.isBox=false) (hge:c.w0.heap.size≤l):HR P c E st (w.putObj l o'):=by
 have hp:Put l w w:=.refl fun o2 h=>by rw[h]at hl;cases hl;exact ho
 have:=hw.leaveP (o2:=o') hp (hw.enterP (E0:=E) (Em.le.refl E) hp []) hw.le (Put.put hl ho ho') (World.putObj_heap_same (lt_of_heap hl)) ho' (fun h=>by omega)
 rwa [Ctx.put_same (.inl hge)]at this
theorem HR.N_lt (hw:HR P c E st w) {i x:Nat} (h:E.N i x):i<st.box.length:=by
 rcases h with hι | hδ
 ·obtain ⟨B,_,q1,_⟩:=hw.box i x hι;exact (List.getElem?_eq_some_iff.1 q1).1
 ·obtain ⟨B,q1,_⟩:=hw.dead i x hδ;exact (List.getElem?_eq_some_iff.1 q1).1
theorem HR.γ_lt' (hw:HR P c E st w) {g:Nat} {t:Nat×Nat×Nat} (h:E.γ g=some t):g<st.grp.length:=by
 obtain ⟨b,cap,cur⟩:=t
 obtain ⟨e,vs,inf,q1,_⟩:=hw.grp g b cap cur h
 exact (List.getElem?_eq_some_iff.1 q1).1
def markOf (r:Nat):Deferred:={ target:=.collected r,args:=#[] }
structure Ext (P:Program) (c c':Ctx):Prop where
 hr:∀ E st w,HR P c' E st w→HR P c E st w
 E0:∃ G,c'.E0={ c.E0 with G:=G }
 size:c.w0.heap.size≤c'.w0.heap.size
 kept:∀ k,k<c.w0.heap.size→¬ c.X k→¬ c'.X k∧c'.w0.heap[k]? = c.w0.heap[k]?
 ms:∃ rs:List Nat,c'.ms=rs.map markOf ++ c.ms∧rs.Nodup∧∀ r∈rs,c.w0.heap.size≤r∧r<c'.w0.heap.size∧¬ c'.X r∧c'.w0.heap[r]? = some (.deferred (some []))
theorem Ext.refl (c:Ctx):Ext P c c:=⟨fun _ _ _ h=>h,⟨c.E0.G,rfl⟩,Nat.le_refl _,fun _ _ h=>⟨h,rfl⟩,⟨[],rfl,List.nodup_nil,fun _ h=>by simp at h⟩⟩
theorem Ext.trans {c1 c2 c3:Ctx} (h:Ext P c1 c2) (k:Ext P c2 c3):Ext P c1 c3 where
 hr E st w hw:=h.hr E st w (k.hr E st w hw)
 E0:=by obtain ⟨G,e⟩:=h.E0;obtain ⟨G',e'⟩:=k.E0;exact ⟨G',by rw[e',e]⟩
 size:=Nat.le_trans h.size k.size
 kept i hi hX:=by
  obtain ⟨q1,q2⟩:=h.kept i hi hX
  obtain ⟨q3,q4⟩:=k.kept i (Nat.lt_of_lt_of_le hi h.size) q1
  exact ⟨q3,q4.trans q2⟩
 ms:=by
  obtain ⟨rs,e,n,hr⟩:=h.ms
  obtain ⟨rs',e',n',hr'⟩:=k.ms
  refine ⟨rs' ++ rs,by rw[e',e];simp,List.nodup_append.2 ⟨n',n,fun a ha b hb hab=>?_⟩,fun r hm=>?_⟩
  ·subst hab
   have:=(hr' a ha).1;have:=(hr a hb).2.1;omega
  ·rcases List.mem_append.1 hm with hm | hm
   ·obtain ⟨q1,q2,q4,q5⟩:=hr' r hm
    exact ⟨Nat.le_trans h.size q1,q2,q4,q5⟩
   ·obtain ⟨q1,q2,q4,q5⟩:=hr r hm
    obtain ⟨k1,k2⟩:=k.kept r q2 q4
    exact ⟨q1,Nat.lt_of_lt_of_le q2 k.size,k1,k2.trans q5⟩
theorem GcOK.congr {c c':Ctx} {G:Mem} (h:c'.E0={ c.E0 with G:=G }):∀ {ac:AC},GcOK c ac→GcOK c' ac
 | .seq x y,k=>⟨GcOK.congr h k.1,GcOK.congr h k.2⟩
 | .cond _ x y,k=>⟨GcOK.congr h k.1,GcOK.congr h k.2⟩
 | .blk _ x,k=>GcOK.congr (ac:=x) h k
 | .loop q _ x,k=>⟨fun b g e=>by
   obtain ⟨k1,k2⟩:=k.1 b g e
   rw[h]
   exact ⟨k1,k2⟩,GcOK.congr (ac:=x) h k.2⟩
 | .rf _ _ _ _ it as bd,k=>⟨GcOK.congr h k.1,GcOK.congr h k.2.1,GcOK.congr h k.2.2⟩
 | .iy _ _ _ x y,k=>⟨GcOK.congr h k.1,GcOK.congr h k.2⟩
 | .rg _,_=>trivial
 | .dr _,_=>trivial
 | .exit _,_=>trivial
 | .ret,_=>trivial
 | .skip,_=>trivial
 | .dead,_=>trivial
def liftB (P:Program) (c:Ctx) (n:Nat) (Q:Ax→Env→St→Prop):Exit→Act→World→Prop
 | .normal,a,w=>∃ c' E ρ st,Ext P c c'∧HR P c' E st w∧RE c' E n ρ a∧Q .n ρ st
 | .exit id,a,w=>∃ c' E ρ st,Ext P c c'∧HR P c' E st w∧RE c' E n ρ a∧Q (.x id) ρ st
 | .ret,a,w=>∃ c' E ρ st,Ext P c c'∧HR P c' E st w∧RE c' E n ρ a∧Q .r ρ st
 | _,_,_=>False
theorem liftB.of {n:Nat} {Q:Ax→Env→St→Prop}:∀ e a w,lift P c n none Q e a w→liftB P c n Q e a w:=by
 intro e a w h
 cases e <;> simp only[lift,liftB]at h ⊢
 ·obtain ⟨E,ρ,st,h⟩:=h;exact ⟨c,E,ρ,st,.refl c,h⟩
 ·obtain ⟨E,ρ,st,h⟩:=h;exact ⟨c,E,ρ,st,.refl c,h⟩
 all_goals first
  | exact h.elim
  | skip
 rcases h with ⟨E,ρ,st,h⟩ | ⟨_,_,_,_,_,_,h,_⟩
 ·exact ⟨c,E,ρ,st,.refl c,h⟩
 ·cases h
theorem liftB.ext {c c':Ctx} {n:Nat} {Q:Ax→Env→St→Prop} (hx:Ext P c c'):∀ e a w,liftB P c' n Q e a w→liftB P c n Q e a w:=by
 intro e a w h
 cases e <;> simp only[liftB]at h ⊢ <;> first
  | exact h.elim
  | (obtain ⟨c2,E,ρ,st,h1,h2⟩:=h;exact ⟨c2,E,ρ,st,hx.trans h1,h2⟩)
theorem liftB.noGoto {n:Nat} {Q:Ax→Env→St→Prop}:∀ e a w,liftB P c n Q e a w→Exit.noGoto (liftB P c n Q) e a w:=by
 intro e a w h
 cases e <;> simp only[liftB,Exit.noGoto]at h ⊢ <;> first | exact h | exact h.elim
theorem liftB.thn {n:Nat} {K:Env→St→Prop} {Q:Ax→Env→St→Prop} {next:Act→World→Prop} (hn:∀ c' E ρ st a w,Ext P c c'→HR P c' E st w→RE c' E n ρ a→K ρ st→next a w) :
  ∀ e a w,liftB P c n (Ax.thn K Q) e a w→Exit.then next (liftB P c n Q) e a w:=by
 intro e a w h
 cases e <;> simp only[liftB,Exit.then]at h ⊢
 case normal=>obtain ⟨c',E,ρ,st,h0,h1,h2,h3⟩:=h;exact hn c' E ρ st a w h0 h1 h2 h3
 all_goals first | exact h | exact h.elim
theorem liftB.blk {n:Nat} {id:Nat} {Q:Ax→Env→St→Prop}:∀ e a w,liftB P c n (Ax.blk id Q) e a w→Exit.inBlock id (liftB P c n Q) e a w:=by
 intro e a w h
 cases e <;> simp only[liftB,Exit.inBlock]at h ⊢
 case exit i=>
  obtain ⟨c',E,ρ,st,h0,h1,h2,h3⟩:=h
  simp only[Ax.blk]at h3
  split <;> rename_i hi
  ·rw[if_pos hi]at h3;exact ⟨c',E,ρ,st,h0,h1,h2,h3⟩
  ·rw[if_neg hi]at h3;exact ⟨c',E,ρ,st,h0,h1,h2,h3⟩
 all_goals first | exact h | exact h.elim
theorem bindPs_RE {n:Nat}:∀ (ps:List Nat) (ds:List D) (vs:List Value) (ρ:Env) (tm:Array Value),vs.length=ds.length→(∀ p∈ps,p<n)→tm.size=n→(∀ i,i<ds.length→RD E (ds.getD i default) (vs.getD i undef))→(∀ t,RD E (ρ.get t) (tm.getD t undef)) →
  ((ps.zip vs).foldl (fun t (p,v)=>t.setIfInBounds p v) tm).size=n∧∀ t,RD E ((bindPs ps ds ρ).get t) (((ps.zip vs).foldl (fun t (p,v)=>t.setIfInBounds p v) tm).getD t undef)
 | [],ds,vs,ρ,tm,_,_,hs,_,hR=>by cases ds <;> exact ⟨by simpa using hs,by simpa [bindPs] using hR⟩
 | p :: ps,[],vs,ρ,tm,hl,_,hs,_,hR=>by
  have:vs=[]:=List.length_eq_zero_iff.1 hl
  subst this
  exact ⟨by simpa using hs,by simpa [bindPs] using hR⟩
 | p :: ps,d :: ds,[],ρ,tm,hl,_,hs,_,hR=>by simp at hl
 | p :: ps,d :: ds,v :: vs,ρ,tm,hl,hp,hs,hd,hR=>by
  simp only[List.zip_cons_cons,List.foldl_cons,bindPs]
  refine bindPs_RE ps ds vs _ _ (by simpa using hl) (fun q hq=>hp q (List.mem_cons_of_mem _ hq)) (by simpa using hs) (fun i hi=>by simpa using hd (i+1) (by simpa using hi)) fun t=>?_
  simp only[Env.get]
  split
  ·rename_i e
   subst e
   have:=hp p List.mem_cons_self
   simpa [hs,this] using hd 0 (by simp)
  ·rename_i e
   have:=hR t
   simpa [Array.getElem?_setIfInBounds_ne e] using this
theorem frozen_alloc_nc (w:World) (o:Obj) (ho:o.isBox=false) (a:Addr):(w.alloc o).frozen? a=w.frozen? a:=by
 unfold World.frozen?
 by_cases e:a.block<w.heap.size
 ·rw[heap_alloc_old _ _ _ e]
 ·rw[Array.getElem?_eq_none (xs:=w.heap) (by omega)]
  by_cases e2:a.block=w.heap.size
  ·rw[e2,World.alloc_heap_new]
   cases o <;> simp_all [Obj.isBox]
  ·rw[Array.getElem?_eq_none (by rw[World.size_alloc];omega)]
theorem rounds_mono {F:Fence} {m:Nat} {code:Code} {Q Q':Exit→Act→World→Prop} (h:∀ e a w,Q e a w→Q' e a w):∀ (k:Nat) (a:Act) (w:World),Code.roundsIn F m P code Q k a w→Code.roundsIn F m P code Q' k a w
 | 0,_,_,h=>h
 | k+1,a,w,hk=>by
  rw[roundsIn_succ]at hk ⊢
  refine wpIn_mono hk fun e a w he=>?_
  cases e <;> simp only[Exit.then]at he ⊢ <;> first
   | exact rounds_mono h k _ _ he
   | exact h _ _ _ he
theorem enters {f : FuncId} {fn : Func} {cb : Code} (hf : P.funcs[f]? = some fn) (hname : (fn.name == "runtime.NumGoroutine") = false) (hb : fn.body = some cb) (args : Array Value) (w : World) : (callFunc f args).run P w = .ok (.enter f args) w := by
 have h1 : fn.name ≠ "runtime.NumGoroutine" := by simpa using hname
 simp[callFunc,hf,h1,hb]
theorem rf_round (hm:P.follows .mixedOrders=true) {C:CallW} (hC:∀ c f ds st K,C f ds st K→CW P c (fun _=>True) f ds st K) {n:Nat} {ga gb as bd:AC} {asC bdC:Code} (h1:compA P ga n (strip asC)=some as) (h2:compA P gb n (strip bdC)=some bd) (hfa:rfFree as=true) (hfb:rfFree bd=true)
   {ps:Array Nat} (hps:∀ p∈ps.toList,p<n) {a:Act} {ρ:Env} {ci:Ctx} {l fnid D:Nat} (hl:l<ci.w0.heap.size) (hX:¬ ci.X l) (hsz:a.tmps.size=n) (hgl0:GLB ci.E0.G) (hρ:∀ t,RD ci.E0 (ρ.get t) (a.tmps.getD t undef))
   {r0:Loop} (hr0:r0={ state:=.ready,pending:=none,fn:=fnid,tmps:=a.tmps,params:=ps,assign:=asC,body:=bdC,defers:=D }) (hl0:ci.w0.heap[l]? = some (.loop r0)) :
   HdlOK P ci (fun l' ds st Kt Kf => l' = l ∧ ds.length = ps.toList.length ∧ gcBase st.box.length st.grp.length as = true ∧
         wpA C (CPo P) as noH (Ax.thn (fun ρ' st'=>gcBase st'.box.length st'.grp.length bd=true∧wpA C (CPo P) bd noH (roundQ Kt Kf) ρ' st') fun _ _ _=>False) (bindPs ps.toList ds ρ) st) (some (l,r0)):=by
 rintro l' ds st2 Kt Kf ⟨rfl,hlen,hga,hA⟩
 refine ⟨r0,rfl,hl,hX,fun E2 w2 hw2 vs hvs hR=>?_⟩
 have hh2:w2.heap[l']? = some (.loop r0):=(hw2.old l' hl hX).trans hl0
 refine ⟨hh2,by rw[hr0];simp only;rw[hvs,hlen];simp,fun m=>?_⟩
 have nc2:Put l' w2 w2:=.refl fun _ h=>by rw[h]at hh2;cases hh2;rfl
 have e1:r0.fn=fnid:=by rw[hr0]
 have e2:r0.assign=asC:=by rw[hr0]
 have e3:r0.body=bdC:=by rw[hr0]
 have e4:r0.params=ps:=by rw[hr0]
 have e5:r0.tmps=a.tmps:=by rw[hr0]
 have e6:r0.state=.ready:=by rw[hr0]
 rw[e1,e2,e3,e4,e5]
 refine roundIn_of_wpIn trivial ?_
 show asC.wpIn (FR (some l')) m P _ _ w2
 have hwa:HR P (.at w2 E2 E2 []) E2 st2 w2:=hw2.enterP (Em.le.refl E2) nc2 []
 have hb:=bindPs_RE (E:=E2) (n:=n) ps.toList ds vs.toList ρ a.tmps (by simpa using hvs) hps hsz (fun i hi=>by simpa using hR i hi) (fun t=>(hρ t).mono hw2.le)
 have ezip:((ps.zip vs).foldl (fun t (x:Nat×Value)=>t.setIfInBounds x.1 x.2) a.tmps)=((ps.toList.zip vs.toList).foldl (fun t (x:Nat×Value)=>t.setIfInBounds x.1 x.2) a.tmps):=by
   rw[←Array.foldl_toList,Array.toList_zip]
 refine wpIn_mono (strip_in lift_noGoto (wpA_sound (c:=.at w2 E2 E2 []) hm (some l') m (yl:=none) ga n (strip asC) as h1 hfa (GcOK.of (fun i x hN=>hw2.N_lt hN) (fun j t ht=>hw2.γ_lt' ht) hga) noH .no _ _ st2
   (wpA_call (fun f ds st K h=>hC _ f ds st K h) CW.cmono (fun _ _ _ _ _ h=>h) CPo.cmono as noH noH (fun _ _ _ _ _ h=>h) .no _ _ (fun _ _ _ h=>h) _ _ hA) E2 _ w2 hwa ⟨⟨rfl,hgl0.mono hw2.le.G⟩,?_,fun t=>?_⟩)) ?_
 · exact (congrArg Array.size ezip).trans hb.1
 · have:=hb.2 t
   rw[←ezip]at this
   exact this
 · intro e a3 w3 he
   cases e <;> simp only[lift,Exit.then,Ax.thn]at he ⊢
   case exit=>obtain ⟨_,_,_,_,_,h⟩:=he;exact h
   case ret=>rcases he with ⟨_,_,_,_,_,h⟩ | ⟨_,_,_,_,_,_,h,_⟩ <;> first | exact h | cases h
   case normal=>
     obtain ⟨E3,ρ3,st3,hw3,ha3,hgb,hB⟩:=he
     have hl2:l'<w2.heap.size:=lt_of_heap hh2
     have hX2:¬ ownX E2 l':=hw2.own_nc hh2 rfl
     have hh3:w3.heap[l']? = some (.loop r0):=(hw3.old l' hl2 hX2).trans hh2
     have hX3:¬ ownX E3 l':=hw3.own_nc hh3 rfl
     have hb3:(Instr.beginRound l').run P w3=.ok () (w3.putObj l' (.loop { r0 with state:=.busy })):=run_beginRound hh3 e6
     refine ⟨_,hb3,?_⟩
     have hp3:Put l' w3 (w3.putObj l' (.loop { r0 with state:=.busy })):=.put hh3 rfl rfl
     have nc3:Put l' w3 w3:=.refl fun _ h=>by rw[h]at hh3;cases hh3;rfl
     have hwb:HR P (.at (w3.putObj l' (.loop { r0 with state:=.busy })) E3 E3 []) E3 st3 _:=hw3.enterP (Em.le.refl E3) hp3 []
     have hci3:HR P ci E3 st3 w3:=by
       have:=hw2.leaveP (o2:=.loop r0) nc2 hw3 (hw2.le.trans ⟨hw3.le.G,hw3.le.ι,hw3.le.κ,hw3.le.γ⟩) nc3 hh3 rfl (fun _=>hX)
       rwa [Ctx.put_same (.inr hl0)]at this
     have hle23:E2.le E3:=hw3.le
     refine wpIn_mono (strip_in lift_noGoto (wpA_sound (c:=.at (w3.putObj l' (.loop { r0 with state:=.busy })) E3 E3 []) hm (some l') m (yl:=none) gb n (strip bdC) bd h2 hfb
       (GcOK.of (fun i x hN=>hw3.N_lt hN) (fun j t ht=>hw3.γ_lt' ht) hgb) noH .no _ _ st3
       (wpA_call (fun f ds st K h=>hC _ f ds st K h) CW.cmono (fun _ _ _ _ _ h=>h) CPo.cmono bd noH noH (fun _ _ _ _ _ h=>h) .no _ _ (fun _ _ _ h=>h) _ _ hB) E3 a3 _ hwb ⟨ha3.1,ha3.2.1,ha3.2.2⟩)) ?_
     · intro e a4 w4 he
       have fin:∀ (jump:Option Code) E4 st4,HR P (.at (w3.putObj l' (.loop { r0 with state:=.busy })) E3 E3 []) E4 st4 w4 →
           (Instr.endRound l' jump).run P w4=.ok (.bool jump.isNone) (w4.putObj l' (.loop { r0 with state:=if jump.isNone then .ready else .done,pending:=jump })) ∧
           E2.le E4∧HR P (ci.put l' (.loop { r0 with state:=if jump.isNone then .ready else .done,pending:=jump })) E4 st4 (w4.putObj l' (.loop { r0 with state:=if jump.isNone then .ready else .done,pending:=jump })):=fun jump E4 st4 hw4=>by
         have hl3:l'<w3.heap.size:=lt_of_heap hh3
         have hh4:w4.heap[l']? = some (.loop { r0 with state:=.busy }):=(hw4.old l' (by simpa [Ctx.at,World.putObj] using hl3) hX3).trans (World.putObj_heap_same hl3)
         have hle34:E3.le E4:=hw4.le
         have hq:=run_endRound (P:=P) jump hh4
         refine ⟨hq,hle23.trans hle34,?_⟩
         exact hci3.leaveP hp3 hw4 (hci3.le.trans hle34) (Put.put hh4 rfl rfl) (World.putObj_heap_same (lt_of_heap hh4)) rfl (fun _=>hX)
       cases e <;> simp only[lift,roundPost,roundQ]at he ⊢
       case normal=>
         obtain ⟨E4,ρ4,st4,hw4,_,hk⟩:=he
         obtain ⟨q1,q2,q3⟩:=fin none E4 st4 hw4
         refine ⟨_,_,q1,.inl ⟨rfl,E4,st4,q2,?_,hk⟩⟩
         have e0:({ r0 with state:=if (none:Option Code).isNone then .ready else .done,pending:=none }:Loop)=r0:=by rw[hr0];rfl
         rw[e0]at q3 ⊢
         rwa [Ctx.put_same (.inr hl0)]at q3
       case exit id=>
         obtain ⟨E4,ρ4,st4,hw4,_,hk⟩:=he
         obtain ⟨q1,q2,q3⟩:=fin (some (.exit id)) E4 st4 hw4
         exact ⟨_,_,q1,.inr ⟨some id,rfl,E4,st4,q2,q3,hk⟩⟩
       case ret=>
         rcases he with ⟨E4,ρ4,st4,hw4,_,hk⟩ | ⟨_,_,_,_,_,_,h,_⟩
         · obtain ⟨q1,q2,q3⟩:=fin (some .ret) E4 st4 hw4
           exact ⟨_,_,q1,.inr ⟨none,rfl,E4,st4,q2,q3,hk⟩⟩
         · cases h
theorem args_RE {n:Nat} {args:List D} {vs:Array Value} (hs:vs.size=args.length) (hn:args.length≤n) (hR:∀ i,i<args.length→RD E (args.getD i default) (vs.getD i undef)) :
  (vs ++ Array.replicate (n - vs.size) undef).size=n∧∀ t,RD E ((argsEnv 0 args).get t) ((vs ++ Array.replicate (n - vs.size) undef).getD t undef):=by
 refine ⟨by simp;omega,fun t=>?_⟩
 rw[argsEnv_get]
 split
 ·rename_i ht
  have:=hR t (by omega)
  have e:(vs ++ Array.replicate (n - vs.size) undef).getD t undef=vs.getD t undef:=by
   have hlt:t<vs.size:=by omega
   have e0:∀ (a:Array Value),a.getD t undef=(a[t]?).getD undef:=fun a=>by simp
   rw[e0,e0,Array.getElem?_append_left hlt]
  simp only[Nat.sub_zero]
  rw[e];exact this
 ·exact .bad _
theorem three_RD {first captured:List D} {x:D} {us ws:Array Value} {u:Value} (hs:us.size=first.length) (ht:ws.size=captured.length) (hR:∀ i,i<first.length→RD E (first.getD i default) (us.getD i undef)) (hx:RD E x u)
  (hT:∀ i,i<captured.length→RD E (captured.getD i default) (ws.getD i undef)):∀ i,i<(first ++ [x] ++ captured).length→RD E ((first ++ [x] ++ captured).getD i default) ((us ++ #[u] ++ ws).getD i undef):=fun i hi=>by
 have hge:∀ (a:Array Value) j,a.getD j undef=(a[j]?).getD undef:=fun a j=>by simp
 rw[hge]
 simp only[List.getD]
 by_cases h1:i<first.length
 ·rw[List.append_assoc,List.getElem?_append_left h1,Array.append_assoc,Array.getElem?_append_left (by omega),←hge]
  exact hR i h1
 ·by_cases h2:i<first.length+1
  ·rw[List.getElem?_append_left (by simp;omega),List.getElem?_append_right (by omega),Array.getElem?_append_left (by simp;omega),Array.getElem?_append_right (by omega),hs]
   have:i - first.length=0:=by omega
   rw[this];exact hx
  ·rw[List.getElem?_append_right (by simp;omega),Array.getElem?_append_right (by simp;omega),←hge]
   have e:i - (us ++ #[u]).size=i - (first ++ [x]).length:=by simp[hs]
   rw[e]
   exact hT _ (by simp at hi ⊢;omega)
theorem wpB_sound (hm:P.follows .mixedOrders=true) {C:CallW} (hCm:CMono C) (hC:∀ c f ds st K,C f ds st K→CW P c (fun _=>True) f ds st K):∀ (g:AC) (n:Nat) (code:Code) (ac:AC),compA P g n code=some ac→∀ (c:Ctx),GcOK c ac→∀ (Q:Ax→Env→St→Prop) ρ st,wpA C (CPo P) ac noH Q ρ st →
   ∀ E a w,HR P c E st w→RE c E n ρ a→code.wpIn (FR none) 0 P (liftB P c n Q) a w:=by
 have plain:∀ (g:AC) (n:Nat) (code:Code) (ac:AC),compA P g n code=some ac→rfFree ac=true→∀ (c:Ctx),GcOK c ac→∀ (Q:Ax→Env→St→Prop) ρ st,wpA C (CPo P) ac noH Q ρ st →
   ∀ E a w,HR P c E st w→RE c E n ρ a→code.wpIn (FR none) 0 P (liftB P c n Q) a w:=fun g n code ac hc hf c hg Q ρ st h E a w hw ha=>
   wpIn_mono (wpA_sound hm none 0 g n code ac hc hf hg noH .no Q ρ st (wpA_call (fun f ds st K h=>hC _ f ds st K h) CW.cmono (fun _ _ _ _ _ h=>h) CPo.cmono ac noH noH (fun _ _ _ _ _ h=>h) .no _ _ (fun _ _ _ h=>h) _ _ h) E a w hw ha) liftB.of
 intro g
 induction g with
 | rg l=>
   intro n code ac hc
   refine plain _ n code ac hc ?_
   cases code <;> simp only[compA,reduceCtorEq]at hc
   rename_i id ops draw
   cases draw <;> simp only[reduceCtorEq]at hc
   split at hc
   · simp only[Option.map_eq_some_iff]at hc;obtain ⟨_,_,rfl⟩:=hc;rfl
   · cases hc
 | dr segs=>
   intro n code ac hc
   refine plain _ n code ac hc ?_
   cases code <;> simp only[compA,reduceCtorEq]at hc
   rename_i id ops draw
   cases draw <;> simp only[reduceCtorEq]at hc
   split at hc
   · simp only[Option.bind_eq_some_iff]at hc
     obtain ⟨_,_,hc⟩:=hc
     split at hc
     · obtain rfl:=Option.some.inj hc;rfl
     · cases hc
   · cases hc
 | seq x y ihx ihy=>
   intro n code ac hc c hg Q ρ st h E a w hw ha
   cases code <;> simp only[compA,Option.bind_eq_some_iff,Option.map_eq_some_iff,reduceCtorEq]at hc
   obtain ⟨x',hx,y',hy,rfl⟩:=hc
   exact wpIn_seq (wpIn_mono (strip_in liftB.noGoto (ihx _ _ _ hx c hg.1 _ ρ st h E a w hw ha)) (liftB.thn fun c' E' ρ' st' a' w' h0 h1 h2 h3=>by
     obtain ⟨G,hG⟩:=h0.E0
     exact wpIn_mono (strip_in liftB.noGoto (ihy _ _ _ hy c' (hg.2.congr hG) Q ρ' st' h3 E' a' w' h1 h2)) (liftB.ext h0)))
 | cond q x y ihx ihy=>
   intro n code ac hc c hg Q ρ st h E a w hw ha
   cases code <;> simp only[compA,Option.bind_eq_some_iff,Option.map_eq_some_iff,reduceCtorEq]at hc
   rename_i q _ _
   obtain ⟨x',hx,y',hy,rfl⟩:=hc
   simp only[wpA]at h
   have hq:=ha.ev q
   split at h
   · rename_i t ht
     rw[ht]at hq
     exact wpIn_cond_split hq.v_inv (fun e=>strip_in liftB.noGoto (ihx _ _ _ hx c hg.1 Q ρ st (h.1 e) E a w hw ha)) (fun e=>strip_in liftB.noGoto (ihy _ _ _ hy c hg.2 Q ρ st (h.2 e) E a w hw ha))
   · exact h.elim
 | blk id x ih=>
   intro n code ac hc c hg Q ρ st h E a w hw ha
   cases code <;> simp only[compA,Option.map_eq_some_iff,reduceCtorEq]at hc
   obtain ⟨x',hx,rfl⟩:=hc
   exact wpIn_block (wpIn_mono (strip_in liftB.noGoto (ih _ _ _ hx c hg _ ρ st h E a w hw ha)) liftB.blk)
 | loop q keep x ih=>
   intro n code ac hc c hg Q ρ st h E a w hw ha
   cases code <;> simp only[compA,Option.map_eq_some_iff,reduceCtorEq]at hc
   rename_i code
   obtain ⟨x',hx,rfl⟩:=hc
   simp only[wpA]at h
   obtain ⟨k,h⟩:=h
   refine wpIn_loop_rounds k ?_
   have key:∀ (k:Nat) c ρ st E a w,GcOK c (.loop q keep x')→HR P c E st w→RE c E n ρ a→LoopN (wpA C (CPo P) x' noH) q keep Q k ρ st→Code.roundsIn (FR none) 0 P code (liftB P c n Q) k a w:=by
     intro k
     induction k with
     | zero=>intro c ρ st E a w _ _ _ h;exact h.elim
     | succ k ihk=>
       intro c ρ st E a w hg hw ha h
       obtain ⟨ρ1,st1,hs,h⟩:=h
       obtain ⟨E1,hw,ha⟩:=hs.use hg.1 hw ha
       rw[roundsIn_succ]
       refine wpIn_mono (strip_in liftB.noGoto (ih _ _ _ hx c hg.2 _ _ st1 h E1 a w hw ha)) (liftB.thn fun c' E' ρ' st' a' w' h0 h1 h2 h3=>?_)
       obtain ⟨G,hG⟩:=h0.E0
       exact rounds_mono (liftB.ext h0) k _ _ (ihk c' _ st' E' a' w' (hg.congr hG) h1 (h2.keep keep) h3)
   exact key k c _ st E a w hg hw (ha.keep keep) h
 | exit id=>intro n code ac hc;refine plain _ n code ac hc ?_;cases code <;> simp only[compA,Option.some.injEq,reduceCtorEq]at hc;subst hc;rfl
 | ret=>intro n code ac hc;refine plain _ n code ac hc ?_;cases code <;> simp only[compA,Option.some.injEq,reduceCtorEq]at hc;subst hc;rfl
 | dead=>intro n code ac hc c hg Q ρ st h;simp only[compA,Option.some.injEq]at hc;subst hc;exact h.elim
 | skip=>intro n code ac hc;refine plain _ n code ac hc ?_;cases code <;> simp only[compA,Option.some.injEq,reduceCtorEq]at hc <;> subst hc <;> rfl
 | iy k l t x y ihx ihy=>
   intro n code ac hc
   refine plain _ n code ac hc ?_
   simp only[compA]at hc
   split at hc
   · split at hc
     · simp only[Option.bind_eq_some_iff]at hc
       obtain ⟨l',hl,x',hx,y',hy,hc⟩:=hc
       split at hc
       · rename_i hf;obtain rfl:=Option.some.inj hc;exact hf
       · cases hc
     · cases hc
   · cases hc
 | rf x0 ps0 gf0 nt0 git gas gbd _ _ _=>
   intro n code ac hc c hg Q ρ st h E a w hw ha
   cases code <;> simp only[compA,reduceCtorEq]at hc
   rename_i x ps asC bdC
   split at hc
   · rename_i fn hfn
     split at hc
     · rename_i cb hcb
       simp only[Option.bind_eq_some_iff]at hc
       obtain ⟨it,hit,as,has,bd,hbd,hc⟩:=hc
       split at hc
       · rename_i hcond
         obtain rfl:=Option.some.inj hc
         simp only[Bool.and_eq_true,Bool.not_eq_true']at hcond
         obtain ⟨⟨⟨⟨⟨hf1,hf2⟩,hf3⟩,hres⟩,hpsn⟩,hname⟩:=hcond
         simp only[wpA]at h
         have hx:=ha.ev x
         split at h
         · rename_i g first captured hev
           rw[hev]at hx
           obtain ⟨us,ws,heq,hs,ht,hR,hT⟩:=hx.fn_inv
           obtain ⟨rfl,hlen,hgc,hall⟩:=h
           refine wpIn_rangeFunc fun fnid _=>?_
           obtain ⟨r0,hr0⟩:∃ r0:Loop,r0={ state:=.ready,pending:=none,fn:=fnid,tmps:=a.tmps,params:=ps,assign:=asC,body:=bdC,defers:=w.heap.size }:=⟨_,rfl⟩
           obtain ⟨w1,hw1⟩:∃ w1,(w.alloc (.deferred (some []))).alloc (.loop r0)=w1:=⟨_,rfl⟩
           have hL:w1.heap[w.heap.size+1]? = some (.loop r0):=by
             rw[←hw1];have:=World.alloc_heap_new (w.alloc (.deferred (some []))) (.loop r0);rwa [World.size_alloc]at this
           have hD:w1.heap[w.heap.size]? = some (.deferred (some [])):=by
             rw[←hw1];exact (Below.heap_alloc _ _ _ (by simp)).trans (World.alloc_heap_new w _)
           have hs1:w1.heap.size=w.heap.size+2:=by rw[←hw1];simp
           have hHR1:HR P c E st w1:=by
             have q1:BelowF w.heap.size w (w.alloc (.deferred (some []))):=⟨(Below.refl _ _).alloc (Nat.le_refl _) _,fun a _=>frozen_alloc_nc _ _ rfl a,Nat.le_refl _⟩
             have h2:=hw.grown q1
             rw[←hw1]
             exact h2.grown ⟨(Below.refl _ _).alloc (Nat.le_refl _) _,fun a _=>frozen_alloc_nc _ _ rfl a,Nat.le_refl _⟩
           have ncL:Put (w.heap.size+1) w1 w1:=.refl fun _ h=>by rw[h]at hL;cases hL;rfl
           have hci:HR P (.at w1 E E []) E st w1:=hHR1.enterP (Em.le.refl E) ncL []
           have hXL:¬ ownX E (w.heap.size+1):=hHR1.own_nc hL rfl
           have hXD:¬ ownX E w.heap.size:=hHR1.own_nc hD rfl
           refine ⟨w.heap.size+1,[markOf w.heap.size],w1,{ target:=.fn (.func g) ws,args:=us ++ #[.func (.yield (w.heap.size+1)) #[] #[]] },w1,g,
             us ++ #[.func (.yield (w.heap.size+1)) #[] #[]] ++ ws,w1,?_,?_,fun _ _=>trivial,?_,fun h=>by simp[FR,Fence.wide]at h,?_⟩
           · rw[←hw1,hr0];exact run_enterLoop_outer _ _ _ _ _
           · simp only[resolve,heq]
             simp[go_sem,Deferred.ofValue,Act.eval]
           · simp[invoke,go_sem,enters hfn hname hcb]
           · obtain ⟨e1,e2⟩:=args_RE (E:=E) (n:=fn.ntmps) (args:=first ++ [.fn (.yield (w.heap.size+1)) [] []] ++ captured) (vs:=us ++ #[.func (.yield (w.heap.size+1)) #[] #[]] ++ ws) (by simp[hs,ht];omega) (by simp;omega)
               (three_RD hs ht hR (.fn _ _ _ _ _ rfl rfl (fun i hi=>absurd hi (Nat.not_lt_zero _)) (fun i hi=>absurd hi (Nat.not_lt_zero _))) hT)
             refine callsIn_of_wp (F:=FR none) hfn hcb trivial (wpIn_mono (strip_in lift_noGoto (wpA_sound (c:=.at w1 E E []) hm none 0 (yl:=some (w.heap.size+1,r0)) git fn.ntmps (strip cb) it hit hf1
               (GcOK.of (fun i x hN=>hw.N_lt hN) (fun j t ht=>hw.γ_lt' ht) hgc) _
               (rf_round hm hC has hbd hf2 hf3 (ps:=ps) (fun p hp=>by simpa [Nat.blt_eq] using List.all_eq_true.1 hpsn p hp) (a:=a) (ρ:=ρ) (ci:=.at w1 E E []) (l:=w.heap.size+1) (fnid:=fnid) (D:=w.heap.size) (by show _<w1.heap.size;omega) hXL ha.2.1 ha.1.2 ha.2.2 hr0 hL)
               (iterQ Q ρ) _ st (wpA_call (fun f ds st K h=>hC _ f ds st K h) CW.cmono (fun _ _ _ _ _ h=>h) CPo.cmono it _ _ (fun _ _ _ _ _ h=>h) ?_ _ _ (fun _ _ _ h=>h) _ _ (hall.h (w.heap.size+1))) E _ w1 hci ⟨⟨rfl,ha.1.2⟩,e1,e2⟩)) ?_) rfl
             · intro l' ds st' Kt Kt' Kf Kf' hkt hkf hh
               exact ⟨hh.1,hh.2.1,hh.2.2.1,wpA_call (fun _ _ _ _ h=>h) hCm (fun _ _ _ _ _ h=>h) CPo.cmono as noH noH (fun _ _ _ _ _ h=>h) .no _ _ (thn_mono (fun _ _ h=>⟨h.1,wpA_call (fun _ _ _ _ h=>h) hCm (fun _ _ _ _ _ h=>h) CPo.cmono bd noH noH (fun _ _ _ _ _ h=>h) .no _ _ (roundQ_mono hkt hkf) _ _ h.2⟩) fun _ _ _ h=>h) _ _ hh.2.2.2⟩
             · have fin : ∀ (w1' : World) (rr : Loop) E' st' w3, Put (w.heap.size + 1) w1 w1' → HR P (.at w1' E E []) E' st' w3 → w3.heap[w.heap.size + 1]? = some (.loop rr) → rr.state ≠ .busy →
                   ∃ w4,(Instr.endLoop (w.heap.size+1)).run P w3=.ok rr.pending w4∧∃ c',Ext P c c'∧HR P c' E' st' w4∧RE c' E' n ρ { a with defers:=[markOf w.heap.size] ++ a.defers }:=by
                 intro w1' rr E' st' w3 hp hw3 hl3 hb3
                 have hp4:Put (w.heap.size+1) w3 (w3.putObj (w.heap.size+1) (.loop { rr with state:=.exhausted })):=.put hl3 rfl rfl
                 have hl4:(w3.putObj (w.heap.size+1) (.loop { rr with state:=.exhausted })).heap[w.heap.size+1]? = some (.loop { rr with state:=.exhausted }):=World.putObj_heap_same (lt_of_heap hl3)
                 have hle:E.le E':=hw3.le
                 have hcs:=hw.size
                 have h4:HR P c E' st' (w3.putObj (w.heap.size+1) (.loop { rr with state:=.exhausted })):=by
                   have:=hHR1.leaveP hp hw3 (hw.le.trans hle) hp4 hl4 rfl (fun h=>by omega)
                   rwa [Ctx.put_same (.inl (by omega))]at this
                 have hD3:w3.heap[w.heap.size]? = some (.deferred (some [])):=by
                   have q1:=hw3.old w.heap.size (by show _<w1'.heap.size;have:=hp.size;omega) hXD
                   rw[q1]
                   show w1'.heap[w.heap.size]? = _
                   rw[hp.other _ (by omega)];exact hD
                 have hD4:(w3.putObj (w.heap.size+1) (.loop { rr with state:=.exhausted })).heap[w.heap.size]? = some (.deferred (some [])):=(hp4.other _ (by omega)).trans hD3
                 refine ⟨_,run_endLoop hl3 hb3,.at (w3.putObj (w.heap.size+1) (.loop { rr with state:=.exhausted })) c.E0 E' (markOf w.heap.size :: c.ms),⟨fun E2 st2 w2 h2=>?_,⟨E'.G,rfl⟩,h4.size,fun k hk hX=>⟨h4.sub_not' hk hX,h4.old k hk hX⟩,[w.heap.size],rfl,by simp,fun r hr=>?_⟩,?_,⟨?_,ha.1.2.mono hle.G⟩,ha.2.1,fun t=>(ha.2.2 t).mono hle⟩
                 · have hl2:w2.heap[w.heap.size+1]? = some (.loop { rr with state:=.exhausted }):=(h2.old _ (lt_of_heap hl4) (h4.own_nc hl4 rfl)).trans hl4
                   have nc4:Put (w.heap.size+1) (w3.putObj (w.heap.size+1) (.loop { rr with state:=.exhausted })) (w3.putObj (w.heap.size+1) (.loop { rr with state:=.exhausted })):=.refl fun _ h=>by rw[h]at hl4;cases hl4;rfl
                   have nc2:Put (w.heap.size+1) w2 w2:=.refl fun _ h=>by rw[h]at hl2;cases hl2;rfl
                   have hle2:c.E0.le E2:=⟨fun b o u h=>h2.le.G b o u (h4.le.G b o u h),h2.le.ι,h2.le.κ,h2.le.γ⟩
                   have:=h4.leaveP nc4 h2 hle2 nc2 hl2 rfl (fun h=>by omega)
                   rwa [Ctx.put_same (.inl (by omega))]at this
                 · simp only[List.mem_singleton]at hr
                   subst hr
                   exact ⟨hcs,lt_of_heap hD4,h4.own_nc hD4 rfl,hD4⟩
                 · exact h4.enterP h4.le (l:=w.heap.size+1) (.refl fun _ h=>by rw[h]at hl4;cases hl4;rfl) _
                 · show [markOf w.heap.size] ++ a.defers=markOf w.heap.size :: c.ms
                   rw[ha.1.1];rfl
               have res0:∀ (tm:Array Value) (w:World),(results fn tm).run P w=.ok (.tuple #[]) w:=fun tm w=>by
                 have:fn.results=#[]:=by simpa using hres
                 unfold results
                 simp[this]
               have ready:∀ E' st' w3,HR P (.at w1 E E []) E' st' w3→Q .n ρ st'→rangePost (FR none) 0 P (w.heap.size+1) (liftB P c n Q) { a with defers:=[markOf w.heap.size] ++ a.defers } (.returned (.tuple #[])) w3:=fun E' st' w3 hw3 hq=>by
                 have hl3:w3.heap[w.heap.size+1]? = some (.loop r0):=(hw3.old _ (by show _<w1.heap.size;omega) hXL).trans hL
                 obtain ⟨w4,k1,c',k2,k3,k4⟩:=fin w1 r0 E' st' w3 ncL hw3 hl3 (by rw[hr0];simp)
                 have e0:r0.pending=none:=by rw[hr0]
                 rw[e0]at k1
                 exact ⟨none,w4,k1,c',E',ρ,st',k2,k3,k4,hq⟩
               intro e a3 w3 he
               cases e <;> simp only[lift,bodyPost]at he ⊢
               case normal=>
                 obtain ⟨E',ρ',st',hw3,ha3,hq⟩:=he
                 exact ⟨ha3.1.1,_,res0 _ _,ready E' st' w3 hw3 hq⟩
               case ret=>
                 rcases he with ⟨E',ρ',st',hw3,ha3,hq⟩ | ⟨l',r0',j,E',ρ',st',hyl,hw3,ha3,hl3,hq⟩
                 · exact ⟨ha3.1.1,_,res0 _ _,ready E' st' w3 hw3 hq⟩
                 · cases hyl
                   refine ⟨ha3.1.1,_,res0 _ _,?_⟩
                   have hp1:Put (w.heap.size+1) w1 (w1.putObj (w.heap.size+1) (.loop (doneRec r0 j))):=.put hL rfl rfl
                   obtain ⟨w4,k1,c',k2,k3,k4⟩:=fin _ (doneRec r0 j) E' st' w3 hp1 hw3 hl3 (by simp[doneRec])
                   refine ⟨some (jmpCode j),w4,k1,?_⟩
                   cases j with
                   | none=>exact wpIn_ret ⟨c',E',ρ,st',k2,k3,k4,hq⟩
                   | some id=>exact wpIn_exit ⟨c',E',ρ,st',k2,k3,k4,hq⟩
               case exit id=>
                 obtain ⟨_,_,_,_,_,hq⟩:=he
                 exact hq
         · exact h.elim
       · cases hc
     · cases hc
   · cases hc
theorem leaves_marks {n:Nat} {fn:Func} {ars:List ARes} (hr:compRes P fn.results.toList=some ars) {tm:Array Value} {ρ:Env} {K:D→St→Prop} (hsz:tm.size=n) (hgl:GLB E.G) (hρ:∀ t,RD E (ρ.get t) (tm.getD t undef)) (hK:wpRes ρ st (fun ds=>K (resOf ds) st) ars) :
  ∀ (rs:List Nat) (w:World),rs.Nodup→HR P c E st w→(∀ r∈rs,c.w0.heap.size≤r∧w.heap[r]? = some (.deferred (some []))) →
   LeavesInM Fence.wide 0 P fn tm (fun e w'=>∃ v E' d st',e=.returned v∧HR P c E' st' w'∧RD E' d v∧K d st') (rs.map markOf) .returning w
 | [],w,_,hw,_=>by
  obtain ⟨v,d,r1,r2,r3⟩:=run_results (n:=n) (a:={ tmps:=tm,defers:=c.ms }) hw ⟨⟨rfl,hgl⟩,hsz,hρ⟩ hr hK
  exact ⟨v,r1,v,E,d,st,rfl,hw,r2,r3⟩
 | r :: rs,w,hn,hw,h=>by
  obtain ⟨h1,h2⟩:=h r List.mem_cons_self
  have hnd:=List.nodup_cons.1 hn
  refine ⟨by simp,.inl ⟨r,_,rfl,run_takeDeferred h2,?_⟩⟩
  refine leaves_marks hr hsz hgl hρ hK rs _ hnd.2 (hw.putNew h2 rfl rfl h1) fun r' hr'=>?_
  obtain ⟨k1,k2⟩:=h r' (List.mem_cons_of_mem _ hr')
  exact ⟨k1,(World.putObj_heap_other (fun e=>hnd.1 (by rw[←e];exact hr'))).trans k2⟩
theorem calls_of_wpA (hm:P.follows .mixedOrders=true) {C:CallW} (hCm:CMono C) (hC:∀ c f ds st K,C f ds st K→CW P c (fun _=>True) f ds st K) {f:FuncId} {fn:Func} {code:Code} {g ac:AC} {ars:List ARes} (hf:P.funcs[f]? = some fn) (hb:fn.body=some code) (hc:comp P fn.ntmps code g=some ac)
  (hr:compRes P fn.results.toList=some ars) (hg:GcOK c ac) (hms:c.ms=[]) (hw:HR P c E st w) (hgl:GLB E.G) {args:List D} {vs:Array Value} (hs:vs.size=args.length) (hn:args.length≤fn.ntmps)
  (hR:∀ i,i<args.length→RD E (args.getD i default) (vs.getD i undef)) {K:D→St→Prop} (h:wpA C (CPo P) ac noH (retQ ars K) (argsEnv 0 args) st) :
  Calls P f vs w fun e w'=>∃ v E' d st',e=.returned v∧HR P c E' st' w'∧RD E' d v∧K d st':=by
 obtain ⟨e1,e2⟩:=args_RE hs hn hR
 have ret:∀ (a:Act) (w':World) c' E' ρ' st',Ext P c c'→HR P c' E' st' w'→RE c' E' fn.ntmps ρ' a→wpRes ρ' st' (fun ds=>K (resOf ds) st') ars →
   LeavesInM Fence.wide 0 P fn a.tmps (fun e w'=>∃ v E' d st',e=.returned v∧HR P c E' st' w'∧RD E' d v∧K d st') a.defers .returning w':=fun a w' c' E' ρ' st' hx hw' ha' hK=>by
  obtain ⟨rs,q1,q2,q3⟩:=hx.ms
  rw[ha'.1.1,q1,hms,List.append_nil]
  refine leaves_marks hr ha'.2.1 ha'.1.2 ha'.2.2 hK rs w' q2 (hx.hr _ _ _ hw') fun r hr=>?_
  obtain ⟨k1,k2,k3,k4⟩:=q3 r hr
  exact ⟨k1,(hw'.old r k2 k3).trans k4⟩
 refine (callsIn_wide (n:=0)).1 (callsIn_of_wp_marks (F:=Fence.wide) hf hb trivial (wpIn_mono (strip_in (F:=FR none) liftB.noGoto (wpB_sound hm hCm hC g fn.ntmps (strip code) ac hc c hg _ _ st h E _ w hw ⟨⟨hms.symm,hgl⟩,e1,e2⟩)) ?_))
 intro e a w' he
 cases e <;> simp only[liftB,bodyPostM,retQ]at he ⊢
 ·obtain ⟨c',E',ρ',st',h0,h1,h2,h3⟩:=he
  exact ret a w' c' E' ρ' st' h0 h1 h2 h3
 ·obtain ⟨_,_,_,_,_,_,_,h⟩:=he;exact h
 all_goals first
  | exact he.elim
  | skip
 obtain ⟨c',E',ρ',st',h0,h1,h2,h3⟩:=he
 exact ret a w' c' E' ρ' st' h0 h1 h2 h3
def FnC (P:Program) (f:FuncId) (ds:List D) (st:St) (K:D→St→Prop):Prop:=∀ c,CW P c (fun _=>True) f ds st K
theorem FnC.cmono {P:Program}:CMono (FnC P):=fun f ds st K K' hK h c=>CW.cmono f ds st K K' hK (h c)
theorem FnC.cw {P:Program} (c:Ctx) (f:FuncId) (ds:List D) (st:St) (K:D→St→Prop) (h:FnC P f ds st K):CW P c (fun _=>True) f ds st K:=h c
end
end Go.Ab
namespace Go.Ab
open Go.RowKit
section
variable {P:Program} {c:Ctx} {E:Em} {st:St} {w:World}
def Ctx.sub (w:World) (E:Em):Ctx:=⟨w,E,fun b=>(∃ i,E.ι i=some b)∨∃ g cap cur,E.γ g=some (b,cap,cur),[]⟩
theorem HR.enter (hw:HR P c E st w):HR P (.sub w E) E st w where
 os:=rfl
 tape:=⟨rfl,Nat.le_refl _⟩
 output:=⟨rfl,fun _ _=>rfl⟩
 size:=Nat.le_refl _
 old _ _ _:=rfl
 le:=.refl E
 gnew _ _ _ _:=rfl
 gok:=hw.gok
 box i b h:=by
  obtain ⟨B,vs,h1,h2,h3,h4,h5,h6⟩:=hw.box i b h
  exact ⟨B,vs,h1,h2,h3,h4,.inr (.inl ⟨i,h⟩),h6⟩
 inj:=hw.inj
 grp g b cap cur h:=by
  obtain ⟨e,vs,inf,h1,h2,h3,h4,h5,h6,h7,h8⟩:=hw.grp g b cap cur h
  exact ⟨e,vs,inf,h1,h2,h3,h4,h5,h6,.inr (.inr ⟨g,cap,cur,h⟩),h8⟩
 ginj:=hw.ginj
 apart:=hw.apart
 dead:=hw.dead
 kap:=hw.kap
theorem HR.sub_not (hw:HR P c E st w) {b:Nat} (hb:b<c.w0.heap.size) (hx:¬ c.X b):¬ (Ctx.sub w E).X b:=by
 rintro (⟨i,h⟩ | ⟨g,cap,cur,h⟩)
 ·obtain ⟨_,_,_,_,_,_,h5,_⟩:=hw.box i b h
  rcases h5 with h | h
  ·omega
  ·exact hx h
 ·obtain ⟨_,_,_,_,_,_,_,_,_,h7,_⟩:=hw.grp g b cap cur h
  rcases h7 with h | h
  ·omega
  ·exact hx h
theorem HR.leave (hw:HR P c E st w) {E':Em} {st':St} {w':World} (h:HR P (.sub w E) E' st' w'):HR P c E' st' w' where
 os:=h.os.trans hw.os
 tape:=td hw.tape h.tape
 output:=⟨h.output.1.trans hw.output.1,fun a ha=>(h.output.2 a (Nat.lt_of_lt_of_le ha hw.size)).trans (hw.output.2 a ha)⟩
 size:=Nat.le_trans hw.size h.size
 old k hk hx:=(h.old k (Nat.lt_of_lt_of_le hk hw.size) (hw.sub_not hk hx)).trans (hw.old k hk hx)
 le:=hw.le.trans h.le
 gnew b o hb hx:=(h.gnew b o (Nat.lt_of_lt_of_le hb hw.size) (hw.sub_not hb hx)).trans (hw.gnew b o hb hx)
 gok:=h.gok
 box i b hi:=by
  obtain ⟨B,vs,h1,h2,h3,h4,h5,h6⟩:=h.box i b hi
  refine ⟨B,vs,h1,h2,h3,h4,?_,h6⟩
  rcases h5 with h5 | ⟨j,h5⟩ | ⟨g,cap,cur,h5⟩
  ·exact .inl (Nat.le_trans hw.size h5)
  ·obtain ⟨_,_,_,_,_,_,q,_⟩:=hw.box j b h5;exact q
  ·obtain ⟨_,_,_,_,_,_,_,_,_,q,_⟩:=hw.grp g b cap cur h5;exact q
 inj:=h.inj
 grp g b cap cur hg:=by
  obtain ⟨e,vs,inf,h1,h2,h3,h4,h5,h6,h7,h8⟩:=h.grp g b cap cur hg
  refine ⟨e,vs,inf,h1,h2,h3,h4,h5,h6,?_,h8⟩
  rcases h7 with h5 | ⟨j,h5⟩ | ⟨g,cap,cur,h5⟩
  ·exact .inl (Nat.le_trans hw.size h5)
  ·obtain ⟨_,_,_,_,_,_,q,_⟩:=hw.box j b h5;exact q
  ·obtain ⟨_,_,_,_,_,_,_,_,_,q,_⟩:=hw.grp g b cap cur h5;exact q
 ginj:=h.ginj
 apart:=h.apart
 dead:=h.dead
 kap:=h.kap
theorem CW.of_wpA (hm:P.follows .mixedOrders=true) {f:FuncId} {fn:Func} {g ac:AC} {ars:List ARes} (hcall:∀ vs w,(callFunc f vs).run P w=.ok (.enter f vs) w) (hf:P.funcs[f]? = some fn)
  (hc:compF P fn g=some (ac,ars)) (hgc:gcFree ac=true∨gcBase st.box.length st.grp.length ac=true) {ds:List D} (hn:ds.length≤fn.ntmps) {K:D→St→Prop}
  (h:wpA (FnC P) (CPo P) ac noH (retQ ars K) (argsEnv 0 ds) st):CW P c (fun _=>True) f ds st K:=by
 simp only[compF,Option.bind_eq_some_iff,Option.map_eq_some_iff,Prod.mk.injEq]at hc
 obtain ⟨code,hb,ac',h1,rs,h2,rfl,rfl⟩:=hc
 refine ⟨hcall,fun E w vs hw hgl hs hR=>(calls_of_wpA hm FnC.cmono FnC.cw hf hb h1 h2 (hgc.elim .free (.of (fun i x hN=>hw.N_lt hN) fun g t ht=>hw.γ_lt' ht)) rfl hw.enter hgl hs hn hR h).mono ?_⟩
 rintro e w' ⟨v,E',d,st',rfl,h1,h2,h3⟩
 exact ⟨v,E',d,st',rfl,h1.le,hw.leave h1,h2,fun _ _ _ hn=>absurd trivial hn,h3⟩
end
end Go.Ab
namespace Go.Ab
open Go.RowKit
def Ctx.pur (w:World) (G:Mem):Ctx:=⟨w,noE G,fun _=>False,[]⟩
theorem HR.pur {P:Program} {G:Mem} {w:World} (hG:GOK G w):HR P (.pur w G) (noE G) ⟨[],[]⟩ w:=
 ⟨rfl,⟨rfl,Nat.le_refl _⟩,⟨rfl,fun _ _=>rfl⟩,Nat.le_refl _,fun _ _ _=>rfl,Em.le.refl _,fun _ _ _ _=>rfl,hG,(fun _ _ h=>by cases h),(fun _ _ _ h=>by cases h),(fun _ _ _ _ h=>by cases h),(fun _ _ _ _ _ _ _ h=>by cases h),(fun _ _ _ _ _ h=>by cases h),(fun _ _ h=>by cases h),(fun _ _ h=>by cases h)⟩
theorem GcOK.pur {w:World} {G:Mem} {ac:AC}:GcOK (.pur w G) ac:=.none (fun _ _ h=>(by rcases h with h | h <;> cases h)) (fun _ _ h=>(by cases h)) ac
theorem HR.below {P:Program} {G:Mem} {w w':World} {E:Em} {st:St} (h:HR P (.pur w G) E st w'):BelowF w.heap.size w w':=
 ⟨⟨h.os,h.tape.1,h.output.1,h.size,fun k hk=>h.old k hk (fun h=>h)⟩,h.output.2,h.tape.2⟩
theorem PurFn.ofG {P:Program} (hm:P.follows .mixedOrders=true) {f:FuncId} {fn:Func} {g ac:AC} {ars:List ARes} (hcall:∀ vs w,(callFunc f vs).run P w=.ok (.enter f vs) w) (hf:P.funcs[f]? = some fn)
  (hc:compF P fn g=some (ac,ars)) {args:List D} (hn:args.length≤fn.ntmps) {d:PD}
  (h:wpA (FnC P) (CPo P) ac noH (retQ ars fun x st=>∀ E w u,GOK E.G w→BoxOK E st.box w→RD E x u→RP (nowG E w) d u) (argsEnv 0 args) ⟨[],[]⟩):PurFn P f args d:=by
 simp only[compF,Option.bind_eq_some_iff,Option.map_eq_some_iff,Prod.mk.injEq]at hc
 obtain ⟨code,hb,ac',h1,rs,h2,rfl,rfl⟩:=hc
 refine ⟨hcall,fun G w vs hG hgl hs hR=>(calls_of_wpA hm FnC.cmono FnC.cw hf hb h1 h2 .pur rfl (.pur hG) hgl hs hn hR h).mono ?_⟩
 rintro e w' ⟨v,E',x,st',rfl,h1,h2,h3⟩
 have hnew:∀ i b,E'.ι i=some b→w.heap.size≤b:=fun i b hi=>by
  obtain ⟨_,_,_,_,_,_,h5,_⟩:=h1.box i b hi
  exact h5.resolve_right (fun h=>h)
 refine ⟨v,nowG E' w',rfl,fun b o u hu=>nowG_le h1.gok b o u (h1.le.G b o u hu),fun b o hb=>?_,nowG_ok h1.gok,h1.below,h3 E' w' v h1.gok h1.boxOK h2⟩
 unfold nowG
 rw[if_neg (fun ⟨i,hi⟩=>by have:=hnew i b hi;omega)]
 exact h1.gnew b o hb (fun h=>h)
theorem PurFn.ofV {P:Program} (hm:P.follows .mixedOrders=true) {f:FuncId} {fn:Func} {g ac:AC} {ars:List ARes} (hcall:∀ vs w,(callFunc f vs).run P w=.ok (.enter f vs) w) (hf:P.funcs[f]? = some fn)
  (hc:compF P fn g=some (ac,ars)) {args:List D} (hn:args.length≤fn.ntmps) {d:PD}
  (h:wpA (FnC P) (CPo P) ac noH (retQ ars fun x st=>viewD st.box 3 x=some d) (argsEnv 0 args) ⟨[],[]⟩):PurFn P f args d:=
 PurFn.ofG hm hcall hf hc hn (wpA_mono FnC.cmono CPo.cmono ac .no _ _ (fun x ρ st h=>by
  have hv:∀ {x:D} {st:St},viewD st.box 3 x=some d→∀ E w u,GOK E.G w→BoxOK E st.box w→RD E x u→RP (nowG E w) d u:=fun hx E w u hg hb hr=>viewD_RP hg hb 3 _ d u hx hr
  cases x <;> simp only[retQ]at h ⊢
  ·exact wpRes_mono (fun ds h=>hv h) h
  ·exact wpRes_mono (fun ds h=>hv h) h) _ _ h)
inductive Src where
 | bx (i:Nat)
 | gp (g:Nat) (cells:List PD) (e:TypeId)
mutual
def Ren (m:List Src):D→D→Prop
 | .p x,d'=>flatP x=true∧d'=.p x
 | .ms i off n,d'=>∃ j,m[j]? = some (.bx i)∧d'=.ms j off n
 | .ptr i off,d'=>∃ j,m[j]? = some (.bx i)∧d'=.ptr j off
 | .grp g n cells,d'=>∃ j e,m[j]? = some (.gp g cells e)∧d'=.ms j 0 n
 | .agg ds,d'=>∃ ds',RenL m ds ds'∧d'=.agg ds'
 | .tup ds,d'=>∃ ds',RenL m ds ds'∧d'=.tup ds'
 | _,_=>False
def RenL (m:List Src):List D→List D→Prop
 | [],ds'=>ds'=[]
 | d :: ds,ds'=>∃ d' r,Ren m d d'∧RenL m ds r∧ds'=d' :: r
end
def flatD:D→Bool
 | .p x=>flatP x
 | _=>false
def srcBox (st:St):Src→Box→Prop
 | .bx i,B=>∃ B',st.box[i]? = some B'∧B'.fz=false∧B'.cells.all flatD=true∧B=⟨B'.cells,B'.e,false,false,false⟩
 | .gp g cells e,B=>st.grp[g]? = some (cells.length,e)∧cells.all flatP=true∧B=⟨cells.map .p,e,false,false,false⟩
def srcSame:Src→Src→Bool
 | .bx i,.bx j=>Nat.beq i j
 | .gp g _ _,.gp h _ _=>Nat.beq g h
 | _,_=>false
def srcBoxes (st:St):List Src→List Box→Prop
 | [],bs=>bs=[]
 | s :: m,bs=>∃ B r,srcBox st s B∧m.all (fun t=>!srcSame s t)=true∧srcBoxes st m r∧bs=B :: r
theorem srcBoxes_spec {st:St}:∀ {m:List Src} {bs:List Box},srcBoxes st m bs→bs.length=m.length∧(∀ (j:Nat) (s:Src),m[j]? = some s→∃ B,bs[j]? = some B∧srcBox st s B) ∧
  ∀ (i j:Nat) (s t:Src),m[i]? = some s→m[j]? = some t→i<j→srcSame s t=false
 | [],bs,h=>by simp only[srcBoxes]at h;subst h;exact ⟨rfl,fun _ _ h=>by simp at h,fun _ _ _ _ h=>by simp at h⟩
 | s :: m,bs,h=>by
  obtain ⟨B,r,h1,h2,h3,rfl⟩:=h
  obtain ⟨k1,k2,k3⟩:=srcBoxes_spec h3
  refine ⟨by simp[k1],fun j t hj=>?_,fun i j x y hi hj hij=>?_⟩
  ·cases j with
   | zero=>simp at hj;subst hj;exact ⟨B,rfl,h1⟩
   | succ j=>exact k2 j t (by simpa using hj)
  ·cases j with
   | zero=>omega
   | succ j=>
    simp only[List.getElem?_cons_succ]at hj
    cases i with
    | zero=>
     simp only[List.getElem?_cons_zero,Option.some.injEq]at hi
     subst hi
     have:=List.all_eq_true.1 h2 y (List.mem_of_getElem? hj)
     simpa using this
    | succ i=>exact k3 i j x y (by simpa using hi) hj (by omega)
open Classical in
noncomputable def srcι (E:Em) (m:List Src) (j:Nat):Option Nat:=
 match m[j]? with
 | some (.bx i)=>E.ι i
 | some (.gp g cells _)=>match E.γ g with | some (b,_,cur)=>if cells.length=cur∧∃ n u,RD E (.grp g n cells) u then some b else none | none=>none
 | none=>none
section
variable {P:Program} {c:Ctx} {E:Em} {st:St} {w:World}
theorem RD.grp_inv {g n:Nat} {cells:List PD} {u:Value} (h:RD E (.grp g n cells) u):∃ b cap cur,E.γ g=some (b,cap,cur)∧cells.length≤cur∧RP E.G (.sl (some false) n cells) u∧(cells.length=cur→u=.slice (some ⟨b,0,none⟩) n cap):=by
 cases h with | grp _ _ _ _ b cap cur hg hl h hc=>exact ⟨b,cap,cur,hg,hl,h,hc⟩
theorem RD.flat {E':Em} {d:D} {u:Value} (h:RD E d u) (hf:flatD d=true):RD E' d u:=by
 cases d <;> simp only[flatD,Bool.false_eq_true]at hf
 exact .p _ _ (h.p_inv.flat hf)
theorem srcBoxOK (hw:HR P c E st w) {m:List Src} {bs:List Box} (hs:srcBoxes st m bs):BoxOK (ownE (srcι E m)) bs w∧(∀ i b,srcι E m i=some b→c.w0.heap.size≤b∨c.X b) ∧
  ∀ i j b,srcι E m i=some b→srcι E m j=some b→i=j:=by
 obtain ⟨s1,s2,s3⟩:=srcBoxes_spec hs
 have info:∀ j b,srcι E m j=some b→∃ s,m[j]? = some s∧((∃ i,s=.bx i∧E.ι i=some b)∨∃ g cells e cap,s=.gp g cells e∧E.γ g=some (b,cap,cells.length)∧∃ n u,RD E (.grp g n cells) u):=fun j b h=>by
  unfold srcι at h
  split at h
  ·rename_i i hj;exact ⟨_,hj,.inl ⟨i,rfl,h⟩⟩
  ·rename_i g cells e hj
   split at h
   ·rename_i b' cap cur hg
    split at h
    ·rename_i hc
     simp only[Option.some.injEq]at h
     obtain ⟨hc,hx⟩:=hc
     subst h;subst hc
     exact ⟨_,hj,.inr ⟨g,cells,e,cap,rfl,hg,hx⟩⟩
    ·cases h
   ·cases h
  ·cases h
 refine ⟨⟨fun _ _ h=>(by cases h),fun j b h=>?_⟩,fun j b h=>?_,fun i j b hi hj=>?_⟩
 ·obtain ⟨s,hj,h⟩:=info j b h
  obtain ⟨B,hB,hsb⟩:=s2 j s hj
  rcases h with ⟨i,rfl,hi⟩ | ⟨g,cells,e,cap,rfl,hg,hx⟩
  ·obtain ⟨B',q1,q0,q2,rfl⟩:=hsb
   obtain ⟨B'',vs,h1,h2,h3,h4,_,⟨h5,_⟩,_⟩:=hw.box i b hi
   rw[q1]at h1
   obtain rfl:B'=B'':=by simpa using h1
   rw[objOf_cells vs (h5.symm.trans q0)]at h2
   refine ⟨_,hB,fun _=>⟨vs,h2,h3,fun k hk=>⟨(h4 k hk).1.flat ?_,(h4 k hk).2⟩⟩⟩
   rw[List.all_eq_true]at q2
   exact q2 _ (by simp only[List.getD,List.getElem?_eq_getElem (show k<B'.cells.length from hk),Option.getD_some];exact List.getElem_mem _)
  ·obtain ⟨q1,q2,rfl⟩:=hsb
   obtain ⟨e',vs,inf,h1,h2,h3,h4,h5,h6,h7,h8⟩:=hw.grp g b cap _ hg
   rw[q1]at h1
   obtain rfl:e=e':=by simpa using h1
   obtain ⟨n,u,hx⟩:=hx
   obtain ⟨b',cap',cur',hg',_,hrp,hu⟩:=hx.grp_inv
   rw[hg]at hg'
   simp only[Option.some.injEq,Prod.mk.injEq]at hg'
   obtain ⟨rfl,rfl,rfl⟩:=hg'
   have hu:=hu rfl
   refine ⟨_,hB,fun _=>⟨vs,h2,by simpa using h5,fun k hk=>?_⟩⟩
   simp only[List.length_map]at hk
   rcases hrp.sl_inv with ⟨_,_,rfl,_⟩ | ⟨b2,o2,sp2,cap2,us,hu2,_,_,hG,hR,_⟩
   ·simp at hk
   ·rw[hu]at hu2
    simp only[Value.slice.injEq,Option.some.injEq,Addr.mk.injEq]at hu2
    obtain ⟨⟨rfl,rfl,_⟩,_,_⟩:=hu2
    obtain ⟨hc1,hc2⟩:=hw.gok _ _ _ (hG k hk)
    rw[cell_of_row w _ _ vs _ (0,0) h2]at hc1
    simp only[Nat.zero_add]at hc1
    have hv:vs.getD k undef=us k:=by
     rw[show vs.getD k undef=(vs[k]?).getD undef by simp,hc1];rfl
    rw[hv]
    refine ⟨?_,hc2⟩
    have hk2:=hR k hk
    simp only[List.getD,List.getElem?_map,List.getElem?_eq_getElem hk,Option.map_some,Option.getD_some]at hk2 ⊢
    refine .p _ _ (hk2.flat ?_)
    rw[List.all_eq_true]at q2
    exact q2 _ (List.getElem_mem _)
 ·obtain ⟨s,hj,h⟩:=info j b h
  rcases h with ⟨i,rfl,hi⟩ | ⟨g,cells,e,cap,rfl,hg,hx⟩
  ·obtain ⟨_,_,_,_,_,_,h5,_⟩:=hw.box i b hi;exact h5
  ·obtain ⟨_,_,_,_,_,_,_,_,_,h7,_⟩:=hw.grp g b _ _ hg;exact h7
 ·obtain ⟨s,hi',h1⟩:=info i b hi
  obtain ⟨t,hj',h2⟩:=info j b hj
  have hsame:srcSame s t=true∧srcSame t s=true:=by
   rcases h1 with ⟨k,rfl,hk⟩ | ⟨g,cells,e,cap,rfl,hg,hx⟩ <;> rcases h2 with ⟨k',rfl,hk'⟩ | ⟨g',cells',e',cap',rfl,hg',_⟩
   ·have:=hw.inj k k' b hk hk';subst this;simp[srcSame]
   ·exact absurd hg' (hw.apart k g' b _ _ hk)
   ·exact absurd hg (hw.apart k' g b _ _ hk')
   ·have:=hw.ginj g g' b _ _ _ _ hg hg';subst this;simp[srcSame]
  rcases Nat.lt_trichotomy i j with hlt | heq | hlt
  ·rw[s3 i j s t hi' hj' hlt]at hsame;exact absurd hsame.1 (by simp)
  ·exact heq
  ·rw[s3 j i t s hj' hi' hlt]at hsame;exact absurd hsame.2 (by simp)
mutual
theorem Ren.sound (hw:HR P c E st w) {m:List Src} (hm:∀ (j:Nat) (s:Src),m[j]? = some s→∃ B,srcBox st s B):∀ (d d':D) (u:Value),Ren m d d'→RD E d u→RD (ownE (srcι E m)) d' u
 | .p x,d',u,h,hr=>by
  simp only[Ren]at h;obtain ⟨hf,rfl⟩:=h
  exact .p _ _ (hr.p_inv.flat hf)
 | .ms i off n,d',u,h,hr=>by
  simp only[Ren]at h;obtain ⟨j,hj,rfl⟩:=h
  obtain ⟨b,cap,hi,hc,_,rfl⟩:=hr.ms_inv
  obtain ⟨B,B',h1,h2,_⟩:=hm j _ hj
  have hi:=hw.live hi h1 h2
  exact .ms _ _ _ b cap (.inl (by simp[ownE,srcι,hj,hi])) hc (fun _ h=>by cases h)
 | .ptr i off,d',u,h,hr=>by
  simp only[Ren]at h;obtain ⟨j,hj,rfl⟩:=h
  obtain ⟨b,hi,rfl⟩:=hr.ptr_inv
  obtain ⟨B,B',h1,h2,_⟩:=hm j _ hj
  have hi:=hw.live hi h1 h2
  exact .ptr _ _ b (.inl (by simp[ownE,srcι,hj,hi]))
 | .grp g n cells,d',u,h,hr=>by
  simp only[Ren]at h;obtain ⟨j,e,hj,rfl⟩:=h
  obtain ⟨b,cap,cur,hg,hl,hrp,hu⟩:=hr.grp_inv
  obtain ⟨B,hB,_⟩:=hm j _ hj
  obtain ⟨e',vs,inf,h1,h2,h3,h4,h5,h6,h7,h8⟩:=hw.grp g b cap _ hg
  rw[hB]at h1
  simp only[Option.some.injEq,Prod.mk.injEq]at h1
  obtain ⟨hcur,rfl⟩:=h1
  have hu':=hu hcur
  subst hu'
  rcases hrp.sl_inv with ⟨hx,_⟩ | ⟨_,_,_,_,_,hx,hcap,_⟩
  ·cases hx
  ·simp only[Value.slice.injEq]at hx
   exact .ms _ _ _ b cap (.inl (by simp only[ownE,srcι,hj,hg];rw[if_pos ⟨hcur,n,_,hr⟩])) (by omega) (fun _ h=>by cases h)
 | .agg ds,d',u,h,hr=>by
  simp only[Ren]at h;obtain ⟨ds',hd,rfl⟩:=h
  obtain ⟨us,rfl,hs,hR⟩:=hr.agg_inv
  obtain ⟨hl,hR'⟩:=RenL.sound hw hm ds ds' hd (fun i=>us.getD i undef) hR
  exact .agg _ _ (by omega) hR'
 | .tup ds,d',u,h,hr=>by
  simp only[Ren]at h;obtain ⟨ds',hd,rfl⟩:=h
  obtain ⟨us,rfl,hs,hR⟩:=hr.tup_inv
  obtain ⟨hl,hR'⟩:=RenL.sound hw hm ds ds' hd (fun i=>us.getD i undef) hR
  exact .tup _ _ (by omega) hR'
 | .el _,_,_,h,_=>by simp[Ren]at h
 | .fn _ _ _,_,_,h,_=>by simp[Ren]at h
 | .ifc _ _,_,_,h,_=>by simp[Ren]at h
 | .bad,_,_,h,_=>by simp[Ren]at h
theorem RenL.sound (hw:HR P c E st w) {m:List Src} (hm:∀ (j:Nat) (s:Src),m[j]? = some s→∃ B,srcBox st s B):∀ (ds ds':List D),RenL m ds ds'→∀ us:Nat→Value,(∀ i,i<ds.length→RD E (ds.getD i default) (us i)) →
  ds'.length=ds.length∧∀ i,i<ds'.length→RD (ownE (srcι E m)) (ds'.getD i default) (us i)
 | [],ds',h,us,hR=>by simp only[RenL]at h;subst h;exact ⟨rfl,fun i hi=>absurd hi (Nat.not_lt_zero _)⟩
 | d :: ds,ds',h,us,hR=>by
  simp only[RenL]at h
  obtain ⟨d',r,h1,h2,rfl⟩:=h
  obtain ⟨k1,k2⟩:=RenL.sound hw hm ds r h2 (fun i=>us (i+1)) (fun i hi=>hR (i+1) (by simpa using hi))
  refine ⟨by simp[k1],fun i hi=>?_⟩
  cases i with
  | zero=>exact Ren.sound hw hm d d' (us 0) h1 (hR 0 (by simp))
  | succ i=>exact k2 i (by simpa using hi)
end
theorem OwnFn.of (hm:P.follows .mixedOrders=true) {f:FuncId} {fn:Func} {g ac:AC} {ars:List ARes} (hcall:∀ vs w,(callFunc f vs).run P w=.ok (.enter f vs) w) (hf:P.funcs[f]? = some fn)
  (hc:compF P fn g=some (ac,ars)) {args:List D} (hn:args.length≤fn.ntmps) {d:D} {bs:List Box}
  (h:wpA (FnC P) (CPo P) ac noH (retQ ars fun x st=>∃ m,Ren m x d∧srcBoxes st m bs) (argsEnv 0 args) ⟨[],[]⟩):OwnFn P f args d bs:=by
 simp only[compF,Option.bind_eq_some_iff,Option.map_eq_some_iff,Prod.mk.injEq]at hc
 obtain ⟨code,hb,ac',h1,rs,h2,rfl,rfl⟩:=hc
 refine ⟨hcall,fun G w vs hG hgl hs hR=>(calls_of_wpA hm FnC.cmono FnC.cw hf hb h1 h2 .pur rfl (.pur hG) hgl hs hn hR h).mono ?_⟩
 rintro e w' ⟨v,E',x,st',rfl,h1,h2,m,h3,h4⟩
 obtain ⟨q1,q2,q3⟩:=srcBoxOK h1 h4
 have hs:=(srcBoxes_spec h4).2.1
 exact ⟨v,srcι E' m,rfl,h1.below,q1,fun i b hi=>(q2 i b hi).resolve_right (fun h=>h),q3,Ren.sound h1 (fun j s hj=>(hs j s hj).imp fun _ h=>h.2) x d v h3 h2⟩
end
end Go.Ab
namespace Go.Ab
open Go.RowKit
section
variable {P:Program} {c:Ctx} {E:Em} {st:St} {w:World}
end
end Go.Ab
namespace Go.Ab
open Go.RowKit
mutual
def D.shift (n:Nat):D→D
 | .ptr b off=>.ptr (b+n) off
 | .ms b off k=>.ms (b+n) off k
 | .agg ds=>.agg (D.shiftL n ds)
 | .tup ds=>.tup (D.shiftL n ds)
 | .fn f a b=>.fn f (D.shiftL n a) (D.shiftL n b)
 | .ifc t x=>.ifc t (D.shift n x)
 | .p x=>.p x
 | .grp g k cells=>.grp g k cells
 | .el cells=>.el cells
 | .mref b=>.mref (b+n)
 | .rel d=>.rel d
 | .bad=>.bad
def D.shiftL (n:Nat):List D→List D
 | []=>[]
 | d :: ds=>D.shift n d :: D.shiftL n ds
end
theorem D.shiftL_eq (n:Nat):∀ l:List D,D.shiftL n l=l.map (D.shift n)
 | []=>rfl
 | d :: l=>by simp[D.shiftL,D.shiftL_eq n l]
def Box.shift (n:Nat) (B:Box):Box:={ B with cells:=B.cells.map (D.shift n) }
theorem getD_map_shift (n:Nat) (l:List D) (i:Nat) (h:i<l.length):(l.map (D.shift n)).getD i default=D.shift n (l.getD i default):=by
 simp[List.getD,h]
theorem RD.shift {E':Em} {ι:Nat→Option Nat} {n:Nat} (hι:∀ i b,ι i=some b→E'.ι (i+n)=some b) (hκ:∀ i,E'.κ (i+n)=none) {d:D} {u:Value} (h:RD (ownE ι) d u):RD E' (d.shift n) u:=by
 generalize hE:ownE ι=E at h
 induction h with
 | p x u h=>subst hE;exact .p _ _ (h.mono fun _ _ _ h=>by cases h)
 | grp g n cells u b cap cur hg=>subst hE;cases hg
 | ptr i off b h=>subst hE;exact .ptr _ _ b (h.elim (fun h=>.inl (hι _ _ h)) (fun h=>by cases h))
 | el cells b o us hG hR=>
  subst hE
  exact .el _ _ _ us (fun i hi=>by cases hG i hi) (fun i hi=>by cases hG i hi)
 | ms i off n b cap h hc=>subst hE;exact .ms _ _ _ b cap (h.elim (fun h=>.inl (hι _ _ h)) (fun h=>by cases h)) hc (fun c0 h0=>by rw[hκ]at h0;cases h0)
 | agg cells us hs _ ih=>
  simp only[D.shift,D.shiftL_eq]
  exact .agg _ _ (by simpa using hs) (fun i hi=>by rw[getD_map_shift _ _ _ (by simpa using hi)];exact ih i (by simpa using hi))
 | tup cells us hs _ ih=>
  simp only[D.shift,D.shiftL_eq]
  exact .tup _ _ (by simpa using hs) (fun i hi=>by rw[getD_map_shift _ _ _ (by simpa using hi)];exact ih i (by simpa using hi))
 | fn f first captured us ws hs ht _ _ ih ih'=>
  simp only[D.shift,D.shiftL_eq]
  exact .fn _ _ _ _ _ (by simpa using hs) (by simpa using ht) (fun i hi=>by rw[getD_map_shift _ _ _ (by simpa using hi)];exact ih i (by simpa using hi))
   (fun i hi=>by rw[getD_map_shift _ _ _ (by simpa using hi)];exact ih' i (by simpa using hi))
 | ifc t x u _ ih=>exact .ifc _ _ _ ih
 | mref i b h=>subst hE;exact .mref _ b (h.elim (fun h=>.inl (hι _ _ h)) (fun h=>by cases h))
 | rel d b o u hG=>subst hE;cases hG
 | bad u=>exact .bad u
section
variable {P:Program} {c:Ctx} {E:Em} {st:St} {w:World}
theorem OwnFn.cwV {f:FuncId} {args:List D} {d:D} {bs:List Box} (h:OwnFn P f args d bs) (hfz:bs.all (fun B=>!B.fz && !B.ap && !B.m)=true) {T:Nat→Prop} {ds:List D} {K:D→St→Prop} (ha:ViewAs st.box ds args)
  (hk:K (d.shift st.box.length) { st with box:=st.box ++ bs.map (Box.shift st.box.length) }):CW P c T f ds st K:=by
 refine ⟨h.1,fun E w vs hw hgl hs hR=>?_⟩
 obtain ⟨hl,hps⟩:=ha
 have hps:=hps _ (fun _ _ h=>h) E w hw.gok hw.boxOK
 refine (h.2 (nowG E w) w vs (nowG_ok hw.gok) (hgl.mono (nowG_le hw.gok)) (by omega) (hps (fun i=>vs.getD i undef) hR)).mono ?_
 rintro e w' ⟨v,ι,rfl,hb,hB,h1,h2,hr⟩
 have hw1:=hw.grown hb
 let E':Em:={ E with ι:=fun j=>if j<st.box.length then E.ι j else ι (j - st.box.length) }
 have hle:E.le E':=⟨fun _ _ _ h=>h,fun i b h=>h.elim (fun h=>.inl (by show (if _ then _ else _)=_;rw[if_pos (hw.ι_box h)];exact h)) .inr,fun _ _ _=>rfl,fun _ b cap cur h=>⟨b,cap,cur,h,.inl ⟨rfl,rfl,rfl⟩⟩⟩
 have hκ:∀ i,E'.κ (i+st.box.length)=none:=fun i=>by
  show E.κ _=_
  cases h:E.κ (i+st.box.length) with
  | none=>rfl
  | some c0=>
   obtain ⟨b,h | h⟩:=hw.kap _ _ h
   ·have:=hw.ι_box h;omega
   ·have:=hw.δ_box h;omega
 have hsh:∀ i b,ι i=some b→E'.ι (i+st.box.length)=some b:=fun i b h=>by
  show (if _ then _ else _)=_
  rw[if_neg (by omega),Nat.add_sub_cancel];exact h
 have hcase:∀ i b,E'.ι i=some b→(i<st.box.length∧E.ι i=some b)∨(st.box.length≤i∧ι (i - st.box.length)=some b):=fun i b h=>by
  by_cases hi:i<st.box.length
  ·exact .inl ⟨hi,by simpa [E',hi] using h⟩
  ·exact .inr ⟨by omega,by simpa [E',hi] using h⟩
 refine ⟨v,E',_,_,rfl,hle,⟨hw1.os,hw1.tape,hw1.output,hw1.size,hw1.old,hw.le.trans hle,hw1.gnew,hw1.gok,fun i b hi=>?_,fun i j b hi hj=>?_,fun g b cap cur hg=>?_,hw1.ginj,fun i g b cap cur hi hg=>?_,fun i b hi=>?_,fun i c0 hi=>(hw.kap i c0 hi).imp fun b hb=>hle.ι _ _ hb⟩,hr.shift hsh hκ,fun i b hi _=>⟨by show (if _ then _ else _)=_;rw[if_pos (hw.ι_box hi)];exact hi,hb.block b (hw.ι_lt hi)⟩,hk⟩
 ·rcases hcase i b hi with ⟨hlt,hi⟩ | ⟨hge,hi⟩
  ·obtain ⟨B,us,k1,k2,k3,k4,k5⟩:=hw1.box i b hi
   exact ⟨B,us,by simp only;rw[List.getElem?_append_left hlt];exact k1,k2,k3,fun j hj=>⟨(k4 j hj).1.mono hle,(k4 j hj).2⟩,k5⟩
  ·obtain ⟨B,k1,k0⟩:=hB.2 _ b hi
   have hbig:=h1 _ b hi
   have hBf:(B.fz=false∧B.ap=false)∧B.m=false:=by
    have:=List.all_eq_true.1 hfz B (List.mem_of_getElem? k1)
    simpa using this
   obtain ⟨us,k2,k3,k4⟩:=k0 hBf.1.1
   have hκi:E'.κ i=none:=by have:=hκ (i - st.box.length);rwa [Nat.sub_add_cancel hge]at this
   refine ⟨B.shift st.box.length,us,by simp only;rw[List.getElem?_append_right hge,List.getElem?_map,k1];rfl,(by rw[objOf_cells (B:=B.shift st.box.length) us hBf.2];exact k2),by simpa [Box.shift] using k3,fun j hj=>?_,.inl (Nat.le_trans hw.size hbig),⟨hBf.1.1.trans hBf.2.symm,by rw[hκi];exact hBf.1.2,fun c0 h0=>by rw[hκi]at h0;cases h0⟩,fun o=>hw.G_none hbig o⟩
   simp only[Box.shift,List.length_map]at hj ⊢
   rw[getD_map_shift _ _ _ hj]
   exact ⟨(k4 j hj).1.shift hsh hκ,(k4 j hj).2⟩
 ·rcases hcase i b hi with ⟨hlt,hi⟩ | ⟨hge,hi⟩ <;> rcases hcase j b hj with ⟨hlt',hj⟩ | ⟨hge',hj⟩
  ·exact hw.inj i j b hi hj
  ·have:=h1 _ b hj;have:=hw.ι_lt hi;omega
  ·have:=h1 _ b hi;have:=hw.ι_lt hj;omega
  ·have:=h2 _ _ b hi hj;omega
 ·exact hw1.grp g b cap cur hg
 ·rcases hcase i b hi with ⟨hlt,hi⟩ | ⟨hge,hi⟩
  ·exact hw.apart i g b cap cur hi hg
  ·have:=h1 _ b hi;have:=hw.γ_lt (show E.γ g=some (b,cap,cur) from hg);omega
 ·obtain ⟨B,k1,k2⟩:=hw1.dead i b hi
  exact ⟨B,by simp only;rw[List.getElem?_append_left (hw1.δ_box hi)];exact k1,k2⟩
end
end Go.Ab
namespace Go.Ab
open Go.RowKit
structure FrameOK (f1 h1 f2 h2:Nat→Option Nat) (st stL' st':St):Prop where
 fwd:∀ i j,f1 i=some j→f2 j=some i
 bwd:∀ i j,j<st.box.length→f2 j=some i→f1 i=some j
 inj:∀ j j' i,f2 j=some i→f2 j'=some i→j=j'
 box:∀ j i B,f2 j=some i→stL'.box[i]? = some B→∃ B',st'.box[j]? = some B'∧(B'.fz=B.fz∧B'.m=B.m)∧(B.fz=B.m→(B.m=true→B'.cells.length=B.cells.length)∧B'.e=B.e∧B'.ap=B.ap∧B'.cells.length≤B.cells.length ∧
  ∀ k,k<B'.cells.length→LeD f2 h2 (B.cells.getD k default) (B'.cells.getD k default))
 stay:∀ j,j<st.box.length→f2 j=none→st'.box[j]? = st.box[j]?
 gfwd:∀ i j,h1 i=some j→h2 j=some i
 gbwd:∀ i j,j<st.grp.length→h2 j=some i→h1 i=some j
 ginj:∀ j j' i,h2 j=some i→h2 j'=some i→j=j'
 grp:∀ j i q,h2 j=some i→stL'.grp[i]? = some q→st'.grp[j]? = some q
 gstay:∀ j,j<st.grp.length→h2 j=none→st'.grp[j]? = st.grp[j]?
def frE (f2 h2:Nat→Option Nat) (E E1:Em):Em:=
 ⟨E1.G,fun j=>match f2 j with | some i=>E1.ι i | none=>E.ι j,fun g=>match h2 g with | some i=>E1.γ i | none=>E.γ g,
  fun j=>match f2 j with | some i=>E1.δ i | none=>E.δ j,fun j=>match f2 j with | some i=>E1.κ i | none=>E.κ j⟩
section
variable {P:Program} {c:Ctx} {E E1':Em} {st stL stL' st':St} {w w':World} {f1 h1 f2 h2:Nat→Option Nat}
theorem HR.fresh (hw:HR P c E st w):HR P ⟨w,⟨E.G,fun _=>none,fun _=>none,fun _=>none,fun _=>none⟩,fun b=>(∃ i,E.ι i=some b)∨∃ g cap cur,E.γ g=some (b,cap,cur),[]⟩ E st w where
 os:=rfl
 tape:=⟨rfl,Nat.le_refl _⟩
 output:=⟨rfl,fun _ _=>rfl⟩
 size:=Nat.le_refl _
 old _ _ _:=rfl
 le:=⟨fun _ _ _ h=>h,fun _ _ h=>(h.elim nofun nofun),fun _ _ h=>(h.elim nofun nofun),fun _ _ _ _ h=>nomatch h⟩
 gnew _ _ _ _:=rfl
 gok:=hw.gok
 box i b h:=by
  obtain ⟨B,vs,h1,h2,h3,h4,h5,h6⟩:=hw.box i b h
  exact ⟨B,vs,h1,h2,h3,h4,.inr (.inl ⟨i,h⟩),h6⟩
 inj:=hw.inj
 grp g b cap cur h:=by
  obtain ⟨e,vs,inf,h1,h2,h3,h4,h5,h6,h7,h8⟩:=hw.grp g b cap cur h
  exact ⟨e,vs,inf,h1,h2,h3,h4,h5,h6,.inr (.inr ⟨g,cap,cur,h⟩),h8⟩
 ginj:=hw.ginj
 apart:=hw.apart
 dead:=hw.dead
 kap:=hw.kap
theorem simE_ι {f h:Nat→Option Nat} {j b:Nat} (hj:(simE 0 f h E).ι j=some b):∃ i,f j=some i∧E.ι i=some b:=Option.bind_eq_some_iff.1 hj
theorem simE_γ {f h:Nat→Option Nat} {g:Nat} {t:Nat×Nat×Nat} (hj:(simE 0 f h E).γ g=some t):∃ i,h g=some i∧E.γ i=some t:=Option.bind_eq_some_iff.1 hj
theorem HR.frame (hw:HR P c E st w) (hnm:Nm f1 h1 E (simE 0 f1 h1 E)) (h':HR P (.sub w (simE 0 f1 h1 E)) E1' stL' w') (hF:FrameOK f1 h1 f2 h2 st stL' st') :
  E.le (frE f2 h2 E E1')∧HR P c (frE f2 h2 E E1') st' w'∧Nm f2 h2 E1' (frE f2 h2 E E1'):=by
 have hle':=h'.le
 have ιs:∀ {j i},f2 j=some i→(frE f2 h2 E E1').ι j=E1'.ι i∧(frE f2 h2 E E1').δ j=E1'.δ i∧(frE f2 h2 E E1').κ j=E1'.κ i:=fun h=>by simp only[frE,h,and_self]
 have ιn:∀ {j},f2 j=none→(frE f2 h2 E E1').ι j=E.ι j∧(frE f2 h2 E E1').δ j=E.δ j∧(frE f2 h2 E E1').κ j=E.κ j:=fun h=>by simp only[frE,h,and_self]
 have γs:∀ {j i},h2 j=some i→(frE f2 h2 E E1').γ j=E1'.γ i:=fun h=>by simp only[frE,h]
 have γn:∀ {j},h2 j=none→(frE f2 h2 E E1').γ j=E.γ j:=fun h=>by simp only[frE,h]
 have Ns:∀ {j i b},f2 j=some i→((frE f2 h2 E E1').N j b↔E1'.N i b):=fun h=>by simp only[Em.N,(ιs h).1,(ιs h).2.1]
 have Nn:∀ {j b},f2 j=none→((frE f2 h2 E E1').N j b↔E.N j b):=fun h=>by simp only[Em.N,(ιn h).1,(ιn h).2.1]
 have hnm2:Nm f2 h2 E1' (frE f2 h2 E E1'):=⟨rfl,fun j i x hj hN=>⟨(Ns hj).2 hN,(ιs hj).2.2⟩,fun j i t hj ht=>by rw[γs hj];exact ht⟩
 have hle:E.le (frE f2 h2 E E1'):=by
  refine ⟨fun b o u hg=>hle'.G b o u hg,fun j b hN=>?_,fun j b hN=>?_,fun g b cap cur hg=>?_⟩
  ·cases hf:f2 j with
   | none=>exact (Nn hf).2 hN
   | some i=>exact (Ns hf).2 (hle'.ι i b (hnm.b i j b (hF.bwd i j (hw.N_lt hN) hf) hN).1)
  ·cases hf:f2 j with
   | none=>exact (ιn hf).2.2
   | some i=>
    obtain ⟨k1,k2⟩:=hnm.b i j b (hF.bwd i j (hw.N_lt hN) hf) hN
    rw[(ιs hf).2.2,hle'.κ i b k1,←k2];rfl
  ·cases hf:h2 g with
   | none=>exact ⟨b,cap,cur,by rw[γn hf];exact hg,.inl ⟨rfl,rfl,rfl⟩⟩
   | some i=>
    have k1:=hnm.g i g _ (hF.gbwd i g (hw.γ_lt' hg) hf) hg
    obtain ⟨b',cap',cur',k2,k3⟩:=hle'.γ i b cap cur k1
    exact ⟨b',cap',cur',by rw[γs hf];exact k2,k3⟩
 -- what has no small name is none of the small run's
 have outB:∀ {j b},f2 j=none→E.ι j=some b→¬ (Ctx.sub w (simE 0 f1 h1 E)).X b:=fun {j b} hf hι=>by
  rintro (⟨i,h⟩ | ⟨g,cap,cur,h⟩)
  ·obtain ⟨j',k1,k2⟩:=simE_ι h
   obtain rfl:=hw.inj j j' b hι k2
   rw[hF.fwd i j k1]at hf;cases hf
  ·obtain ⟨g',k1,k2⟩:=simE_γ h
   exact hw.apart j g' b cap cur hι k2
 have outG:∀ {g b cap cur},h2 g=none→E.γ g=some (b,cap,cur)→¬ (Ctx.sub w (simE 0 f1 h1 E)).X b:=fun {g b cap cur} hf hγ=>by
  rintro (⟨i,h⟩ | ⟨g',cap',cur',h⟩)
  ·obtain ⟨j',k1,k2⟩:=simE_ι h
   exact hw.apart j' g b cap cur k2 hγ
  ·obtain ⟨g2,k1,k2⟩:=simE_γ h
   obtain rfl:=hw.ginj g g2 b cap cur cap' cur' hγ k2
   rw[hF.gfwd g' g k1]at hf;cases hf
 have outX:∀ {b},b<c.w0.heap.size→¬ c.X b→¬ (Ctx.sub w (simE 0 f1 h1 E)).X b:=fun {b} hb hx=>by
  rintro (⟨i,h⟩ | ⟨g,cap,cur,h⟩)
  ·obtain ⟨j,_,k2⟩:=simE_ι h
   obtain ⟨_,_,_,_,_,_,h5,_⟩:=hw.box j b k2
   rcases h5 with h | h
   ·omega
   ·exact hx h
  ·obtain ⟨g',_,k2⟩:=simE_γ h
   obtain ⟨_,_,_,_,_,_,_,_,_,h7,_⟩:=hw.grp g' b cap cur k2
   rcases h7 with h | h
   ·omega
   ·exact hx h
 have inX:∀ {b},w.heap.size≤b∨(Ctx.sub w (simE 0 f1 h1 E)).X b→c.w0.heap.size≤b∨c.X b:=fun {b} h=>by
  rcases h with h | ⟨i,h⟩ | ⟨g,cap,cur,h⟩
  ·exact .inl (Nat.le_trans hw.size h)
  ·obtain ⟨j,_,k2⟩:=simE_ι h
   obtain ⟨_,_,_,_,_,_,h5,_⟩:=hw.box j b k2;exact h5
  ·obtain ⟨g',_,k2⟩:=simE_γ h
   obtain ⟨_,_,_,_,_,_,_,_,_,h7,_⟩:=hw.grp g' b cap cur k2;exact h7
 have newB:∀ {i b},E1'.ι i=some b→w.heap.size≤b∨(Ctx.sub w (simE 0 f1 h1 E)).X b:=fun h=>by
  obtain ⟨_,_,_,_,_,_,h5,_⟩:=h'.box _ _ h;exact h5
 have newG:∀ {g b cap cur},E1'.γ g=some (b,cap,cur)→w.heap.size≤b∨(Ctx.sub w (simE 0 f1 h1 E)).X b:=fun h=>by
  obtain ⟨_,_,_,_,_,_,_,_,_,h7,_⟩:=h'.grp _ _ _ _ h;exact h7
 refine ⟨hle,⟨h'.os.trans hw.os,td hw.tape h'.tape,⟨h'.output.1.trans hw.output.1,fun a ha=>(h'.output.2 a (Nat.lt_of_lt_of_le ha hw.size)).trans (hw.output.2 a ha)⟩,Nat.le_trans hw.size h'.size,
  fun k hk hx=>(h'.old k (Nat.lt_of_lt_of_le hk hw.size) (outX hk hx)).trans (hw.old k hk hx),hw.le.trans hle,fun b o hb hx=>(h'.gnew b o (Nat.lt_of_lt_of_le hb hw.size) (outX hb hx)).trans (hw.gnew b o hb hx),h'.gok,
  fun j b hj=>?_,fun j j' b hj hj'=>?_,fun g b cap cur hg=>?_,fun g g' b cap cur cap' cur' hg hg'=>?_,fun j g b cap cur hj hg=>?_,fun j b hj=>?_,fun j c0 hj=>?_⟩,hnm2⟩
 ·cases hf:f2 j with
  | none=>
   have hι:E.ι j=some b:=by rw[←(ιn hf).1];exact hj
   obtain ⟨B,vs,q1,q2,q3,q4,q5,q6,q7⟩:=hw.box j b hι
   have hlt:=hw.ι_lt hι
   refine ⟨B,vs,(hF.stay j (hw.ι_box hι) hf).trans q1,(h'.old b hlt (outB hf hι)).trans q2,q3,fun k hk=>⟨(q4 k hk).1.mono hle,(q4 k hk).2⟩,q5,⟨q6.1,by rw[(ιn hf).2.2];exact q6.2⟩,fun o=>(h'.gnew b o hlt (outB hf hι)).trans (q7 o)⟩
  | some i=>
   have hι:E1'.ι i=some b:=by rw[←(ιs hf).1];exact hj
   obtain ⟨B,vs,q1,q2,q3,q4,q5,q6,q7⟩:=h'.box i b hι
   obtain ⟨B',k1,k2,k3⟩:=hF.box j i B hf q1
   obtain ⟨km,k3,k4,k5,k6⟩:=k3 q6.1
   exact ⟨B',vs,k1,by rw[objOf_congr vs k2.2 k3 km];exact q2,by omega,fun k hk=>⟨k6 k hk _ _ _ hnm2 (q4 k (by omega)).1,(q4 k (by omega)).2⟩,inX q5,⟨k2.1.trans (q6.1.trans k2.2.symm),by rw[(ιs hf).2.2];exact ⟨k4.trans q6.2.1,by rw[k3];exact q6.2.2⟩⟩,q7⟩
 ·have key:∀ {j j' b},f2 j=none→(∃ i,f2 j'=some i)→(frE f2 h2 E E1').ι j=some b→(frE f2 h2 E E1').ι j'=some b→False:=fun {j j' b} hf hf' hj hj'=>by
   obtain ⟨i,hf'⟩:=hf'
   rw[(ιn hf).1]at hj;rw[(ιs hf').1]at hj'
   rcases newB hj' with h | h
   ·have:=hw.ι_lt hj;omega
   ·exact outB hf hj h
  cases hf:f2 j with
  | none=>
   cases hf':f2 j' with
   | none=>rw[(ιn hf).1]at hj;rw[(ιn hf').1]at hj';exact hw.inj j j' b hj hj'
   | some i=>exact (key hf ⟨i,hf'⟩ hj hj').elim
  | some i=>
   cases hf':f2 j' with
   | none=>exact (key hf' ⟨i,hf⟩ hj' hj).elim
   | some i'=>
    rw[(ιs hf).1]at hj;rw[(ιs hf').1]at hj'
    obtain rfl:=h'.inj i i' b hj hj'
    exact hF.inj j j' i hf hf'
 ·cases hf:h2 g with
  | none=>
   rw[γn hf]at hg
   obtain ⟨e,vs,inf,q1,q2,q3,q4,q5,q6,q7,q8⟩:=hw.grp g b cap cur hg
   have hlt:b<w.heap.size:=(Array.getElem?_eq_some_iff.1 q2).1
   exact ⟨e,vs,inf,(hF.gstay g (hw.γ_lt' hg) hf).trans q1,(h'.old b hlt (outG hf hg)).trans q2,q3,q4,q5,q6,q7,fun o ho=>(h'.gnew b o hlt (outG hf hg)).trans (q8 o ho)⟩
  | some i=>
   rw[γs hf]at hg
   obtain ⟨e,vs,inf,q1,q2,q3,q4,q5,q6,q7,q8⟩:=h'.grp i b cap cur hg
   exact ⟨e,vs,inf,hF.grp g i _ hf q1,q2,q3,q4,q5,q6,inX q7,q8⟩
 ·have key:∀ {g g' b cap cur cap' cur'},h2 g=none→(∃ i,h2 g'=some i)→(frE f2 h2 E E1').γ g=some (b,cap,cur)→(frE f2 h2 E E1').γ g'=some (b,cap',cur')→False:=fun {g g' b cap cur cap' cur'} hf hf' hj hj'=>by
   obtain ⟨i,hf'⟩:=hf'
   rw[γn hf]at hj;rw[γs hf']at hj'
   rcases newG hj' with h | h
   ·have:=hw.γ_lt hj;omega
   ·exact outG hf hj h
  cases hf:h2 g with
  | none=>
   cases hf':h2 g' with
   | none=>rw[γn hf]at hg;rw[γn hf']at hg';exact hw.ginj g g' b _ _ _ _ hg hg'
   | some i=>exact (key hf ⟨i,hf'⟩ hg hg').elim
  | some i=>
   cases hf':h2 g' with
   | none=>exact (key hf' ⟨i,hf⟩ hg' hg).elim
   | some i'=>
    rw[γs hf]at hg;rw[γs hf']at hg'
    obtain rfl:=h'.ginj i i' b _ _ _ _ hg hg'
    exact hF.ginj g g' i hf hf'
 ·cases hf:f2 j with
  | none=>
   rw[(ιn hf).1]at hj
   cases hf':h2 g with
   | none=>rw[γn hf']at hg;exact hw.apart j g b cap cur hj hg
   | some i=>
    rw[γs hf']at hg
    rcases newG hg with h | h
    ·have:=hw.ι_lt hj;omega
    ·exact outB hf hj h
  | some i=>
   rw[(ιs hf).1]at hj
   cases hf':h2 g with
   | none=>
    rw[γn hf']at hg
    rcases newB hj with h | h
    ·have:=hw.γ_lt hg;omega
    ·exact outG hf' hg h
   | some i'=>rw[γs hf']at hg;exact h'.apart i i' b cap cur hj hg
 ·cases hf:f2 j with
  | none=>
   rw[(ιn hf).2.1]at hj
   obtain ⟨B,q1,q2⟩:=hw.dead j b hj
   exact ⟨B,(hF.stay j (hw.δ_box hj) hf).trans q1,q2⟩
  | some i=>
   rw[(ιs hf).2.1]at hj
   obtain ⟨B,q1,q2⟩:=h'.dead i b hj
   obtain ⟨B',k1,k2,_⟩:=hF.box j i B hf q1
   exact ⟨B',k1,k2.1.trans q2.1,k2.2.trans q2.2⟩
 ·cases hf:f2 j with
  | none=>
   rw[(ιn hf).2.2]at hj
   exact (hw.kap j c0 hj).imp fun b h=>(Nn hf).2 h
  | some i=>
   rw[(ιs hf).2.2]at hj
   exact (h'.kap i c0 hj).imp fun b h=>(Ns hf).2 h
theorem FnC.frame {f:FuncId} {ds dsL:List D} {KL K:D→St→Prop} (hlen:ds.length=dsL.length) (hS:SimOK 0 0 f1 h1 [] st [] stL) (hA:∀ i,i<dsL.length→LeD f1 h1 (ds.getD i default) (dsL.getD i default))
  (h:FnC P f dsL stL KL) (hK:∀ d' stL',KL d' stL'→∃ f2 h2 d st',FrameOK f1 h1 f2 h2 st stL' st'∧LeD f2 h2 d' d∧K d st'):FnC P f ds st K:=by
 intro c
 refine ⟨(h c).1,fun E w vs hw hgl hs hR=>?_⟩
 obtain ⟨hw1,hnm⟩:=hS.at (fun i b hN=>by rcases hN with h | h <;> cases h) (fun g t ht=>by cases ht) hw.fresh
 refine ((h (.sub w (simE 0 f1 h1 E))).2 _ w vs hw1.enter hgl (hs.trans hlen) fun i hi=>hA i hi _ _ _ hnm (hR i (by omega))).mono ?_
 rintro e w' ⟨v,E',d',stL',rfl,k1,k2,k3,_,k5⟩
 obtain ⟨f2,h2,d,st',hF,hd,hk⟩:=hK d' stL' k5
 obtain ⟨l1,l2,l3⟩:=hw.frame hnm k2 hF
 exact ⟨v,_,d,st',rfl,l1,l2,hd _ _ _ l3 k3,fun _ _ _ hn=>absurd trivial hn,hk⟩
end
end Go.Ab
namespace Go.Ab
open Go.RowKit
theorem nbeq_false {k t:Nat} (h:k≠t):Nat.beq k t=false:=by
 cases hb:Nat.beq k t with
 | false=>rfl
 | true=>exact absurd (Nat.eq_of_beq_eq_true hb) h
abbrev Tbl:=FuncId→Option (AC×List ARes×Nat)
def TblOK (P:Program) (tbl:Tbl):Prop:=∀ f ac ars n,tbl f=some (ac,ars,n)→(∀ vs w,(callFunc f vs).run P w=.ok (.enter f vs) w)∧∃ fn g,P.funcs[f]? = some fn∧compF P fn g=some (ac,ars)∧n≤fn.ntmps∧gcFree ac=true
noncomputable def tcons (k:FuncId) (r:AC×List ARes×Nat) (t:Tbl):Tbl:=fun f=>bif Nat.beq f k then some r else t f
theorem TblOK.nil {P:Program}:TblOK P fun _=>none:=fun _ _ _ _ h=>by cases h
theorem TblOK.cons {P:Program} {k:FuncId} {ac:AC} {ars:List ARes} {n:Nat} {fn:Func} {g:AC} {t:Tbl} (hcall:∀ vs w,(callFunc k vs).run P w=.ok (.enter k vs) w) (hf:P.funcs[k]? = some fn) (hc:compF P fn g=some (ac,ars)) (hn:n≤fn.ntmps)
  (ht:TblOK P t) (hgc:gcFree ac=true:=by kernel_rfl):TblOK P (tcons k (ac,ars,n) t):=fun f ac' ars' n' h=>by
 unfold tcons at h
 by_cases hk:f=k
 ·subst hk
  simp only[Nat.beq_refl,cond_true,Option.some.injEq,Prod.mk.injEq]at h
  obtain ⟨rfl,rfl,rfl⟩:=h
  exact ⟨hcall,fn,g,hf,hc,hn,hgc⟩
 ·rw[nbeq_false hk]at h
  exact ht f ac' ars' n' h
end Go.Ab
namespace Go.Ab
open Go.RowKit
section
variable {P:Program}
end
end Go.Ab
namespace Go.Ab
open Go.RowKit
noncomputable def fNat (n:Nat) (f:Nat→Bool):Bool:=Nat.rec (f 0) (fun m _=>f (Nat.succ m)) n
noncomputable def fInt (n:Int) (f:Int→Bool):Bool:=Int.rec (fun m=>fNat m fun m=>f (.ofNat m)) (fun m=>fNat m fun m=>f (.negSucc m)) n
noncomputable def fBool (b:Bool) (f:Bool→Bool):Bool:=Bool.rec (f false) (f true) b
noncomputable def fVal (v:Value) (f:Value→Bool):Bool:=
 match v with
 | .int k n=>fInt n fun n=>f (.int k n)
 | .bool b=>fBool b fun b=>f (.bool b)
 | v=>f v
theorem fNat_eq (n:Nat) (f:Nat→Bool):fNat n f=f n:=by cases n <;> rfl
theorem fInt_eq (n:Int) (f:Int→Bool):fInt n f=f n:=by
 cases n with
 | ofNat m=>exact fNat_eq m fun m=>f (.ofNat m)
 | negSucc m=>exact fNat_eq m fun m=>f (.negSucc m)
theorem fBool_eq (b:Bool) (f:Bool→Bool):fBool b f=f b:=by cases b <;> rfl
theorem fVal_eq (v:Value) (f:Value→Bool):fVal v f=f v:=by
 unfold fVal;split
 ·exact fInt_eq _ _
 ·exact fBool_eq _ _
 ·rfl
noncomputable def fList {α:Type} (l:List α) (f:List α→Bool):Bool:=List.rec (motive:=fun _=>(List α→Bool)→Bool) (fun f=>f []) (fun x _ ih f=>ih fun r=>f (x :: r)) l f
theorem fList_eq {α:Type}:∀ (l:List α) (f:List α→Bool),fList l f=f l
 | [],_=>rfl
 | x :: l,f=>(fList_eq l fun r=>f (x :: r))
noncomputable def fApp {α:Type} (a b:List α) (f:List α→Bool):Bool:=List.rec (motive:=fun _=>(List α→Bool)→Bool) (fun f=>f b) (fun x _ ih f=>ih fun r=>f (x :: r)) a f
theorem fApp_eq {α:Type}:∀ (a b:List α) (f:List α→Bool),fApp a b f=f (a ++ b)
 | [],_,_=>rfl
 | x :: a,b,f=>(fApp_eq a b fun r=>f (x :: r))
noncomputable def fTail {α:Type} (l:List α) (f:List α→Bool):Bool:=match l with | []=>f [] | x :: r=>f (x :: r)
theorem fTail_eq {α:Type} (l:List α) (f:List α→Bool):fTail l f=f l:=by cases l <;> rfl
noncomputable def fD (d:D) (f:D→Bool):Bool:=
 match d with
 | .p (.v v)=>fVal v fun v=>f (.p (.v v))
 | .p x=>f (.p x)
 | .ptr b o=>fNat b fun b=>fNat o fun o=>f (.ptr b o)
 | .ms b o n=>fNat b fun b=>fNat o fun o=>fNat n fun n=>f (.ms b o n)
 | .grp g n c=>fNat g fun g=>fNat n fun n=>f (.grp g n c)
 | d=>f d
theorem fD_eq (d:D) (f:D→Bool):fD d f=f d:=by
 unfold fD;split <;> simp only[fVal_eq,fNat_eq]
noncomputable def bget (ρ:Env):Nat→D:=List.rec (motive:=fun _=>Nat→D) (fun _=>.bad) (fun q _ ih t=>Bool.rec (ih t) q.2 (Nat.beq q.1 t)) ρ
theorem bget_eq:∀ (ρ:Env) (t:Nat),bget ρ t=ρ.get t
 | [],_=>rfl
 | (k,d) :: r,t=>by
  have e:bget ((k,d) :: r) t=Bool.rec (bget r t) d (Nat.beq k t):=rfl
  rw[e,bget_eq r t]
  simp only[Env.get]
  by_cases h:k=t
  ·subst h;simp
  ·rw[if_neg h,nbeq_false h]
noncomputable def bkeep (ρ:Env) (l:List Nat) (f:Env→Bool):Bool:=List.rec (motive:=fun _=>(Env→Bool)→Bool) (fun f=>f []) (fun t _ ih f=>fD (bget ρ t) fun d=>ih fun r=>f ((t,d) :: r)) l f
theorem bkeep_eq (ρ:Env):∀ (l:List Nat) (f:Env→Bool),bkeep ρ l f=f (ρ.keep l)
 | [],_=>rfl
 | t :: l,f=>by
  show (fD (bget ρ t) fun d=>bkeep ρ l fun r=>f ((t,d) :: r))=_
  rw[fD_eq,bget_eq,bkeep_eq ρ l]
  rfl
noncomputable def bev (ρ:Env):Operand→D
 | .tmp t=>bget ρ t
 | .const v=>.p (cstP v)
 | .global g=>(match gkCells g with
  | []=>.p (.v (.pointer (some ⟨g,0,none⟩)))
  | c :: cs=>.el (c :: cs))
 | .func f=>.fn (.func f) [] []
theorem bev_eq (ρ:Env) (x:Operand):bev ρ x=ev ρ x:=by
 cases x with
 | global g=>simp only[bev,ev];cases gkCells g <;> rfl
 | _=>simp[bev,ev,bget_eq]
theorem bevf_eq (ρ:Env):bev ρ=ev ρ:=funext (bev_eq ρ)
noncomputable def bBin (op:BinOp) (x y:Value) (K:Value→Bool):Bool:=
 match x,y with
 | .int k a,.int k' b=>
  match op with
  | .add=>decide (k=k') && fInt (k.wrap (a+b)) fun n=>K (.int k n)
  | .sub=>decide (k=k') && fInt (k.wrap (a - b)) fun n=>K (.int k n)
  | .mul=>decide (k=k') && fInt (k.wrap (a*b)) fun n=>K (.int k n)
  | .quo=>decide (k=k') && !(a == a && b == 0) && fInt (k.wrap (a.tdiv b)) fun n=>K (.int k n)
  | .rem=>decide (k=k') && !(a == a && b == 0) && fInt (a.tmod b) fun n=>K (.int k n)
  | .and=>decide (k=k') && fInt (k.wrap (BitVec.ofInt k.bits a &&& BitVec.ofInt k.bits b).toNat) fun n=>K (.int k n)
  | .or=>decide (k=k') && fInt (k.wrap (BitVec.ofInt k.bits a ||| BitVec.ofInt k.bits b).toNat) fun n=>K (.int k n)
  | .xor=>decide (k=k') && fInt (k.wrap (BitVec.ofInt k.bits a ^^^ BitVec.ofInt k.bits b).toNat) fun n=>K (.int k n)
  | .andNot=>decide (k=k') && fInt (k.wrap (BitVec.ofInt k.bits a &&& ~~~(BitVec.ofInt k.bits b)).toNat) fun n=>K (.int k n)
  | .shl=>decide (0≤b) && fInt (k.wrap (a*2 ^ (min b.toNat k.bits))) fun n=>K (.int k n)
  | .shr=>decide (0≤b) && fInt (a.fdiv (2 ^ (min b.toNat k.bits))) fun n=>K (.int k n)
  | .eql=>decide (k=k') && fBool (a == b) fun n=>K (.bool n)
  | .neq=>decide (k=k') && fBool (a != b) fun n=>K (.bool n)
  | .lss=>decide (k=k') && fBool (decide (a<b)) fun n=>K (.bool n)
  | .leq=>decide (k=k') && fBool (decide (a≤b)) fun n=>K (.bool n)
  | .gtr=>decide (k=k') && fBool (decide (a>b)) fun n=>K (.bool n)
  | .geq=>decide (k=k') && fBool (decide (a≥b)) fun n=>K (.bool n)
 | _,_=>false
theorem bBin_sound {op:BinOp} {x y:Value} {K:Value→Bool} (h:bBin op x y K=true):sBin op x y (fun v=>K v=true):=by
 unfold bBin at h
 unfold sBin
 split at h
 ·split at h <;> simp only[Bool.and_eq_true,decide_eq_true_eq,fInt_eq,fBool_eq]at h <;> first | exact h | skip
  ·exact ⟨h.1.1,by simpa using h.1.2,h.2⟩
  ·exact ⟨h.1.1,by simpa using h.1.2,h.2⟩
 ·cases h
abbrev CallB:=FuncId→List D→St→(D→St→Bool)→Bool
noncomputable def bnth {α:Type} (l:List α) (i:Nat):Option α:=
 Nat.rec (motive:=fun _=>List α→Option α) (fun l=>List.rec (motive:=fun _=>Option α) none (fun x _ _=>some x) l) (fun _ ih l=>List.rec (motive:=fun _=>Option α) none (fun _ r _=>ih r) l) i l
theorem bnth_eq {α:Type}:∀ (i:Nat) (l:List α),bnth l i=l[i]?
 | 0,[]=>rfl
 | 0,_ :: _=>rfl
 | i+1,[]=>rfl
 | i+1,x :: r=>by
  show bnth r i=_
  rw[bnth_eq i r];rfl
noncomputable def bfits {α:Type} (k:Nat) (l:List α):Bool:=
 Nat.rec (motive:=fun _=>List α→Bool) (fun _=>true) (fun _ ih l=>List.rec (motive:=fun _=>Bool) false (fun _ r _=>ih r) l) k l
theorem bfits_eq {α:Type}:∀ (k:Nat) (l:List α),bfits k l=Nat.ble k l.length
 | 0,l=>by show true=_;simp
 | k+1,[]=>rfl
 | k+1,x :: r=>by
  show bfits k r=_
  rw[bfits_eq k r,List.length_cons];rfl
noncomputable def bdrop {α:Type} (l:List α) (k:Nat):List α:=
 Nat.rec (motive:=fun _=>List α→List α) (fun l=>l) (fun _ ih l=>List.rec (motive:=fun _=>List α) [] (fun _ r _=>ih r) l) k l
theorem bdrop_eq {α:Type}:∀ (k:Nat) (l:List α),bdrop l k=l.drop k
 | 0,l=>rfl
 | k+1,[]=>by show []=_;simp
 | k+1,x :: r=>by
  show bdrop r k=_
  rw[bdrop_eq k r];rfl
noncomputable def btake {α:Type} (l:List α) (k:Nat):List α:=
 Nat.rec (motive:=fun _=>List α→List α) (fun _=>[]) (fun _ ih l=>List.rec (motive:=fun _=>List α) [] (fun x r _=>x :: ih r) l) k l
theorem btake_eq {α:Type}:∀ (k:Nat) (l:List α),btake l k=l.take k
 | 0,l=>rfl
 | k+1,[]=>by show []=_;simp
 | k+1,x :: r=>by
  show x :: btake r k=_
  rw[btake_eq k r];rfl
noncomputable def bput (cells:List D) (off:Nat) (new:List D) (f:List D→Bool):Bool:=
 Nat.rec (motive:=fun _=>List D→(List D→Bool)→Bool) (fun cells f=>fApp new (bdrop cells new.length) f)
  (fun _ ih cells f=>List.rec (motive:=fun _=>Bool) (fApp new [] f) (fun x r _=>ih r fun r=>f (x :: r)) cells) off cells f
theorem bput_eq (new:List D):∀ (off:Nat) (cells:List D) (f:List D→Bool),off≤cells.length→bput cells off new f=f (putCells cells off new)
 | 0,cells,f,_=>by
  show fApp new (bdrop cells new.length) f=_
  rw[fApp_eq,bdrop_eq]
  simp[putCells]
 | off+1,[],f,h=>by simp at h
 | off+1,x :: r,f,h=>by
  show (bput r off new fun r=>f (x :: r))=_
  rw[bput_eq new off r _ (by simpa using h)]
  simp only[putCells]
  rw[show off+1+new.length=(off+new.length)+1 by omega]
  simp
noncomputable def bset (l:List Box) (i:Nat) (B:Box) (f:List Box→Bool):Bool:=
 Nat.rec (motive:=fun _=>List Box→(List Box→Bool)→Bool) (fun l f=>List.rec (motive:=fun _=>Bool) (f []) (fun _ r _=>f (B :: r)) l)
  (fun _ ih l f=>List.rec (motive:=fun _=>Bool) (f []) (fun x r _=>ih r fun r=>f (x :: r)) l) i l f
theorem bset_eq (B:Box):∀ (i:Nat) (l:List Box) (f:List Box→Bool),bset l i B f=f (l.set i B)
 | 0,[],f=>rfl
 | 0,_ :: _,f=>rfl
 | i+1,[],f=>rfl
 | i+1,x :: r,f=>by
  show (bset r i B fun r=>f (x :: r))=_
  rw[bset_eq B i r]
  rfl
noncomputable def bfill (cells:List D) (l:List (Nat×Nat×D)) (f:List D→Bool):Bool:=
 List.rec (motive:=fun _=>List D→(List D→Bool)→Bool) (fun cells f=>f cells)
  (fun q _ ih cells f=>Nat.beq (cellsD q.2.2).length q.2.1 && bfits (q.1+q.2.1) cells && (cellsD q.2.2).all oneD && bput cells q.1 (cellsD q.2.2) fun cells=>ih cells f) l cells f
theorem bfill_sound:∀ (l:List (Nat×Nat×D)) (cells:List D) (f:List D→Bool),bfill cells l f=true→∃ cs,fillD cells l=some cs∧f cs=true
 | [],cells,f,h=>⟨cells,rfl,h⟩
 | (o,s,d) :: l,cells,f,h=>by
  have h:(Nat.beq (cellsD d).length s && bfits (o+s) cells && (cellsD d).all oneD && bput cells o (cellsD d) fun cells=>bfill cells l f)=true:=h
  simp only[bfits_eq,Bool.and_eq_true,Nat.beq_eq,Nat.ble_eq]at h
  obtain ⟨⟨⟨h1,h2⟩,h3⟩,h4⟩:=h
  rw[bput_eq _ _ _ _ (by omega)]at h4
  obtain ⟨cs,q1,q2⟩:=bfill_sound l _ f h4
  exact ⟨cs,by simp only[fillD];rw[if_pos ⟨h1,h2,h3⟩];exact q1,q2⟩
noncomputable def fAgg (ds:List D) (f:D→Bool):Bool:=match allP ds with | some ps=>fList ps fun ps=>f (.p (.agg ps)) | none=>f (.agg ds)
theorem fAgg_eq (ds:List D) (f:D→Bool):fAgg ds f=f (mkAgg ds):=by
 unfold fAgg mkAgg;cases allP ds with
 | none=>rfl
 | some ps=>exact fList_eq ps _
noncomputable def fTup (ds:List D) (f:D→Bool):Bool:=match allP ds with | some ps=>fList ps fun ps=>f (.p (.tup ps)) | none=>f (.tup ds)
theorem fTup_eq (ds:List D) (f:D→Bool):fTup ds f=f (mkTup ds):=by
 unfold fTup mkTup;cases allP ds with
 | none=>rfl
 | some ps=>exact fList_eq ps _
noncomputable def bsrc (st:St) (size:Nat) (d:D):Option PD:=match d with
 | .ms b off m=>match bnth st.box b with
  | some B=>bif !B.fz && bfits (off+m*size) B.cells then (match allP (btake (bdrop B.cells off) (m*size)) with | some ps=>some (.sl (some false) m ps) | none=>none) else none
  | none=>none
 | d=>toP d
theorem bsrc_eq (st:St) (size:Nat) (d:D):bsrc st size d=srcP st size d:=by
 cases d
 case ms b off m=>
  simp only[bsrc,srcP,bnth_eq,bfits_eq,bdrop_eq,btake_eq]
  cases st.box[b]? with
  | none=>rfl
  | some B=>
   simp only
   by_cases hc:B.fz=false∧off+m*size≤B.cells.length
   ·rw[if_pos hc]
    have:(!B.fz && Nat.ble (off+m*size) B.cells.length)=true:=by simp[hc.1,hc.2]
    rw[this]
    simp only[cond_true]
    cases allP ((B.cells.drop off).take (m*size)) <;> rfl
   ·rw[if_neg hc]
    have:(!B.fz && Nat.ble (off+m*size) B.cells.length)=false:=by
     cases hb:(!B.fz && Nat.ble (off+m*size) B.cells.length) with
     | false=>rfl
     | true=>simp at hb;exact absurd hb hc
    rw[this];rfl
 all_goals rfl
noncomputable def bMapBox (st:St) (kk vv:Nat) (d:D) (F:Nat→Box→Bool):Bool:=match d with
 | .mref b=>(match bnth st.box b with
  | some B=>B.m && !B.ap && Nat.beq B.e (1+1000*kk+vv) && Nat.blt vv 1000 && F b B
  | none=>false)
 | _=>false
theorem bMapBox_sound {st:St} {kk vv:Nat} {d:D} {F:Nat→Box→Bool} {F':Nat→Box→Prop} (h:bMapBox st kk vv d F=true) (hF:∀ i B,F i B=true→F' i B):mapBox st kk vv d F':=by
 unfold bMapBox at h
 unfold mapBox
 split at h
 ·split at h
  ·rename_i B hB
   rw[bnth_eq]at hB
   simp only[hB]
   simp only[Bool.and_eq_true,Bool.not_eq_true',Nat.beq_eq,Nat.blt_eq]at h
   exact ⟨h.1.1.1.1,h.1.1.1.2,h.1.1.2,h.1.2,hF _ _ h.2⟩
  ·cases h
 ·cases h
noncomputable def bLk (ok:Bool) (d:D) (b:Bool) (f:D→Bool):Bool:=Bool.rec (fD d f) (fD d fun d=>fTup [d,.p (.v (.bool b))] f) ok
theorem bLk_eq (ok:Bool) (d:D) (b:Bool) (f:D→Bool):bLk ok d b f=f (if ok=true then mkTup [d,.p (.v (.bool b))] else d):=by
 cases ok
 ·exact fD_eq _ _
 ·exact (fD_eq d fun d=>fTup [d,.p (.v (.bool b))] f).trans (fTup_eq _ _)
noncomputable def bM (ρ:Env) (st:St) (K:D→St→Bool):MOp→Bool
 | .mk kk vv=>Nat.blt vv 1000 && fNat st.box.length fun n=>fNat (1+1000*kk+vv) fun e=>fApp st.box [{ cells:=[intD 0],e:=e,fz:=true,m:=true }] fun bs=>K (.mref n) { st with box:=bs }
 | .look ok V zero x i=>match bev ρ i with
  | .p (.v (.int q k))=>(match bev ρ x with
   | .p (.v (.map none))=>bLk ok (valD V zero) false fun d=>K d st
   | d=>bMapBox st 0 V d fun _ B=>match findD (kw V+1) (.int q k) ((B.cells.length - 1) / (kw V+2)) (B.cells.drop 1) 0 with
    | some (some (_,r))=>Nat.ble (kw V) r.length && bLk ok (valD V r) true fun d=>K d st
    | some none=>bLk ok (valD V zero) false fun d=>K d st
    | none=>false)
  | _=>false
 | .upd V x kx vx=>match bev ρ kx with
  | .p (.v (.int q k))=>bMapBox st 0 V (bev ρ x) fun b B=>valOK V (bev ρ vx) && Nat.beq (cellsD (bev ρ vx)).length (kw V) && (cellsD (bev ρ vx)).all oneD && Nat.beq B.cells.length (1+(B.cells.length - 1) / (kw V+2)*(kw V+2)) &&
    (match findD (kw V+1) (.int q k) ((B.cells.length - 1) / (kw V+2)) (B.cells.drop 1) 0 with
    | some (some (i,_))=>fList (putCells B.cells (2+i*(kw V+2)) (cellsD (bev ρ vx))) fun cells=>bset st.box b { B with cells:=cells } fun bs=>K (.p (.v undef)) { st with box:=bs }
    | some none=>(match natD (B.cells.headD .bad) with
     | some c=>fNat c fun c=>fNat (c+1) fun c1=>fList ((intD c1 :: B.cells.drop 1) ++ .p (.v (.int q k)) :: cellsD (bev ρ vx) ++ [intD c]) fun cells=>bset st.box b { B with cells:=cells } fun bs=>K (.p (.v undef)) { st with box:=bs }
     | none=>false)
    | none=>false)
  | _=>false
 | .del V x kx=>match bev ρ kx with
  | .p (.v (.int q k))=>bMapBox st 0 V (bev ρ x) fun b B=>Nat.beq B.cells.length (1+(B.cells.length - 1) / (kw V+2)*(kw V+2)) &&
    (match findD (kw V+1) (.int q k) ((B.cells.length - 1) / (kw V+2)) (B.cells.drop 1) 0 with
    | some (some (i,_))=>fList (B.cells.take (1+i*(kw V+2)) ++ B.cells.drop (1+(i+1)*(kw V+2))) fun cells=>bset st.box b { B with cells:=cells } fun bs=>K (.p (.tup [])) { st with box:=bs }
    | some none=>K (.p (.tup [])) st
    | none=>false)
  | _=>false
 | .len kk vv x=>match bev ρ x with
  | .p (.v (.map none))=>K (intD 0) st
  | d=>bMapBox st kk vv d fun _ B=>fNat ((B.cells.length - 1) / (kw kk+kw vv+1)) fun n=>K (intD n) st
 | .rng kk vv x=>match bev ρ x with
  | .p (.v (.map none))=>fNat st.box.length fun n=>fApp st.box [{ cells:=[.p (.v (.map none)),intD 0,intD 0],e:=0,fz:=true,m:=true }] fun bs=>K (.ptr n 0) { st with box:=bs }
  | d=>bMapBox st kk vv d fun _ B=>match natD (B.cells.headD .bad) with
   | some c=>fNat c fun c=>fNat st.box.length fun n=>fApp st.box [{ cells:=[d,intD c,intD c],e:=0,fz:=true,m:=true }] fun bs=>K (.ptr n 0) { st with box:=bs }
   | none=>false
 | .nxt kk vv x=>match bev ρ x with
  | .ptr i 0=>(match bnth st.box i with
   | some I=>I.m && !I.ap && Nat.beq I.e 0 && (match I.cells with
    | .p (.v (.map none)) :: _ :: _ :: _=>K (mkTup [.p (.v (.bool false))]) st
    | d :: s :: l :: seen=>bMapBox st kk vv d fun _ B=>
      (match natD (B.cells.headD .bad),entsD (kw kk+kw vv) ((B.cells.length - 1) / (kw kk+kw vv+1)) (B.cells.drop 1),natD s,natD l,natsD seen with
      | some c,some es,some s,some l,some sn=>Nat.beq c l && Nat.ble s c && (es.all fun q=>Nat.blt q.2 s) &&
        (match es.filter fun q=>!sn.contains q.2 with
        | []=>K (mkTup [.p (.v (.bool false))]) st
        | [q]=>fD (valD kk q.1) fun k=>fD (valD vv (q.1.drop (kw kk))) fun v=>fNat q.2 fun n=>fApp I.cells [intD n] fun cells=>bset st.box i { I with cells:=cells } fun bs=>
         K (mkTup [.p (.v (.bool true)),k,v]) { st with box:=bs }
        | _=>false)
      | _,_,_,_,_=>false)
    | _=>false)
   | none=>false)
  | _=>false
 | .ent kk vv x=>match bev ρ x with
  | .ptr i 0=>(match bnth st.box i with
   | some I=>I.m && !I.ap && Nat.beq I.e 0 && (match I.cells with
    | d :: _ :: l :: seen=>bMapBox st kk vv d fun _ B=>
      (match natD (B.cells.headD .bad),entsD (kw kk+kw vv) ((B.cells.length - 1) / (kw kk+kw vv+1)) (B.cells.drop 1),natD l,natsD seen with
      | some c,some es,some l,some sn=>Nat.beq c l && (match sn.getLast? with
       | some b=>(match es.find? fun q=>q.2 == b with
        | some q=>fD (valD kk q.1) fun k=>fD (valD vv (q.1.drop (kw kk))) fun v=>K (mkTup [k,v]) st
        | none=>false)
       | none=>false)
      | _,_,_,_=>false)
    | _=>false)
   | none=>false)
  | _=>false
 | .eqN neg x y=>match bev ρ x,bev ρ y with
  | .mref _,.p (.v (.map none))=>K (.p (.v (.bool neg))) st
  | .p (.v (.map none)),.p (.v (.map none))=>K (.p (.v (.bool (!neg)))) st
  | _,_=>false
 | .frz _ _=>false
 | .ldF _ _ _ _ _=>false
 | .lit0 _=>false
 | .apn _ _ _ _ _=>false
 | .capN _=>false
 | .apz _ _ _ _ _ _=>false
 | .apf _ _ _ _ _=>false
theorem bM_sound {ρ:Env} {st:St} {K:D→St→Bool} {m:MOp} (h:bM ρ st K m=true):wpM ρ st (fun d st=>K d st=true) m:=by
 cases m <;> simp only[bM,bev_eq,fNat_eq,fList_eq,fApp_eq,bset_eq,bnth_eq,bLk_eq]at h <;> simp only[wpM]
 case mk kk vv=>
  simp only[Bool.and_eq_true,Nat.blt_eq]at h
  exact h
 case frz=>exact (Bool.false_ne_true h).elim
 case ldF=>exact (Bool.false_ne_true h).elim
 case lit0=>exact (Bool.false_ne_true h).elim
 case apn=>exact (Bool.false_ne_true h).elim
 case capN=>exact (Bool.false_ne_true h).elim
 case apz=>exact (Bool.false_ne_true h).elim
 case apf=>exact (Bool.false_ne_true h).elim
 case look ok V zero x y=>
  split at h
  ·rename_i q k hk
   simp only[hk]
   split at h
   ·rename_i hx;simp only[hx];exact h
   ·rename_i hn
    split
    ·rename_i hx;exact absurd hx hn
    ·refine bMapBox_sound h fun _ B h=>?_
     split at h
     ·rename_i hf;simp only[hf];simp only[Bool.and_eq_true,Nat.ble_eq]at h;exact h
     ·rename_i hf;simp only[hf];exact h
     ·exact (Bool.false_ne_true h).elim
  ·exact (Bool.false_ne_true h).elim
 case upd V x y z=>
  split at h
  ·rename_i q k hk
   simp only[hk]
   refine bMapBox_sound h fun _ B h=>?_
   simp only[Bool.and_eq_true,Nat.beq_eq]at h
   obtain ⟨⟨⟨⟨h1,h2⟩,h3⟩,h4⟩,h⟩:=h
   refine ⟨h1,h2,h3,h4,?_⟩
   split at h
   ·rename_i hf;simp only[hf];exact h
   ·rename_i hf;simp only[hf]
    split at h
    ·rename_i hc;simp only[hc];exact h
    ·exact (Bool.false_ne_true h).elim
   ·exact (Bool.false_ne_true h).elim
  ·exact (Bool.false_ne_true h).elim
 case del V x y=>
  split at h
  ·rename_i q k hk
   simp only[hk]
   refine bMapBox_sound h fun _ B h=>?_
   simp only[Bool.and_eq_true,Nat.beq_eq]at h
   refine ⟨h.1,?_⟩
   replace h:=h.2
   split at h
   ·rename_i hf;simp only[hf];exact h
   ·rename_i hf;simp only[hf];exact h
   ·exact (Bool.false_ne_true h).elim
  ·exact (Bool.false_ne_true h).elim
 case len kk vv x=>
  split at h
  ·rename_i hx;simp only[hx];exact h
  ·rename_i hn
   split
   ·rename_i hx;exact absurd hx hn
   ·exact bMapBox_sound h fun _ B h=>h
 case rng kk vv x=>
  split at h
  ·rename_i hx;simp only[hx];exact h
  ·rename_i hn
   split
   ·rename_i hx;exact absurd hx hn
   ·refine bMapBox_sound h fun _ B h=>?_
    split at h
    ·rename_i hc;simp only[hc];exact h
    ·exact (Bool.false_ne_true h).elim
 case eqN neg x y=>
  split at h
  ·rename_i h1 h2;simp only[h1,h2];exact h
  ·rename_i h1 h2;simp only[h1,h2];exact h
  ·exact (Bool.false_ne_true h).elim
 case ent kk vv x=>
  split at h
  ·rename_i i hx
   simp only[hx]
   split at h
   ·rename_i I hI
    simp only[hI]
    simp only[Bool.and_eq_true,Bool.not_eq_true',Nat.beq_eq]at h
    obtain ⟨⟨⟨h1,h2⟩,h3⟩,h⟩:=h
    refine ⟨h1,h2,h3,?_⟩
    split at h
    ·rename_i d s l seen hc
     simp only[hc]
     refine bMapBox_sound h fun _ B h=>?_
     split at h
     ·rename_i e1 e2 e3 e4
      simp only[e1,e2,e3,e4]
      simp only[Bool.and_eq_true,Nat.beq_eq]at h
      refine ⟨h.1,?_⟩
      have h:=h.2
      split at h
      ·rename_i e5
       simp only[e5]
       split at h
       ·rename_i e6
        simp only[e6]
        simpa only[fD_eq] using h
       ·exact (Bool.false_ne_true h).elim
      ·exact (Bool.false_ne_true h).elim
     ·exact (Bool.false_ne_true h).elim
    ·exact (Bool.false_ne_true h).elim
   ·exact (Bool.false_ne_true h).elim
  ·exact (Bool.false_ne_true h).elim
 case nxt kk vv x=>
  split at h
  ·rename_i i hx
   simp only[hx]
   split at h
   ·rename_i I hI
    simp only[hI]
    simp only[Bool.and_eq_true,Bool.not_eq_true',Nat.beq_eq]at h
    obtain ⟨⟨⟨h1,h2⟩,h3⟩,h⟩:=h
    refine ⟨h1,h2,h3,?_⟩
    split at h
    ·rename_i hc;simp only[hc];exact h
    ·rename_i d s l seen hn hc
     simp only[hc]
     refine bMapBox_sound h fun _ B h=>?_
     split at h
     ·rename_i e1 e2 e3 e4 e5
      simp only[e1,e2,e3,e4,e5]
      simp only[Bool.and_eq_true,Nat.beq_eq,Nat.ble_eq,List.all_eq_true,Nat.blt_eq,fD_eq]at h
      obtain ⟨⟨⟨h1,h2⟩,h3⟩,h4⟩:=h
      rename_i c es s l sn
      refine ⟨h1,h2,h3,fun e=>?_,fun q hq e=>?_⟩
      ·have hnil:(es.filter fun q=>!sn.contains q.2)=[]:=by
        rw[List.filter_eq_nil_iff]
        intro q hq
        have:=List.all_eq_true.1 e q hq
        simp at this
        simp[this]
       simp only[hnil]at h4
       exact h4
      ·have hmem:q∈es.filter fun q=>!sn.contains q.2:=List.mem_filter.2 ⟨hq,by rw[e];rfl⟩
       split at h4
       ·rename_i hf;rw[hf]at hmem;cases hmem
       ·rename_i q' hf
        rw[hf]at hmem
        obtain rfl:=List.mem_singleton.1 hmem
        simp only[hc]at h4;exact h4
       ·exact (Bool.false_ne_true h4).elim
     ·exact (Bool.false_ne_true h).elim
    ·exact (Bool.false_ne_true h).elim
   ·exact (Bool.false_ne_true h).elim
  ·exact (Bool.false_ne_true h).elim
noncomputable def bOp (C:CallB) (ρ:Env) (st:St) (K:D→St→Bool):AOp→Bool
 | .mv x=>fD (bev ρ x) fun d=>K d st
 | .pick c a b=>match bev ρ c with | .p (.v (.bool t))=>Bool.rec (fD (bev ρ b) fun d=>K d st) (fD (bev ρ a) fun d=>K d st) t | _=>false
 | .bin op x y=>match bev ρ x,bev ρ y with
  | .p (.v a),.p (.v b)=>bBin op a b fun r=>K (.p (.v r)) st
  | _,_=>false
 | .binB neg x y=>match bev ρ x,bev ρ y with
  | .p (.v (.bool a)),.p (.v (.bool b))=>fBool ((a == b) ^^ neg) fun b=>K (.p (.v (.bool b))) st
  | _,_=>false
 | .eqA ks neg x y=>match toP (bev ρ x),toP (bev ρ y) with
  | some (.agg xs),some (.agg ys)=>match psEq ks xs ys with | some b=>fBool (b ^^ neg) fun b=>K (.p (.v (.bool b))) st | none=>false
  | _,_=>false
 | .un op x=>match op,bev ρ x with
  | .not,.p (.v (.bool b))=>fBool (!b) fun b=>K (.p (.v (.bool b))) st
  | .neg,.p (.v (.int k n))=>fInt (k.wrap (0 - n)) fun n=>K (.p (.v (.int k n))) st
  | .xor,.p (.v (.int k n))=>fInt (k.wrap (BitVec.ofInt k.bits (onesK k) ^^^ BitVec.ofInt k.bits n).toNat) fun n=>K (.p (.v (.int k n))) st
  | _,_=>false
 | .conv k x=>match bev ρ x with | .p (.v (.int _ n))=>fInt (k.wrap n) fun n=>K (.p (.v (.int k n))) st | _=>false
 | .len x=>match bev ρ x with
  | .p (.sl _ n _)=>fNat n fun n=>K (.p (.v (.int .i64 (.ofNat n)))) st
  | .grp _ n _=>fNat n fun n=>K (.p (.v (.int .i64 (.ofNat n)))) st
  | .ms _ _ n=>fNat n fun n=>K (.p (.v (.int .i64 (.ofNat n)))) st
  | _=>false
 | .idx size x i=>match bev ρ x,bev ρ i with
  | .p (.sl _ n cells),.p (.v (.int _ k))=>decide (0≤k) && decide (k<n) && fTail (bdrop cells (k.toNat*size)) fun cells=>K (.el cells) st
  | .grp _ n cells,.p (.v (.int _ k))=>decide (0≤k) && decide (k<n) && fTail (bdrop cells (k.toNat*size)) fun cells=>K (.el cells) st
  | .ms b off n,.p (.v (.int _ k))=>decide (0≤k) && decide (k<n) && fNat (off+k.toNat*size) fun off=>K (.ptr b off) st
  | _,_=>false
 | .idxA len size x i=>match bev ρ x,bev ρ i with
  | .ptr b off,.p (.v (.int _ k))=>decide (0≤k) && decide (k<len) && fNat (off+k.toNat*size) fun off=>K (.ptr b off) st
  | .el cells,.p (.v (.int _ k))=>decide (0≤k) && decide (k<len) && fTail (bdrop cells (k.toNat*size)) fun cells=>K (.el cells) st
  | _,_=>false
 | .load x=>match bev ρ x with
  | .el cells=>match cells with | c :: _=>K (.p c) st | []=>false
  | .ptr b off=>match bnth st.box b with | some B=>!B.fz && (match bnth B.cells off with | some d=>fD d fun d=>K d st | none=>false) | none=>false
  | _=>false
 | .loadA size x=>match bev ρ x with
  | .el cells=>bfits size cells && fList (btake cells size) fun l=>K (.p (.agg l)) st
  | .ptr b off=>match bnth st.box b with | some B=>!B.fz && bfits (off+size) B.cells && fAgg (btake (bdrop B.cells off) size) fun d=>K d st | none=>false
  | _=>false
 | .store size a x=>match bev ρ a with
  | .ptr b off=>match bnth st.box b with
   | some B=>!B.fz && Nat.beq (cellsD (bev ρ x)).length size && bfits (off+size) B.cells && (cellsD (bev ρ x)).all oneD &&
     bput B.cells off (cellsD (bev ρ x)) fun cells=>bset st.box b { B with cells:=cells } fun bs=>K (.p (.v undef)) { st with box:=bs }
   | none=>false
  | _=>false
 | .alloc e zero=>fNat st.box.length fun n=>fList zero fun zero=>fApp st.box [{ cells:=zero,e:=e,fz:=false }] fun bs=>K (.ptr n 0) { st with box:=bs }
 | .allocL e lay=>fNat st.box.length fun n=>fList (layD lay) fun zero=>fApp st.box [{ cells:=zero,e:=e,fz:=false }] fun bs=>K (.ptr n 0) { st with box:=bs }
 | .box e x=>(cellsD (bev ρ x)).all oneD && fNat st.box.length fun n=>fList (cellsD (bev ρ x)) fun cells=>fApp st.box [{ cells:=cells,e:=e,fz:=false }] fun bs=>K (.ptr n 0) { st with box:=bs }
 | .build zero parts=>fList zero fun zero=>bfill zero (parts.map fun q=>(q.1,q.2.1,bev ρ q.2.2)) fun cs=>fAgg cs fun d=>K d st
 | .bslice own e n _ zero parts=>fList (List.replicate n zero).flatten fun z=>bfill z (parts.map fun q=>(q.1,q.2.1,bev ρ q.2.2)) fun cs=>match allP cs with
  | some cs=>fList cs fun cs=>if own then fNat st.grp.length fun g=>fNat cs.length fun l=>fApp st.grp [(l,e)] fun gs=>K (.grp g n cs) { st with grp:=gs } else K (.p (.sl (some false) n cs)) st
  | none=>false
 | .append e size bytes s x=>match bsrc st size (bev ρ x) with
  | some (.sl _ m new)=>Nat.beq new.length (m*size) && (match bev ρ s with
   | .p (.sl (some true) _ _)=>Nat.ble (m*bytes) 140737488355328 && Nat.ble m maxLen &&
     (match m with
     | 0=>K (.p (.sl (some true) 0 [])) st
     | m+1=>fNat st.grp.length fun g=>fNat new.length fun l=>fApp st.grp [(l,e)] fun gs=>K (.grp g (m+1) new) { st with grp:=gs })
   | .grp g n cells=>(match bnth st.grp g with | some (l,e')=>Nat.beq l cells.length && decide (e'=e) | none=>false) && Nat.beq cells.length (n*size) && Nat.ble ((n+m)*bytes) 140737488355328 && Nat.ble (n+m) maxLen &&
     fApp cells new fun all=>fNat all.length fun l=>fNat (n+m) fun nm=>fList (st.grp.set g (l,e)) fun gs=>K (.grp g nm all) { st with grp:=gs }
   | .ms b off n=>(match bnth st.box b with
    | some B=>Nat.beq off 0 && !B.fz && B.ap && decide (B.e=e) && bfits (n*size) B.cells && Nat.ble ((n+m)*bytes) 140737488355328 && Nat.ble (n+m) maxLen &&
      (match m with
      | 0=>K (.ms b 0 n) st
      | m+1=>fApp (btake B.cells (n*size)) (new.map .p) fun cells=>fNat st.box.length fun nb=>fNat (n+(m+1)) fun nm=>bset st.box b { B with cells:=[],fz:=true } fun bs=>
        fApp bs [{ cells:=cells,e:=e,fz:=false,ap:=true }] fun bs=>K (.ms nb 0 nm) { st with box:=bs })
    | none=>false)
   | _=>false)
  | _=>false
 | .mslice e _ bytes zero l c=>match bev ρ l,bev ρ c with
  | .p (.v (.int _ n)),.p (.v (.int _ m))=>decide (0≤n) && decide (n≤m) && decide (m*bytes≤281474976710656) && decide (m≤maxLen) &&
    fNat st.box.length fun b=>fNat n.toNat fun n=>fList (List.replicate m.toNat zero).flatten fun z=>fApp st.box [{ cells:=z,e:=e,fz:=false,ap:=true }] fun bs=>K (.ms b 0 n) { st with box:=bs }
  | _,_=>false
 | .slice size x lo hi=>match bev ρ x with
  | .p (.sl nl n cells)=>match lo.map (bev ρ),hi.map (bev ρ) with
   | none,none=>K (.p (.sl nl n cells)) st
   | some (.p (.v (.int _ a))),none=>decide (0≤a) && decide (a≤n) && Nat.beq cells.length (n*size) && fNat (n - a.toNat) fun m=>fTail (bdrop cells (a.toNat*size)) fun l=>K (.p (.sl nl m l)) st
   | none,some (.p (.v (.int _ b)))=>decide (0≤b) && decide (b≤n) && Nat.beq cells.length (n*size) && fNat b.toNat fun m=>fList (btake cells (m*size)) fun l=>K (.p (.sl nl m l)) st
   | some (.p (.v (.int _ a))),some (.p (.v (.int _ b)))=>decide (0≤a) && decide (a≤b) && decide (b≤n) && Nat.beq cells.length (n*size) &&
     fNat (b.toNat - a.toNat) fun m=>fList (bdrop (btake cells (b.toNat*size)) (a.toNat*size)) fun l=>K (.p (.sl nl m l)) st
   | _,_=>false
  | .grp g n cells=>match lo.map (bev ρ),hi.map (bev ρ) with
   | none,none=>K (.grp g n cells) st
   | some (.p (.v (.int _ a))),none=>decide (0≤a) && decide (a≤n) && Nat.beq cells.length (n*size) && fNat (n - a.toNat) fun m=>fTail (bdrop cells (a.toNat*size)) fun l=>K (.p (.sl (some false) m l)) st
   | none,some (.p (.v (.int _ b)))=>decide (0≤b) && decide (b≤n) && Nat.beq cells.length (n*size) && fNat b.toNat fun m=>fList (btake cells (m*size)) fun l=>K (.p (.sl (some false) m l)) st
   | some (.p (.v (.int _ a))),some (.p (.v (.int _ b)))=>decide (0≤a) && decide (a≤b) && decide (b≤n) && Nat.beq cells.length (n*size) &&
     fNat (b.toNat - a.toNat) fun m=>fList (bdrop (btake cells (b.toNat*size)) (a.toNat*size)) fun l=>K (.p (.sl (some false) m l)) st
   | _,_=>false
  | .ms b off n=>match lo.map (bev ρ),hi.map (bev ρ) with
   | none,none=>K (.ms b off n) st
   | some (.p (.v (.int _ a))),none=>decide (0≤a) && decide (a<n) && Nat.blt 0 size && fNat (off+a.toNat*size) fun off=>fNat (n - a.toNat) fun n=>K (.ms b off n) st
   | none,some (.p (.v (.int _ k)))=>decide (0≤k) && decide (k≤n) && fNat k.toNat fun n=>K (.ms b off n) st
   | some (.p (.v (.int _ a))),some (.p (.v (.int _ k)))=>decide (0≤a) && decide (a<k) && decide (k≤n) && Nat.blt 0 size && fNat (off+a.toNat*size) fun off=>fNat (k.toNat - a.toNat) fun n=>K (.ms b off n) st
   | _,_=>false
  | _=>false
 | .extract x i=>match bev ρ x with
  | .p (.tup ps)=>match bnth ps i with | some p=>fD (.p p) fun d=>K d st | none=>false
  | .tup ds=>match bnth ds i with | some d=>fD d fun d=>K d st | none=>false
  | _=>false
 | .call f args=>fList (args.map (bev ρ)) fun ds=>C f ds st K
 | .callv x args=>match bev ρ x with
  | .fn (.func f) first captured=>fList (first ++ args.map (bev ρ) ++ captured) fun ds=>C f ds st K
  | _=>false
 | .fieldA off x=>match bev ρ x with
  | .ptr b o=>fNat (o+off) fun o=>K (.ptr b o) st
  | .el cells=>fTail (bdrop cells off) fun cells=>K (.el cells) st
  | _=>false
 | .field off size x=>match bev ρ x with
  | .p (.agg ps)=>(match size with
   | none=>(match bnth ps off with | some c=>fD (.p c) fun d=>K d st | none=>false)
   | some s=>bfits (off+s) ps && fList (btake (bdrop ps off) s) fun l=>K (.p (.agg l)) st)
  | .agg ds=>(match size with
   | none=>(match bnth ds off with | some c=>fD c fun d=>K d st | none=>false)
   | some s=>bfits (off+s) ds && fAgg (btake (bdrop ds off) s) fun d=>K d st)
  | _=>false
 | .index len size agg x i=>match bev ρ x,bev ρ i with
  | .p (.agg ps),.p (.v (.int _ k))=>decide (0≤k) && decide (k<len) && (bif agg then bfits (k.toNat*size+size) ps && fList (btake (bdrop ps (k.toNat*size)) size) fun l=>K (.p (.agg l)) st
    else match bnth ps (k.toNat*size) with | some c=>fD (.p c) fun d=>K d st | none=>false)
  | .agg ds,.p (.v (.int _ k))=>decide (0≤k) && decide (k<len) && !agg && (match bnth ds (k.toNat*size) with | some c=>fD c fun d=>K d st | none=>false)
  | _,_=>false
 | .nilck x=>match bev ρ x with | .ptr b o=>K (.ptr b o) st | .el cells=>K (.el cells) st | _=>false
 | .mkfn f first captured=>fList (first.map (bev ρ)) fun a=>fList (captured.map (bev ρ)) fun b=>K (.fn f a b) st
 | .minmax mx args=>match args.map (bev ρ) with
  | [.p (.v (.int k a)),.p (.v (.int k' b))]=>decide (k=k') && fInt (if mx then (if b>a then b else a) else (if b<a then b else a)) fun n=>K (.p (.v (.int k n))) st
  | _=>false
 | .mkifc t x=>fD (bev ρ x) fun d=>K (.ifc t d) st
 | .eqN neg x y=>match bev ρ x,bev ρ y with
  | .p (.sl (some nl) _ _),.p (.sl (some true) _ _)=>fBool (nl ^^ neg) fun b=>K (.p (.v (.bool b))) st
  | .grp _ _ _,.p (.sl (some true) _ _)=>K (.p (.v (.bool neg))) st
  | .ms _ _ _,.p (.sl (some true) _ _)=>K (.p (.v (.bool neg))) st
  | _,_=>false
 | .eqP neg x y=>match bev ρ x,bev ρ y with
  | .ptr _ _,.p (.v (.pointer none))=>K (.p (.v (.bool neg))) st
  | .el _,.p (.v (.pointer none))=>K (.p (.v (.bool neg))) st
  | .p (.v (.pointer none)),.p (.v (.pointer none))=>fBool (!neg) fun b=>K (.p (.v (.bool b))) st
  | _,_=>false
 | .bsliceM e n _ zero parts=>fList (List.replicate n zero).flatten fun z=>bfill z (parts.map fun q=>(q.1,q.2.1,bev ρ q.2.2)) fun cs=>
   fNat st.box.length fun b=>fApp st.box [{ cells:=cs,e:=e,fz:=false,ap:=true }] fun bs=>K (.ms b 0 n) { st with box:=bs }
 | .msliceP _ _ bytes zero l c=>match bev ρ l,bev ρ c,allP zero with
  | .p (.v (.int _ n)),.p (.v (.int _ m)),some zs=>decide (0≤n) && decide (n≤m) && decide (m*bytes≤281474976710656) && decide (m≤maxLen) &&
    fNat n.toNat fun n=>fList (List.replicate n zs).flatten fun l=>K (.p (.sl (some false) n l)) st
  | _,_,_=>false
 | .sliceA len size x=>match bev ρ x with
  | .ptr b off=>(match bnth st.box b with | some B=>!B.fz && !B.ap && K (.ms b off len) st | none=>false)
  | .el cells=>bfits (len*size) cells && fList (btake cells (len*size)) fun l=>K (.p (.sl (some false) len l)) st
  | _=>false
 | .copy size d s=>match bsrc st size (bev ρ s),bev ρ d with
  | some (.sl _ m cells),.ms b off n=>(match bnth st.box b with
   | some B=>!B.fz && Nat.beq cells.length (m*size) && bfits (off+min m n*size) B.cells &&
     fNat (min m n) fun k=>bput B.cells off ((btake cells (k*size)).map .p) fun cells=>bset st.box b { B with cells:=cells } fun bs=>K (.p (.v (.int .i64 (.ofNat k)))) { st with box:=bs }
   | none=>false)
  | _,_=>false
 | .tassert t ok x=>match bev ρ x with
  | .ifc u d=>Nat.beq u t && Bool.rec (K d st) (fTup [d,.p (.v (.bool true))] fun d=>K d st) ok
  | _=>false
 | .invk tbl x args=>match bev ρ x with
  | .ifc t d=>(match lookT tbl t with
   | some (f,false)=>fList (d :: args.map (bev ρ)) fun ds=>C f ds st K
   | some (f,true)=>(match d with
    | .ptr b off=>(match bnth st.box b with
     | some B=>!B.fz && (match bnth B.cells off with | some d'=>fD d' fun d'=>fList (d' :: args.map (bev ρ)) fun ds=>C f ds st K | none=>false)
     | none=>false)
    | _=>false)
   | none=>false)
  | _=>false
 | .mop m=>bM ρ st K m
noncomputable def CSound (CB:CallB) (C:CallW):Prop:=∀ f ds st (K:D→St→Bool),CB f ds st K=true→C f ds st fun d st=>K d st=true
theorem bOp_sound {CB:CallB} {C:CallW} (hC:CSound CB C) {ρ:Env} {st:St} {K:D→St→Bool} {op:AOp} (h:bOp CB ρ st K op=true):wpOp C ρ st (fun d st=>K d st=true) op:=by
 cases op <;> simp only[bOp,bev_eq,bevf_eq,fD_eq,fInt_eq,fBool_eq,fNat_eq,fList_eq,fTail_eq,fApp_eq,fAgg_eq,fTup_eq,bset_eq,bnth_eq,bfits_eq,bdrop_eq,btake_eq]at h <;> simp only[wpOp]
 case mop m=>exact bM_sound h
 case mv=>exact h
 case pick=>
  split at h
  ·rename_i t ht
   try simp only[ht]
   cases t
   ·exact ⟨fun h=>(Bool.false_ne_true h).elim,fun _=>h⟩
   ·exact ⟨fun _=>h,fun h=>(Bool.false_ne_true h.symm).elim⟩
  ·exact (Bool.false_ne_true h).elim
 case bin=>
  split at h
  ·rename_i h1 h2;simp only[h1,h2];exact bBin_sound h
  ·exact (Bool.false_ne_true h).elim
 case eqA=>
  split at h
  ·rename_i h1 h2
   simp only[h1,h2]
   split at h
   ·rename_i h3;exact ⟨_,h3,h⟩
   ·exact (Bool.false_ne_true h).elim
  ·exact (Bool.false_ne_true h).elim
 case idx=>split at h <;> simp only[Bool.and_eq_true,decide_eq_true_eq,and_assoc,reduceCtorEq]at h <;> simp_all only[and_true]
 case store=>
  split at h
  ·rename_i b off h1
   simp only[h1]
   split at h
   ·rename_i B hB
    simp only[hB]
    simp only[Bool.and_eq_true,Nat.beq_eq,Nat.ble_eq,Bool.not_eq_true']at h
    obtain ⟨⟨⟨⟨q1,q2⟩,q3⟩,q4⟩,q5⟩:=h
    rw[bput_eq _ _ _ _ (by omega)]at q5
    exact ⟨q1,q2,q3,q4,q5⟩
   ·exact (Bool.false_ne_true h).elim
  ·exact (Bool.false_ne_true h).elim
 case build=>
  obtain ⟨cs,h1,h2⟩:=bfill_sound _ _ _ h
  simp only[h1];exact h2
 case bslice own e n size zero parts=>
  obtain ⟨cs,h1,h2⟩:=bfill_sound _ _ _ h
  simp only[h1,Option.bind_some]
  split at h2
  ·rename_i ps hp
   simp only[hp]
   split at h2 <;> simp_all only[if_true,if_false,Bool.false_eq_true]
  ·exact (Bool.false_ne_true h2).elim
 case append e size bytes s x=>
  simp only[bsrc_eq]at h
  split at h
  ·rename_i nl m new h1
   simp only[h1]
   simp only[Bool.and_eq_true,Nat.beq_eq]at h
   refine ⟨h.1,?_⟩
   replace h:=h.2
   split at h
   ·rename_i h2
    simp only[h2]
    simp only[Bool.and_eq_true,Nat.ble_eq]at h
    refine ⟨h.1.1,h.1.2,?_⟩
    replace h:=h.2
    split at h
    ·left;rw[if_pos rfl];exact h
    ·left;rw[if_neg (Nat.succ_ne_zero _)];exact h
   ·rename_i g n cells h2
    simp only[h2]
    simp only[Bool.and_eq_true,Nat.beq_eq,Nat.ble_eq]at h
    obtain ⟨⟨⟨⟨q1,q2⟩,q3⟩,q4⟩,q5⟩:=h
    refine ⟨?_,q2,q3,q4,q5⟩
    split at q1
    ·rename_i l e' h3
     simp only[Bool.and_eq_true,Nat.beq_eq,decide_eq_true_eq]at q1
     rw[h3,q1.1,q1.2]
    ·exact (Bool.false_ne_true q1).elim
   ·rename_i b off n h2
    simp only[h2]
    split at h
    ·rename_i B hB
     simp only[hB]
     simp only[Bool.and_eq_true,Nat.beq_eq,Nat.ble_eq,Bool.not_eq_true',decide_eq_true_eq]at h
     obtain ⟨⟨⟨⟨⟨⟨⟨q1,q2⟩,q3⟩,q4⟩,q5⟩,q6⟩,q7⟩,q8⟩:=h
     refine ⟨q1,q2,q3,q4,q5,q6,q7,?_⟩
     split at q8
     ·left;rw[if_pos rfl];exact q8
     ·left;rw[if_neg (Nat.succ_ne_zero _)];exact q8
    ·exact (Bool.false_ne_true h).elim
   ·exact (Bool.false_ne_true h).elim
  ·exact (Bool.false_ne_true h).elim
 case minmax mx args=>
  split at h
  ·rename_i h1
   simp only[h1]
   simp only[Bool.and_eq_true,decide_eq_true_eq]at h
   exact h
  ·exact (Bool.false_ne_true h).elim
 case call=>exact hC _ _ _ _ h
 case bsliceM=>
  obtain ⟨cs,h1,h2⟩:=bfill_sound _ _ _ h
  simp only[h1];exact h2
 case copy=>
  simp only[bsrc_eq]at h
  split at h
  ·rename_i nl m cells b off n h1 h2
   simp only[h1,h2]
   split at h
   ·rename_i B hB
    simp only[hB]
    simp only[Bool.and_eq_true,Nat.beq_eq,Nat.ble_eq,Bool.not_eq_true']at h
    obtain ⟨⟨⟨q1,q2⟩,q3⟩,q4⟩:=h
    rw[bput_eq _ _ _ _ (by omega)]at q4
    exact ⟨q1,q2,q3,q4⟩
   ·exact (Bool.false_ne_true h).elim
  ·exact (Bool.false_ne_true h).elim
 case tassert t ok x=>
  split at h
  ·rename_i u d h1
   simp only[h1]
   simp only[Bool.and_eq_true,Nat.beq_eq]at h
   refine ⟨h.1,?_⟩
   replace h:=h.2
   cases ok
   ·exact h
   ·exact h
  ·exact (Bool.false_ne_true h).elim
 case invk tbl x args=>
  split at h
  ·rename_i t d h1
   simp only[h1]
   split at h
   ·rename_i f h2
    simp only[h2];exact hC _ _ _ _ h
   ·rename_i f h2
    simp only[h2]
    split at h
    ·split at h
     ·rename_i B hB
      simp only[hB]
      simp only[Bool.and_eq_true,Bool.not_eq_true']at h
      refine ⟨h.1,?_⟩
      replace h:=h.2
      split at h
      ·rename_i d' hd
       exact ⟨d',hd,hC _ _ _ _ h⟩
      ·exact (Bool.false_ne_true h).elim
     ·exact (Bool.false_ne_true h).elim
    ·exact (Bool.false_ne_true h).elim
   ·exact (Bool.false_ne_true h).elim
  ·exact (Bool.false_ne_true h).elim
 case callv=>
  split at h
  ·rename_i h1;try simp only[h1];exact hC _ _ _ _ h
  ·exact (Bool.false_ne_true h).elim
 all_goals (repeat' split at h) <;> (try simp only[Bool.and_eq_true,decide_eq_true_eq,Nat.beq_eq,Nat.ble_eq,Nat.blt_eq,Bool.not_eq_true',and_assoc,reduceCtorEq]at h) <;> first | exact h | (simp_all only[true_and,and_true];done) | (simp_all;done) | skip
end Go.Ab
namespace Go.Ab
open Go.RowKit
noncomputable def bSet (dst:Option Nat) (d:D) (ρ:Env) (f:Env→Bool):Bool:=match dst with | some t=>f ((t,d) :: ρ) | none=>f ρ
theorem bSet_eq (dst:Option Nat) (d:D) (ρ:Env) (f:Env→Bool):bSet dst d ρ f=f (setD dst d ρ):=by cases dst <;> rfl
noncomputable def bR (C:CallB) (K:Env→St→Bool) (l:List AO):Env→St→Bool:=
 List.rec (motive:=fun _=>Env→St→Bool) K (fun a _ ih ρ st=>match a.gd with
  | none=>bOp C ρ st (fun d st'=>bSet a.dst d ρ fun ρ=>ih ρ st') a.op
  | some (t,want)=>match bget ρ t with
   | .p (.v (.bool b))=>bif b == want then bOp C ((t,boolD want) :: ρ) st (fun d st'=>bSet a.dst d ((t,boolD want) :: ρ) fun ρ=>ih ρ st') a.op
     else fBool (!want) fun nw=>bSet a.dst undefD ((t,boolD nw) :: ρ) fun ρ=>ih ρ st
   | .p (.v (.tuple _))=>bSet a.dst undefD ρ fun ρ=>ih ρ st
   | _=>false) l
noncomputable def bTouch (pl:List Nat) (ρ:Env) (op:AOp):Bool:=match touchB ρ op with | some i=>!(pl.any fun j=>Nat.beq i j) | none=>true
noncomputable def bPlF (is:List (Nat×Nat)) (pl:List Nat) (f:List Nat→Bool):Bool:=match is with | (_,1) :: _=>f [] | _=>f pl
theorem bPlF_eq (is:List (Nat×Nat)) (pl:List Nat) (f:List Nat→Bool):bPlF is pl f=f (plF is pl):=by
 unfold bPlF
 split
 ·rfl
 ·rename_i h
  unfold plF
  split
  ·exact absurd rfl (h _ _)
  ·rfl
noncomputable def bDr (C:CallB) (K:Env→St→Bool) (l:List AO):List Nat→List (Nat×Nat)→Env→St→Bool:=
 List.rec (motive:=fun _=>List Nat→List (Nat×Nat)→Env→St→Bool) (fun _ _=>K) (fun a _ ih pl is ρ st=>bPlF is pl fun pl=>match a.gd with
  | none=>bTouch pl ρ a.op && bOp C ρ st (fun d st'=>fApp (readsB ρ a.op).toList pl fun pl=>bSet a.dst d ρ fun ρ=>ih pl is.tail ρ st') a.op
  | some (t,want)=>match bget ρ t with
   | .p (.v (.bool b))=>bif b == want then bTouch pl ((t,boolD want) :: ρ) a.op && bOp C ((t,boolD want) :: ρ) st (fun d st'=>fApp (readsB ((t,boolD want) :: ρ) a.op).toList pl fun pl=>bSet a.dst d ((t,boolD want) :: ρ) fun ρ=>ih pl is.tail ρ st') a.op
     else fBool (!want) fun nw=>bSet a.dst undefD ((t,boolD nw) :: ρ) fun ρ=>ih pl is.tail ρ st
   | .p (.v (.tuple _))=>bSet a.dst undefD ρ fun ρ=>ih pl is.tail ρ st
   | _=>false) l
noncomputable def bDrs (C C':CallB) (K:Env→St→Bool) (l:List Seg):Env→St→Bool:=
 List.rec (motive:=fun _=>Env→St→Bool) K (fun s _ ih=>Bool.rec (bDr C' ih s.2.2 [] s.2.1) (bR C ih s.2.2) s.1) l
noncomputable def bThn (K:Env→St→Bool) (Q:Ax→Env→St→Bool) (x:Ax):Env→St→Bool:=match x with | .n=>K | .x i=>Q (.x i) | .r=>Q .r | .jmp j=>Q (.jmp j)
noncomputable def bBlk (id:Nat) (Q:Ax→Env→St→Bool) (x:Ax):Env→St→Bool:=match x with | .n=>Q .n | .x i=>bif Nat.beq i id then Q .n else Q (.x i) | .r=>Q .r | .jmp j=>Q (.jmp j)
noncomputable def bLoop (body:(Ax→Env→St→Bool)→Env→St→Bool) (keep:List Nat) (Q:Ax→Env→St→Bool) (k:Nat):Env→St→Bool:=
 Nat.rec (motive:=fun _=>Env→St→Bool) (fun _ _=>false) (fun _ ih ρ st=>body (bThn (fun ρ' st'=>bkeep ρ' keep fun ρ'=>ih ρ' st') Q) ρ st) k
noncomputable def bA (C C':CallB) (fuel:Nat) (ac:AC):(Ax→Env→St→Bool)→Env→St→Bool:=
 AC.rec (motive:=fun _=>(Ax→Env→St→Bool)→Env→St→Bool)
  (fun l Q ρ st=>bR C (Q .n) l ρ st)
  (fun l Q ρ st=>bDrs C C' (Q .n) l ρ st)
  (fun _ _ iha ihb Q ρ st=>iha (bThn (ihb Q) Q) ρ st)
  (fun c _ _ iha ihb Q ρ st=>match bev ρ c with | .p (.v (.bool t))=>Bool.rec (ihb Q ρ st) (iha Q ρ st) t | _=>false)
  (fun id _ ih Q ρ st=>ih (bBlk id Q) ρ st)
  (fun _ keep _ ih Q ρ st=>bkeep ρ keep fun ρ=>bLoop ih keep Q fuel ρ st)
  (fun id Q ρ st=>Q (.x id) ρ st)
  (fun Q ρ st=>Q .r ρ st)
  (fun Q ρ st=>Q .n ρ st)
  (fun _ _ _=>false)
  (fun _ _ _ _ _ _ _ _ _ _ _ _ _=>false)
  (fun _ _ _ _ _ _ _ _ _ _=>false) ac
section
variable {CB CB':CallB} {C C':CallW}
theorem bR_sound (hC:CSound CB C) (hm:CMono C) {K:Env→St→Bool}:∀ (l:List AO) (ρ:Env) (st:St),bR CB K l ρ st=true→wpR C (fun ρ st=>K ρ st=true) l ρ st
 | [],_,_,h=>h
 | ⟨none,dst,op⟩ :: r,ρ,st,h=>by
  have h:bOp CB ρ st (fun d st'=>bSet dst d ρ fun ρ=>bR CB K r ρ st') op=true:=h
  simp only[bSet_eq]at h
  exact wpOp_mono hm (fun d st' h=>bR_sound hC hm r _ _ h) (bOp_sound hC h)
 | ⟨some (t,want),dst,op⟩ :: r,ρ,st,h=>by
  have h:(match bget ρ t with
   | .p (.v (.bool b))=>bif b == want then bOp CB ((t,boolD want) :: ρ) st (fun d st'=>bSet dst d ((t,boolD want) :: ρ) fun ρ=>bR CB K r ρ st') op
     else fBool (!want) fun nw=>bSet dst undefD ((t,boolD nw) :: ρ) fun ρ=>bR CB K r ρ st
   | .p (.v (.tuple _))=>bSet dst undefD ρ fun ρ=>bR CB K r ρ st
   | _=>false)=true:=h
  simp only[bSet_eq,fBool_eq,bget_eq]at h
  simp only[wpR]
  split at h
  ·rename_i b hb
   simp only[hb]
   cases hw:b == want
   ·rw[hw]at h
    have e:b = !want:=by cases b <;> cases want <;> simp_all
    exact ⟨fun h'=>by rw[h']at hw;simp at hw,fun _=>bR_sound hC hm r _ _ h⟩
   ·rw[hw]at h
    have e:b=want:=by simpa using hw
    exact ⟨fun _=>wpOp_mono hm (fun d st' h=>bR_sound hC hm r _ _ h) (bOp_sound hC h),fun h'=>by rw[e]at h';cases want <;> simp at h'⟩
  ·rename_i x hb;simp only[hb];exact bR_sound hC hm r _ _ h
  ·exact (Bool.false_ne_true h).elim
theorem bTouch_sound {pl:List Nat} {ρ:Env} {op:AOp} (h:bTouch pl ρ op=true):∀ i,touchB ρ op=some i→i∉pl:=by
 intro i hi hm
 unfold bTouch at h
 rw[hi]at h
 simp only[Bool.not_eq_true',List.any_eq_false,Nat.beq_eq]at h
 exact h i hm rfl
theorem bDr_sound (hC:CSound CB C) (hm:CMono C) {K:Env→St→Bool}:∀ (l:List AO) (pl:List Nat) (is:List (Nat×Nat)) (ρ:Env) (st:St),bDr CB K l pl is ρ st=true→wpD (fun _=>C) (fun ρ st=>K ρ st=true) pl is l ρ st
 | [],_,_,_,_,h=>h
 | ⟨none,dst,op⟩ :: r,pl,is,ρ,st,h=>by
  have h:(bPlF is pl fun pl=>(bTouch pl ρ op && bOp CB ρ st (fun d st'=>fApp (readsB ρ op).toList pl fun pl=>bSet dst d ρ fun ρ=>bDr CB K r pl is.tail ρ st') op))=true:=h
  simp only[bPlF_eq,bSet_eq,fApp_eq,Bool.and_eq_true]at h
  exact ⟨bTouch_sound h.1,wpOp_mono hm (fun d st' h=>bDr_sound hC hm r _ _ _ _ h) (bOp_sound hC h.2)⟩
 | ⟨some (t,want),dst,op⟩ :: r,pl,is,ρ,st,h=>by
  have h:(bPlF is pl fun pl=>(match bget ρ t with
   | .p (.v (.bool b))=>bif b == want then bTouch pl ((t,boolD want) :: ρ) op && bOp CB ((t,boolD want) :: ρ) st (fun d st'=>fApp (readsB ((t,boolD want) :: ρ) op).toList pl fun pl=>bSet dst d ((t,boolD want) :: ρ) fun ρ=>bDr CB K r pl is.tail ρ st') op
     else fBool (!want) fun nw=>bSet dst undefD ((t,boolD nw) :: ρ) fun ρ=>bDr CB K r pl is.tail ρ st
   | .p (.v (.tuple _))=>bSet dst undefD ρ fun ρ=>bDr CB K r pl is.tail ρ st
   | _=>false))=true:=h
  simp only[bPlF_eq,bSet_eq,fBool_eq,bget_eq,fApp_eq]at h
  simp only[wpD]
  split at h
  ·rename_i b hb
   simp only[hb]
   cases hw:b == want
   ·rw[hw]at h
    have e:b = !want:=by cases b <;> cases want <;> simp_all
    exact ⟨fun h'=>by rw[h']at hw;simp at hw,fun _=>bDr_sound hC hm r _ _ _ _ h⟩
   ·rw[hw]at h
    have e:b=want:=by simpa using hw
    simp only[cond_true,Bool.and_eq_true]at h
    exact ⟨fun _=>⟨bTouch_sound h.1,wpOp_mono hm (fun d st' h=>bDr_sound hC hm r _ _ _ _ h) (bOp_sound hC h.2)⟩,fun h'=>by rw[e]at h';cases want <;> simp at h'⟩
  ·rename_i x hb;simp only[hb];exact bDr_sound hC hm r _ _ _ _ h
  ·exact (Bool.false_ne_true h).elim
theorem bDrs_sound (hC:CSound CB C) (hm:CMono C) (hC':CSound CB' C') (hm':CMono C') {K:Env→St→Bool}:∀ (l:List Seg) (ρ:Env) (st:St),bDrs CB CB' K l ρ st=true→wpDs C (fun _=>C') (fun ρ st=>K ρ st=true) l ρ st
 | [],_,_,h=>h
 | (true,is,l) :: r,ρ,st,h=>wpR_mono hm (fun ρ st h=>bDrs_sound hC hm hC' hm' r ρ st h) _ _ _ (bR_sound hC hm (K:=bDrs CB CB' K r) l ρ st h)
 | (false,is,l) :: r,ρ,st,h=>wpD_mono (fun _=>hm') (fun ρ st h=>bDrs_sound hC hm hC' hm' r ρ st h) _ _ _ _ _ (bDr_sound hC' hm' (K:=bDrs CB CB' K r) l [] is ρ st h)
theorem bThn_sound {K:Env→St→Bool} {Q:Ax→Env→St→Bool} {W:Env→St→Prop} {V:Ax→Env→St→Prop} (hK:∀ ρ st,K ρ st=true→W ρ st) (hQ:∀ x ρ st,Q x ρ st=true→V x ρ st) :
  ∀ x ρ st,bThn K Q x ρ st=true→Ax.thn W V x ρ st:=by
 intro x ρ st h
 cases x <;> simp only[bThn,Ax.thn]at h ⊢
 ·exact hK _ _ h
 ·exact hQ _ _ _ h
 ·exact hQ _ _ _ h
 ·exact hQ _ _ _ h
theorem bA_sound (hC:CSound CB C) (hm:CMono C) (hC':CSound CB' C') (hm':CMono C') (fuel:Nat):∀ (ac:AC) (Q:Ax→Env→St→Bool) (V:Ax→Env→St→Prop) (ρ:Env) (st:St),(∀ x ρ st,Q x ρ st=true→V x ρ st) →
  bA CB CB' fuel ac Q ρ st=true→wpA C (fun _=>C') ac noH V ρ st:=by
 intro ac
 induction ac with
 | rg l=>exact fun Q V ρ st hQ h=>wpR_mono hm (fun ρ st h=>hQ _ _ _ h) _ _ _ (bR_sound hC hm l ρ st h)
 | dr l=>exact fun Q V ρ st hQ h=>wpDs_mono hm (fun _=>hm') (fun ρ st h=>hQ _ _ _ h) _ _ _ (bDrs_sound hC hm hC' hm' l ρ st h)
 | seq a b iha ihb=>exact fun Q V ρ st hQ h=>iha _ _ ρ st (bThn_sound (fun ρ st h=>ihb _ _ ρ st hQ h) hQ) h
 | cond c a b iha ihb=>
  intro Q V ρ st hQ h
  have h:(match bev ρ c with | .p (.v (.bool t))=>Bool.rec (motive:=fun _=>Bool) (bA CB CB' fuel b Q ρ st) (bA CB CB' fuel a Q ρ st) t | _=>false)=true:=h
  simp only[bev_eq]at h
  simp only[wpA]
  split at h
  ·rename_i t ht
   try simp only[ht]
   cases t
   ·exact ⟨fun h=>(Bool.false_ne_true h).elim,fun _=>ihb _ _ ρ st hQ h⟩
   ·exact ⟨fun _=>iha _ _ ρ st hQ h,fun h=>(Bool.false_ne_true h.symm).elim⟩
  ·exact (Bool.false_ne_true h).elim
 | blk id a ih=>
  refine fun Q V ρ st hQ h=>ih _ _ ρ st (fun x ρ st h=>?_) h
  cases x <;> simp only[bBlk,Ax.blk]at h ⊢
  ·exact hQ _ _ _ h
  ·rename_i i
   by_cases hi:i=id
   ·subst hi;simp only[Nat.beq_refl,cond_true]at h;simp only[if_true];exact hQ _ _ _ h
   ·rw[nbeq_false hi]at h;simp only[if_neg hi];exact hQ _ _ _ h
  ·exact hQ _ _ _ h
  ·exact hQ _ _ _ h
 | loop q keep a ih=>
  intro Q V ρ st hQ h
  have h:(bkeep ρ keep fun ρ=>bLoop (bA CB CB' fuel a) keep Q fuel ρ st)=true:=h
  rw[bkeep_eq]at h
  refine ⟨fuel,?_⟩
  have key:∀ k ρ st,bLoop (bA CB CB' fuel a) keep Q k ρ st=true→LoopN (wpA C (fun _=>C') a noH) q keep V k ρ st:=by
   intro k
   induction k with
   | zero=>intro ρ st h;exact (Bool.false_ne_true h).elim
   | succ k ihk=>
    intro ρ st h
    have h:bA CB CB' fuel a (bThn (fun ρ' st'=>bkeep ρ' keep fun ρ'=>bLoop (bA CB CB' fuel a) keep Q k ρ' st') Q) ρ st=true:=h
    exact ⟨ρ,st,.refl _ _ _,ih _ _ ρ st (bThn_sound (fun ρ st h=>by rw[bkeep_eq]at h;exact ihk _ _ h) hQ) h⟩
  exact key _ _ _ h
 | exit id=>exact fun Q V ρ st hQ h=>hQ _ _ _ h
 | ret=>exact fun Q V ρ st hQ h=>hQ _ _ _ h
 | skip=>exact fun Q V ρ st hQ h=>hQ _ _ _ h
 | dead=>exact fun Q V ρ st hQ h=>(Bool.false_ne_true h).elim
 | rf=>exact fun Q V ρ st hQ h=>(Bool.false_ne_true h).elim
 | iy=>exact fun Q V ρ st hQ h=>(Bool.false_ne_true h).elim
theorem bA_soundP {P:Program} (hC:CSound CB C) (hm:CMono C) (hC':CSound CB' (CP P)) (fuel:Nat) (ac:AC) (Q:Ax→Env→St→Bool) (V:Ax→Env→St→Prop) (ρ:Env) (st:St) (hQ:∀ x ρ st,Q x ρ st=true→V x ρ st)
  (h:bA CB CB' fuel ac Q ρ st=true):wpA C (CPo P) ac noH V ρ st:=
 wpA_call (C':=fun _=>CP P) (fun _ _ _ _ h=>h) hm (fun o f ds st K h=>CPo.of h) CPo.cmono ac noH noH (fun _ _ _ _ _ h=>h) .no _ _ (fun _ _ _ h=>h) _ _ (bA_sound hC hm hC' CP.cmono fuel ac Q V ρ st hQ h)
end
end Go.Ab
namespace Go.Ab
open Go.RowKit
def CLin (CB:CallB):Prop:=∀ f ds st (K:D→St→Bool),CB f ds st K=true→∃ d st',K d st'=true∧∀ K':D→St→Bool,K' d st'=true→CB f ds st K'=true
theorem bBin_lin {op:BinOp} {x y:Value} {K:Value→Bool} (h:bBin op x y K=true):∃ v,K v=true∧∀ K':Value→Bool,K' v=true→bBin op x y K'=true:=by
 unfold bBin at h ⊢
 split at h
 ·split at h <;> simp only[Bool.and_eq_true,fInt_eq,fBool_eq]at h ⊢ <;> exact ⟨_,h.2,fun K' hk=>⟨h.1,hk⟩⟩
 ·cases h
theorem bfill_lin:∀ (l:List (Nat×Nat×D)) (cells:List D) (f:List D→Bool),bfill cells l f=true→∃ cs,f cs=true∧∀ f':List D→Bool,f' cs=true→bfill cells l f'=true
 | [],cells,f,h=>⟨cells,h,fun f' h=>h⟩
 | (o,s,d) :: l,cells,f,h=>by
  have h:(Nat.beq (cellsD d).length s && bfits (o+s) cells && (cellsD d).all oneD && bput cells o (cellsD d) fun cells=>bfill cells l f)=true:=h
  simp only[bfits_eq,Bool.and_eq_true,Nat.beq_eq,Nat.ble_eq]at h
  obtain ⟨⟨⟨h1,h2⟩,h3⟩,h4⟩:=h
  rw[bput_eq _ _ _ _ (by omega)]at h4
  obtain ⟨cs,q1,q2⟩:=bfill_lin l _ f h4
  refine ⟨cs,q1,fun f' hf=>?_⟩
  show (Nat.beq (cellsD d).length s && bfits (o+s) cells && (cellsD d).all oneD && bput cells o (cellsD d) fun cells=>bfill cells l f')=true
  simp only[bfits_eq,Bool.and_eq_true,Nat.beq_eq,Nat.ble_eq]
  refine ⟨⟨⟨h1,h2⟩,h3⟩,?_⟩
  rw[bput_eq _ _ _ _ (by omega)]
  exact q2 f' hf
theorem bMapBox_lin {st:St} {kk vv:Nat} {d:D} {F:(D→St→Bool)→Nat→Box→Bool} {K:D→St→Bool} (h:bMapBox st kk vv d (F K)=true)
  (hF:∀ i B,F K i B=true→∃ d st',K d st'=true∧∀ K':D→St→Bool,K' d st'=true→F K' i B=true):∃ d' st',K d' st'=true∧∀ K':D→St→Bool,K' d' st'=true→bMapBox st kk vv d (F K')=true:=by
 unfold bMapBox at h ⊢
 split at h
 ·split at h
  ·rename_i B hB
   simp only[Bool.and_eq_true]at h
   obtain ⟨d',st',h1,h2⟩:=hF _ _ h.2
   refine ⟨d',st',h1,fun K' hk=>?_⟩
   simp only[hB,Bool.and_eq_true]
   exact ⟨h.1,h2 K' hk⟩
  ·cases h
 ·cases h
theorem bM_lin {ρ:Env} {st:St} {K:D→St→Bool} {m:MOp} (h:bM ρ st K m=true):∃ d st',K d st'=true∧∀ K':D→St→Bool,K' d st'=true→bM ρ st K' m=true:=by
 cases m <;> simp only[bM,fNat_eq,fList_eq,fApp_eq,bset_eq,bLk_eq,fD_eq]at h ⊢
 case mk kk vv=>
  simp only[Bool.and_eq_true]at h ⊢
  exact ⟨_,_,h.2,fun K' hk=>⟨h.1,hk⟩⟩
 case frz=>exact (Bool.false_ne_true h).elim
 case ldF=>exact (Bool.false_ne_true h).elim
 case lit0=>exact (Bool.false_ne_true h).elim
 case apn=>exact (Bool.false_ne_true h).elim
 case capN=>exact (Bool.false_ne_true h).elim
 case apz=>exact (Bool.false_ne_true h).elim
 case apf=>exact (Bool.false_ne_true h).elim
 case look ok V zero x y=>
  split at h
  ·split at h
   ·exact ⟨_,_,h,fun K' hk=>hk⟩
   ·refine bMapBox_lin (F:=fun K _ B=>match findD (kw V+1) _ ((B.cells.length - 1) / (kw V+2)) (B.cells.drop 1) 0 with
     | some (some (_,r))=>Nat.ble (kw V) r.length && K _ st
     | some none=>K _ st
     | none=>false) h fun _ B h=>?_
    split at h
    ·simp only[Bool.and_eq_true]at h ⊢;exact ⟨_,_,h.2,fun K' hk=>⟨h.1,hk⟩⟩
    ·exact ⟨_,_,h,fun K' hk=>hk⟩
    ·cases h
  ·cases h
 case upd V x y z=>
  split at h
  ·refine bMapBox_lin (F:=fun K b B=>valOK V (bev ρ z) && Nat.beq (cellsD (bev ρ z)).length (kw V) && (cellsD (bev ρ z)).all oneD && Nat.beq B.cells.length (1+(B.cells.length - 1) / (kw V+2)*(kw V+2)) &&
    (match findD (kw V+1) _ ((B.cells.length - 1) / (kw V+2)) (B.cells.drop 1) 0 with
    | some (some (i,_))=>K _ _
    | some none=>(match natD (B.cells.headD .bad) with
     | some c=>K _ _
     | none=>false)
    | none=>false)) h fun _ B h=>?_
   simp only[Bool.and_eq_true]at h ⊢
   obtain ⟨h0,h⟩:=h
   split at h
   ·exact ⟨_,_,h,fun K' hk=>⟨h0,hk⟩⟩
   ·split at h
    ·exact ⟨_,_,h,fun K' hk=>⟨h0,hk⟩⟩
    ·cases h
   ·cases h
  ·cases h
 case del V x y=>
  split at h
  ·refine bMapBox_lin (F:=fun K b B=>Nat.beq B.cells.length (1+(B.cells.length - 1) / (kw V+2)*(kw V+2)) &&
    (match findD (kw V+1) _ ((B.cells.length - 1) / (kw V+2)) (B.cells.drop 1) 0 with
    | some (some (i,_))=>K _ _
    | some none=>K _ _
    | none=>false)) h fun _ B h=>?_
   simp only[Bool.and_eq_true]at h ⊢
   obtain ⟨h0,h⟩:=h
   split at h
   ·exact ⟨_,_,h,fun K' hk=>⟨h0,hk⟩⟩
   ·exact ⟨_,_,h,fun K' hk=>⟨h0,hk⟩⟩
   ·cases h
  ·cases h
 case len kk vv x=>
  split at h
  ·exact ⟨_,_,h,fun K' hk=>hk⟩
  ·exact bMapBox_lin (F:=fun K _ B=>K (intD ((B.cells.length - 1) / (kw kk+kw vv+1))) st) h fun _ B h=>⟨_,_,h,fun K' hk=>hk⟩
 case rng kk vv x=>
  split at h
  ·exact ⟨_,_,h,fun K' hk=>hk⟩
  ·refine bMapBox_lin (F:=fun K _ B=>match natD (B.cells.headD .bad) with
    | some c=>K _ _
    | none=>false) h fun _ B h=>?_
   split at h
   ·exact ⟨_,_,h,fun K' hk=>hk⟩
   ·cases h
 case eqN neg x y=>
  split at h
  ·exact ⟨_,_,h,fun K' hk=>hk⟩
  ·exact ⟨_,_,h,fun K' hk=>hk⟩
  ·cases h
 case ent kk vv x=>
  split at h
  ·split at h
   ·simp only[Bool.and_eq_true]at h ⊢
    obtain ⟨h0,h⟩:=h
    split at h
    ·rename_i d s l seen _
     obtain ⟨d',st',h1,h2⟩:=bMapBox_lin (F:=fun K _ B=>(match natD (B.cells.headD .bad),entsD (kw kk+kw vv) ((B.cells.length - 1) / (kw kk+kw vv+1)) (B.cells.drop 1),natD l,natsD seen with
      | some c,some es,some l,some sn=>Nat.beq c l && (match sn.getLast? with
       | some b=>(match es.find? fun q=>q.2 == b with
        | some q=>K (mkTup [valD kk q.1,valD vv (q.1.drop (kw kk))]) st
        | none=>false)
       | none=>false)
      | _,_,_,_=>false)) h fun _ B h=>by
       split at h
       ·simp only[Bool.and_eq_true]at h ⊢
        obtain ⟨h0,h⟩:=h
        split at h
        ·split at h
         ·exact ⟨_,_,h,fun K' hk=>⟨h0,hk⟩⟩
         ·cases h
        ·cases h
       ·cases h
     exact ⟨d',st',h1,fun K' hk=>⟨h0,h2 K' hk⟩⟩
    ·cases h
   ·cases h
  ·cases h
 case nxt kk vv x=>
  split at h
  ·rename_i i _
   split at h
   ·rename_i I _
    simp only[Bool.and_eq_true]at h ⊢
    obtain ⟨h0,h⟩:=h
    split at h
    ·exact ⟨_,_,h,fun K' hk=>⟨h0,hk⟩⟩
    ·rename_i d s l seen _ _
     obtain ⟨d',st',h1,h2⟩:=bMapBox_lin (F:=fun K _ B=>(match natD (B.cells.headD .bad),entsD (kw kk+kw vv) ((B.cells.length - 1) / (kw kk+kw vv+1)) (B.cells.drop 1),natD s,natD l,natsD seen with
      | some c,some es,some s,some l,some sn=>Nat.beq c l && Nat.ble s c && (es.all fun q=>Nat.blt q.2 s) &&
        (match es.filter fun q=>!sn.contains q.2 with
        | []=>K (mkTup [.p (.v (.bool false))]) st
        | [q]=>K (mkTup [.p (.v (.bool true)),valD kk q.1,valD vv (q.1.drop (kw kk))]) { st with box:=st.box.set i { I with cells:=I.cells ++ [intD q.2] } }
        | _=>false)
      | _,_,_,_,_=>false)) h fun _ B h=>by
       split at h
       ·simp only[Bool.and_eq_true]at h ⊢
        obtain ⟨h0,h⟩:=h
        split at h
        ·exact ⟨_,_,h,fun K' hk=>⟨h0,hk⟩⟩
        ·exact ⟨_,_,h,fun K' hk=>⟨h0,hk⟩⟩
        ·cases h
       ·cases h
     exact ⟨d',st',h1,fun K' hk=>⟨h0,h2 K' hk⟩⟩
    ·cases h
   ·cases h
  ·cases h
theorem bOp_lin {CB:CallB} (hC:CLin CB) {ρ:Env} {st:St} {K:D→St→Bool} {op:AOp} (h:bOp CB ρ st K op=true) :
  ∃ d st',K d st'=true∧∀ K':D→St→Bool,K' d st'=true→bOp CB ρ st K' op=true:=by
 cases op <;> simp only[bOp,bev_eq,bevf_eq,fD_eq,fInt_eq,fBool_eq,fNat_eq,fList_eq,fTail_eq,fApp_eq,fAgg_eq,fTup_eq,bset_eq,bnth_eq,bfits_eq,bdrop_eq,btake_eq]at h ⊢
 case call=>exact hC _ _ _ _ h
 case callv=>
  split at h
  ·exact hC _ _ _ _ h
  ·cases h
 case bin=>
  split at h
  ·obtain ⟨v,h1,h2⟩:=bBin_lin h;exact ⟨_,_,h1,fun K' hk=>h2 _ hk⟩
  ·cases h
 case build=>obtain ⟨cs,h1,h2⟩:=bfill_lin _ _ _ h;exact ⟨_,_,h1,fun K' hk=>h2 _ hk⟩
 case store=>
  split at h
  ·split at h
   ·simp only[Bool.and_eq_true,Nat.beq_eq,Nat.ble_eq,Bool.not_eq_true']at h ⊢
    obtain ⟨⟨⟨⟨q1,q2⟩,q3⟩,q4⟩,q5⟩:=h
    rw[bput_eq _ _ _ _ (by omega)]at q5
    refine ⟨_,_,q5,fun K' hk=>⟨⟨⟨⟨q1,q2⟩,q3⟩,q4⟩,?_⟩⟩
    rw[bput_eq _ _ _ _ (by omega)];exact hk
   ·cases h
  ·cases h
 case bslice=>
  obtain ⟨cs,h1,h2⟩:=bfill_lin _ _ _ h
  split at h1
  ·rename_i ps hp
   split at h1
   ·rename_i ho;exact ⟨_,_,h1,fun K' hk=>h2 _ (by simp only[hp];rw[if_pos ho];exact hk)⟩
   ·rename_i ho;exact ⟨_,_,h1,fun K' hk=>h2 _ (by simp only[hp];rw[if_neg ho];exact hk)⟩
  ·cases h1
 case mop m=>exact bM_lin h
 case pick=>
  split at h
  ·rename_i t ht
   cases t
   ·exact ⟨_,_,h,fun K' hk=>hk⟩
   ·exact ⟨_,_,h,fun K' hk=>hk⟩
  ·cases h
 case append=>
  split at h
  ·simp only[Bool.and_eq_true]at h ⊢
   obtain ⟨h0,h⟩:=h
   split at h
   ·simp only[Bool.and_eq_true]at h ⊢
    obtain ⟨h1,h⟩:=h
    split at h <;> exact ⟨_,_,h,fun K' hk=>⟨h0,h1,hk⟩⟩
   ·simp only[Bool.and_eq_true]at h ⊢
    exact ⟨_,_,h.2,fun K' hk=>⟨h0,h.1,hk⟩⟩
   ·split at h
    ·simp only[Bool.and_eq_true]at h ⊢
     obtain ⟨h1,h⟩:=h
     split at h <;> exact ⟨_,_,h,fun K' hk=>⟨h0,h1,hk⟩⟩
    ·cases h
   ·cases h
  ·cases h
 case bsliceM=>obtain ⟨cs,h1,h2⟩:=bfill_lin _ _ _ h;exact ⟨_,_,h1,fun K' hk=>h2 _ hk⟩
 case copy=>
  split at h
  ·split at h
   ·simp only[Bool.and_eq_true,Nat.beq_eq,Nat.ble_eq,Bool.not_eq_true']at h ⊢
    obtain ⟨⟨⟨q1,q2⟩,q3⟩,q4⟩:=h
    rw[bput_eq _ _ _ _ (by omega)]at q4
    refine ⟨_,_,q4,fun K' hk=>⟨⟨⟨q1,q2⟩,q3⟩,?_⟩⟩
    rw[bput_eq _ _ _ _ (by omega)];exact hk
   ·cases h
  ·cases h
 case tassert t ok x=>
  split at h
  ·simp only[Bool.and_eq_true]at h ⊢
   obtain ⟨h0,h⟩:=h
   cases ok
   ·exact ⟨_,_,h,fun K' hk=>⟨h0,hk⟩⟩
   ·exact ⟨_,_,h,fun K' hk=>⟨h0,hk⟩⟩
  ·cases h
 case invk tbl x args=>
  split at h
  ·split at h
   ·exact hC _ _ _ _ h
   ·split at h
    ·split at h
     ·simp only[Bool.and_eq_true]at h ⊢
      obtain ⟨h0,h⟩:=h
      split at h
      ·obtain ⟨d,st',h1,h2⟩:=hC _ _ _ _ h
       exact ⟨d,st',h1,fun K' hk=>⟨h0,h2 K' hk⟩⟩
      ·cases h
     ·cases h
    ·cases h
   ·cases h
  ·cases h
 case index len size agg x i=>
  split at h
  ·cases agg
   ·simp only[Bool.and_eq_true,cond_false]at h ⊢
    obtain ⟨h1,h⟩:=h
    split at h
    ·exact ⟨_,_,h,fun K' hk=>⟨h1,hk⟩⟩
    ·cases h
   ·simp only[Bool.and_eq_true,cond_true]at h ⊢
    exact ⟨_,_,h.2.2,fun K' hk=>⟨h.1,h.2.1,hk⟩⟩
  ·simp only[Bool.and_eq_true]at h ⊢
   obtain ⟨h1,h⟩:=h
   split at h
   ·exact ⟨_,_,h,fun K' hk=>⟨h1,hk⟩⟩
   ·cases h
  ·cases h
 case minmax=>
  split at h
  ·simp only[Bool.and_eq_true]at h ⊢
   exact ⟨_,_,h.2,fun K' hk=>⟨h.1,hk⟩⟩
  ·cases h
 all_goals (repeat' split at h) <;> (try simp only[Bool.and_eq_true]at h ⊢) <;> first
  | exact ⟨_,_,h,fun K' hk=>hk⟩
  | exact ⟨_,_,h.2,fun K' hk=>⟨h.1,hk⟩⟩
  | (cases h;done)
  | (cases h.2;done)
theorem bR_lin {CB:CallB} (hC:CLin CB):∀ (l:List AO) (ρ:Env) (st:St) (K:Env→St→Bool),bR CB K l ρ st=true→∃ ρ' st',K ρ' st'=true∧∀ K':Env→St→Bool,K' ρ' st'=true→bR CB K' l ρ st=true
 | [],ρ,st,K,h=>⟨ρ,st,h,fun K' h=>h⟩
 | ⟨none,dst,op⟩ :: r,ρ,st,K,h=>by
  have e:∀ K:Env→St→Bool,bR CB K (⟨none,dst,op⟩ :: r) ρ st=bOp CB ρ st (fun d st'=>bR CB K r (setD dst d ρ) st') op:=fun K=>by
   show bOp CB ρ st (fun d st'=>bSet dst d ρ fun ρ=>bR CB K r ρ st') op=_
   simp only[bSet_eq]
  rw[e]at h
  obtain ⟨d,st1,h1,h2⟩:=bOp_lin hC h
  obtain ⟨ρ',st',h3,h4⟩:=bR_lin hC r _ _ K h1
  exact ⟨ρ',st',h3,fun K' hk=>by rw[e];exact h2 _ (h4 K' hk)⟩
 | ⟨some (t,want),dst,op⟩ :: r,ρ,st,K,h=>by
  have e:∀ K:Env→St→Bool,bR CB K (⟨some (t,want),dst,op⟩ :: r) ρ st=(match ρ.get t with
   | .p (.v (.bool b))=>bif b == want then bOp CB ((t,boolD want) :: ρ) st (fun d st'=>bR CB K r (setD dst d ((t,boolD want) :: ρ)) st') op
     else bR CB K r (setD dst undefD ((t,boolD (!want)) :: ρ)) st
   | .p (.v (.tuple _))=>bR CB K r (setD dst undefD ρ) st
   | _=>false):=fun K=>by
   show (match bget ρ t with
   | .p (.v (.bool b))=>bif b == want then bOp CB ((t,boolD want) :: ρ) st (fun d st'=>bSet dst d ((t,boolD want) :: ρ) fun ρ=>bR CB K r ρ st') op
     else fBool (!want) fun nw=>bSet dst undefD ((t,boolD nw) :: ρ) fun ρ=>bR CB K r ρ st
   | .p (.v (.tuple _))=>bSet dst undefD ρ fun ρ=>bR CB K r ρ st
   | _=>false)=_
   simp only[bSet_eq,fBool_eq,bget_eq]
  rw[e]at h
  split at h
  ·rename_i b hb
   cases hw:b == want
   ·rw[hw]at h
    obtain ⟨ρ',st',h3,h4⟩:=bR_lin hC r _ _ K h
    exact ⟨ρ',st',h3,fun K' hk=>by rw[e];simp only[hb,hw];exact h4 K' hk⟩
   ·rw[hw]at h
    obtain ⟨d,st1,h1,h2⟩:=bOp_lin hC h
    obtain ⟨ρ',st',h3,h4⟩:=bR_lin hC r _ _ K h1
    exact ⟨ρ',st',h3,fun K' hk=>by rw[e];simp only[hb,hw];exact h2 _ (h4 K' hk)⟩
  ·rename_i x hb
   obtain ⟨ρ',st',h3,h4⟩:=bR_lin hC r _ _ K h
   exact ⟨ρ',st',h3,fun K' hk=>by rw[e];simp only[hb];exact h4 K' hk⟩
  ·cases h
theorem bDr_lin {CB:CallB} (hC:CLin CB):∀ (l:List AO) (pl:List Nat) (is:List (Nat×Nat)) (ρ:Env) (st:St) (K:Env→St→Bool),bDr CB K l pl is ρ st=true→∃ ρ' st',K ρ' st'=true∧∀ K':Env→St→Bool,K' ρ' st'=true→bDr CB K' l pl is ρ st=true
 | [],pl,is,ρ,st,K,h=>⟨ρ,st,h,fun K' h=>h⟩
 | ⟨none,dst,op⟩ :: r,pl,is,ρ,st,K,h=>by
  have e:∀ K:Env→St→Bool,bDr CB K (⟨none,dst,op⟩ :: r) pl is ρ st=(bTouch (plF is pl) ρ op && bOp CB ρ st (fun d st'=>bDr CB K r ((readsB ρ op).toList ++ plF is pl) is.tail (setD dst d ρ) st') op):=fun K=>by
   show (bPlF is pl fun pl=>(bTouch pl ρ op && bOp CB ρ st (fun d st'=>fApp (readsB ρ op).toList pl fun pl=>bSet dst d ρ fun ρ=>bDr CB K r pl is.tail ρ st') op))=_
   simp only[bPlF_eq,bSet_eq,fApp_eq]
  rw[e]at h
  simp only[Bool.and_eq_true]at h
  obtain ⟨d,st1,h1,h2⟩:=bOp_lin hC h.2
  obtain ⟨ρ',st',h3,h4⟩:=bDr_lin hC r _ _ _ _ K h1
  exact ⟨ρ',st',h3,fun K' hk=>by rw[e];simp only[Bool.and_eq_true];exact ⟨h.1,h2 _ (h4 K' hk)⟩⟩
 | ⟨some (t,want),dst,op⟩ :: r,pl,is,ρ,st,K,h=>by
  have e:∀ K:Env→St→Bool,bDr CB K (⟨some (t,want),dst,op⟩ :: r) pl is ρ st=(match ρ.get t with
   | .p (.v (.bool b))=>bif b == want then bTouch (plF is pl) ((t,boolD want) :: ρ) op && bOp CB ((t,boolD want) :: ρ) st (fun d st'=>bDr CB K r ((readsB ((t,boolD want) :: ρ) op).toList ++ plF is pl) is.tail (setD dst d ((t,boolD want) :: ρ)) st') op
     else bDr CB K r (plF is pl) is.tail (setD dst undefD ((t,boolD (!want)) :: ρ)) st
   | .p (.v (.tuple _))=>bDr CB K r (plF is pl) is.tail (setD dst undefD ρ) st
   | _=>false):=fun K=>by
   show (bPlF is pl fun pl=>(match bget ρ t with
   | .p (.v (.bool b))=>bif b == want then bTouch pl ((t,boolD want) :: ρ) op && bOp CB ((t,boolD want) :: ρ) st (fun d st'=>fApp (readsB ((t,boolD want) :: ρ) op).toList pl fun pl=>bSet dst d ((t,boolD want) :: ρ) fun ρ=>bDr CB K r pl is.tail ρ st') op
     else fBool (!want) fun nw=>bSet dst undefD ((t,boolD nw) :: ρ) fun ρ=>bDr CB K r pl is.tail ρ st
   | .p (.v (.tuple _))=>bSet dst undefD ρ fun ρ=>bDr CB K r pl is.tail ρ st
   | _=>false))=_
   simp only[bPlF_eq,bSet_eq,fBool_eq,bget_eq,fApp_eq]
  rw[e]at h
  split at h
  ·rename_i b hb
   cases hw:b == want
   ·rw[hw]at h
    obtain ⟨ρ',st',h3,h4⟩:=bDr_lin hC r _ _ _ _ K h
    exact ⟨ρ',st',h3,fun K' hk=>by rw[e];simp only[hb,hw];exact h4 K' hk⟩
   ·rw[hw]at h
    simp only[cond_true,Bool.and_eq_true]at h
    obtain ⟨d,st1,h1,h2⟩:=bOp_lin hC h.2
    obtain ⟨ρ',st',h3,h4⟩:=bDr_lin hC r _ _ _ _ K h1
    exact ⟨ρ',st',h3,fun K' hk=>by rw[e];simp only[hb,hw,cond_true,Bool.and_eq_true];exact ⟨h.1,h2 _ (h4 K' hk)⟩⟩
  ·rename_i x hb
   obtain ⟨ρ',st',h3,h4⟩:=bDr_lin hC r _ _ _ _ K h
   exact ⟨ρ',st',h3,fun K' hk=>by rw[e];simp only[hb];exact h4 K' hk⟩
  ·cases h
theorem bDrs_lin {CB CB':CallB} (hC:CLin CB) (hC':CLin CB'):∀ (l:List Seg) (ρ:Env) (st:St) (K:Env→St→Bool),bDrs CB CB' K l ρ st=true→∃ ρ' st',K ρ' st'=true∧∀ K':Env→St→Bool,K' ρ' st'=true→bDrs CB CB' K' l ρ st=true
 | [],ρ,st,K,h=>⟨ρ,st,h,fun K' h=>h⟩
 | (true,is,l) :: r,ρ,st,K,h=>by
  obtain ⟨ρ1,st1,h1,h2⟩:=bR_lin hC l ρ st (bDrs CB CB' K r) h
  obtain ⟨ρ2,st2,h3,h4⟩:=bDrs_lin hC hC' r ρ1 st1 K h1
  exact ⟨ρ2,st2,h3,fun K' hk=>h2 (bDrs CB CB' K' r) (h4 K' hk)⟩
 | (false,is,l) :: r,ρ,st,K,h=>by
  obtain ⟨ρ1,st1,h1,h2⟩:=bDr_lin hC' l [] is ρ st (bDrs CB CB' K r) h
  obtain ⟨ρ2,st2,h3,h4⟩:=bDrs_lin hC hC' r ρ1 st1 K h1
  exact ⟨ρ2,st2,h3,fun K' hk=>h2 (bDrs CB CB' K' r) (h4 K' hk)⟩
theorem bA_lin {CB CB':CallB} (hC:CLin CB) (hC':CLin CB') (fuel:Nat):∀ (ac:AC) (Q:Ax→Env→St→Bool) (ρ:Env) (st:St),bA CB CB' fuel ac Q ρ st=true →
  ∃ x ρ' st',Q x ρ' st'=true∧∀ Q':Ax→Env→St→Bool,Q' x ρ' st'=true→bA CB CB' fuel ac Q' ρ st=true:=by
 intro ac
 induction ac with
 | rg l=>intro Q ρ st h;obtain ⟨ρ',st',h1,h2⟩:=bR_lin hC l ρ st (Q .n) h;exact ⟨.n,ρ',st',h1,fun Q' hq=>h2 (Q' .n) hq⟩
 | dr l=>intro Q ρ st h;obtain ⟨ρ',st',h1,h2⟩:=bDrs_lin hC hC' l ρ st (Q .n) h;exact ⟨.n,ρ',st',h1,fun Q' hq=>h2 (Q' .n) hq⟩
 | seq a b iha ihb=>
  intro Q ρ st h
  obtain ⟨x,ρ1,st1,h1,h2⟩:=iha (bThn (bA CB CB' fuel b Q) Q) ρ st h
  cases x with
  | n=>
   obtain ⟨y,ρ',st',h3,h4⟩:=ihb Q ρ1 st1 h1
   exact ⟨y,ρ',st',h3,fun Q' hq=>h2 (bThn (bA CB CB' fuel b Q') Q') (h4 Q' hq)⟩
  | x i=>exact ⟨.x i,ρ1,st1,h1,fun Q' hq=>h2 (bThn (bA CB CB' fuel b Q') Q') hq⟩
  | r=>exact ⟨.r,ρ1,st1,h1,fun Q' hq=>h2 (bThn (bA CB CB' fuel b Q') Q') hq⟩
  | jmp j=>exact ⟨.jmp j,ρ1,st1,h1,fun Q' hq=>h2 (bThn (bA CB CB' fuel b Q') Q') hq⟩
 | cond c a b iha ihb=>
  intro Q ρ st h
  have e:∀ Q:Ax→Env→St→Bool,bA CB CB' fuel (.cond c a b) Q ρ st=(match ev ρ c with | .p (.v (.bool t))=>Bool.rec (motive:=fun _=>Bool) (bA CB CB' fuel b Q ρ st) (bA CB CB' fuel a Q ρ st) t | _=>false):=fun Q=>by
   show (match bev ρ c with | .p (.v (.bool t))=>Bool.rec (motive:=fun _=>Bool) (bA CB CB' fuel b Q ρ st) (bA CB CB' fuel a Q ρ st) t | _=>false)=_
   simp only[bev_eq]
  rw[e]at h
  split at h
  ·rename_i t ht
   cases t
   ·obtain ⟨x,ρ',st',h1,h2⟩:=ihb Q ρ st h;exact ⟨x,ρ',st',h1,fun Q' hq=>by rw[e];simp only[ht];exact h2 Q' hq⟩
   ·obtain ⟨x,ρ',st',h1,h2⟩:=iha Q ρ st h;exact ⟨x,ρ',st',h1,fun Q' hq=>by rw[e];simp only[ht];exact h2 Q' hq⟩
  ·cases h
 | blk id a ih=>
  intro Q ρ st h
  obtain ⟨x,ρ1,st1,h1,h2⟩:=ih (bBlk id Q) ρ st h
  cases x with
  | n=>exact ⟨.n,ρ1,st1,h1,fun Q' hq=>h2 (bBlk id Q') hq⟩
  | x i=>
   simp only[bBlk]at h1
   cases hi:Nat.beq i id
   ·rw[hi]at h1;exact ⟨.x i,ρ1,st1,h1,fun Q' hq=>h2 (bBlk id Q') (by simp only[bBlk,hi];exact hq)⟩
   ·rw[hi]at h1;exact ⟨.n,ρ1,st1,h1,fun Q' hq=>h2 (bBlk id Q') (by simp only[bBlk,hi];exact hq)⟩
  | r=>exact ⟨.r,ρ1,st1,h1,fun Q' hq=>h2 (bBlk id Q') hq⟩
  | jmp j=>exact ⟨.jmp j,ρ1,st1,h1,fun Q' hq=>h2 (bBlk id Q') hq⟩
 | loop q keep a ih=>
  intro Q ρ st h
  have e:∀ Q:Ax→Env→St→Bool,bA CB CB' fuel (.loop q keep a) Q ρ st=bLoop (bA CB CB' fuel a) keep Q fuel (ρ.keep keep) st:=fun Q=>by
   show (bkeep ρ keep fun ρ=>bLoop (bA CB CB' fuel a) keep Q fuel ρ st)=_
   rw[bkeep_eq]
  have key:∀ k ρ st,bLoop (bA CB CB' fuel a) keep Q k ρ st=true→∃ x ρ' st',Q x ρ' st'=true∧∀ Q':Ax→Env→St→Bool,Q' x ρ' st'=true→bLoop (bA CB CB' fuel a) keep Q' k ρ st=true:=by
   intro k
   induction k with
   | zero=>intro ρ st h;cases h
   | succ k ihk=>
    intro ρ st h
    have e:∀ Q:Ax→Env→St→Bool,bLoop (bA CB CB' fuel a) keep Q (k+1) ρ st=bA CB CB' fuel a (bThn (fun ρ' st'=>bLoop (bA CB CB' fuel a) keep Q k (ρ'.keep keep) st') Q) ρ st:=fun Q=>by
     show bA CB CB' fuel a (bThn (fun ρ' st'=>bkeep ρ' keep fun ρ'=>bLoop (bA CB CB' fuel a) keep Q k ρ' st') Q) ρ st=_
     simp only[bkeep_eq]
    rw[e]at h
    obtain ⟨x,ρ1,st1,h1,h2⟩:=ih _ ρ st h
    cases x with
    | n=>
     obtain ⟨y,ρ',st',h3,h4⟩:=ihk _ _ h1
     exact ⟨y,ρ',st',h3,fun Q' hq=>by rw[e];exact h2 _ (h4 Q' hq)⟩
    | x i=>exact ⟨.x i,ρ1,st1,h1,fun Q' hq=>by rw[e];exact h2 _ hq⟩
    | r=>exact ⟨.r,ρ1,st1,h1,fun Q' hq=>by rw[e];exact h2 _ hq⟩
    | jmp j=>exact ⟨.jmp j,ρ1,st1,h1,fun Q' hq=>by rw[e];exact h2 _ hq⟩
  rw[e]at h
  obtain ⟨x,ρ',st',h1,h2⟩:=key _ _ _ h
  exact ⟨x,ρ',st',h1,fun Q' hq=>by rw[e];exact h2 Q' hq⟩
 | exit id=>exact fun Q ρ st h=>⟨.x id,ρ,st,h,fun Q' hq=>hq⟩
 | ret=>exact fun Q ρ st h=>⟨.r,ρ,st,h,fun Q' hq=>hq⟩
 | skip=>exact fun Q ρ st h=>⟨.n,ρ,st,h,fun Q' hq=>hq⟩
 | dead=>exact fun Q ρ st h=>(Bool.false_ne_true h).elim
 | rf=>exact fun Q ρ st h=>(Bool.false_ne_true h).elim
 | iy=>exact fun Q ρ st h=>(Bool.false_ne_true h).elim
end Go.Ab
namespace Go.Ab
open Go.RowKit
noncomputable def bRes1 (ρ:Env) (st:St) (K:D→Bool):ARes→Bool
 | .tmp t=>fD (bget ρ t) K
 | .cell t none=>match bget ρ t with
  | .ptr b off=>match bnth st.box b with | some B=>!B.fz && (match bnth B.cells off with | some d=>fD d K | none=>false) | none=>false
  | _=>false
 | .cell t (some size)=>match bget ρ t with
  | .ptr b off=>match bnth st.box b with | some B=>!B.fz && bfits (off+size) B.cells && fAgg (btake (bdrop B.cells off) size) K | none=>false
  | _=>false
noncomputable def bRes (ρ:Env) (st:St) (l:List ARes):(List D→Bool)→Bool:=
 List.rec (motive:=fun _=>(List D→Bool)→Bool) (fun K=>K []) (fun r _ ih K=>bRes1 ρ st (fun d=>ih fun ds=>K (d :: ds)) r) l
theorem bRes1_sound {ρ:Env} {st:St} {K:D→Bool} {V:D→Prop} (hK:∀ d,K d=true→V d) {r:ARes} (h:bRes1 ρ st K r=true):wpRes1 ρ st V r:=by
 unfold bRes1 at h
 simp only[bget_eq,fD_eq,fAgg_eq,bnth_eq,bfits_eq,bdrop_eq,btake_eq]at h
 unfold wpRes1
 split at h
 ·exact hK _ h
 ·split at h
  ·rename_i h1;try simp only[h1]
   split at h
   ·rename_i h2;try simp only[h2]
    simp only[Bool.and_eq_true,Bool.not_eq_true']at h
    obtain ⟨h0,h⟩:=h
    split at h
    ·rename_i d h3;exact ⟨h0,d,h3,hK _ h⟩
    ·exact (Bool.false_ne_true h).elim
   ·exact (Bool.false_ne_true h).elim
  ·exact (Bool.false_ne_true h).elim
 ·split at h
  ·rename_i h1;try simp only[h1]
   split at h
   ·rename_i h2;try simp only[h2]
    simp only[Bool.and_eq_true,Nat.ble_eq,Bool.not_eq_true']at h
    exact ⟨h.1.1,h.1.2,hK _ h.2⟩
   ·exact (Bool.false_ne_true h).elim
  ·exact (Bool.false_ne_true h).elim
theorem bRes_sound {ρ:Env} {st:St}:∀ {l:List ARes} {K:List D→Bool} {V:List D→Prop},(∀ d,K d=true→V d)→bRes ρ st l K=true→wpRes ρ st V l
 | [],_,_,hK,h=>hK _ h
 | r :: l,K,V,hK,h=>by
  have h:bRes1 ρ st (fun d=>bRes ρ st l fun ds=>K (d :: ds)) r=true:=h
  exact bRes1_sound (fun d h=>bRes_sound (fun ds h=>hK _ h) h) h
noncomputable def fRes (ds:List D) (f:D→Bool):Bool:=match ds with | [d]=>f d | ds=>fTup ds f
theorem fRes_eq (ds:List D) (f:D→Bool):fRes ds f=f (resOf ds):=by
 unfold fRes resOf;split <;> simp only[fTup_eq]
noncomputable def bRet (ars:List ARes) (K:D→St→Bool):Ax→Env→St→Bool
 | .x _,_,_=>false
 | .n,ρ,st=>bRes ρ st ars fun ds=>fRes ds fun d=>K d st
 | .r,ρ,st=>bRes ρ st ars fun ds=>fRes ds fun d=>K d st
 | .jmp _,_,_=>false
theorem bRet_sound {ars:List ARes} {K:D→St→Bool} {V:D→St→Prop} (hK:∀ d st,K d st=true→V d st):∀ x ρ st,bRet ars K x ρ st=true→retQ ars V x ρ st:=by
 intro x ρ st h
 cases x <;> simp only[bRet,fRes_eq]at h <;> simp only[retQ]
 ·exact bRes_sound (fun ds h=>hK _ _ h) h
 ·exact (Bool.false_ne_true h).elim
 ·exact bRes_sound (fun ds h=>hK _ _ h) h
 ·exact (Bool.false_ne_true h).elim
noncomputable def eqL (e:PD→PD→Bool) (l:List PD):List PD→Bool:=
 List.rec (motive:=fun _=>List PD→Bool) (fun l'=>List.rec (motive:=fun _=>Bool) true (fun _ _ _=>false) l') (fun x _ ih l'=>List.rec (motive:=fun _=>Bool) false (fun y r _=>e x y && ih r) l') l
theorem eqL_spec {e:PD→PD→Bool} (he:∀ x y,e x y=true→x=y):∀ (l l':List PD),eqL e l l'=true→l=l'
 | [],[],_=>rfl
 | [],_ :: _,h=>by cases h
 | _ :: _,[],h=>by cases h
 | x :: l,y :: l',h=>by
  have h:(e x y && eqL e l l')=true:=h
  simp only[Bool.and_eq_true]at h
  rw[he x y h.1,eqL_spec he l l' h.2]
noncomputable def eqP:Nat→PD→PD→Bool
 | 0,_,_=>false
 | d+1,x,y=>match x,y with
  | .v (.int k a),.v (.int k' b)=>decide (k=k') && decide (a=b)
  | .v (.bool a),.v (.bool b)=>a == b
  | .sl nl n l,.sl nl' n' l'=>decide (nl=nl') && Nat.beq n n' && eqL (eqP d) l l'
  | .agg l,.agg l'=>eqL (eqP d) l l'
  | .tup l,.tup l'=>eqL (eqP d) l l'
  | _,_=>false
theorem eqP_spec:∀ (d:Nat) (x y:PD),eqP d x y=true→x=y
 | 0,_,_,h=>by simp[eqP]at h
 | d+1,x,y,h=>by
  have ih:=eqL_spec (eqP_spec d)
  simp only[eqP]at h
  split at h
  ·simp only[Bool.and_eq_true,decide_eq_true_eq]at h;rw[h.1,h.2]
  ·simp only[beq_iff_eq]at h;rw[h]
  ·simp only[Bool.and_eq_true,decide_eq_true_eq,Nat.beq_eq]at h;rw[h.1.1,h.1.2,ih _ _ h.2]
  ·rw[ih _ _ h]
  ·rw[ih _ _ h]
  ·cases h
noncomputable def eqPD (x y:PD):Bool:=eqP 5 x y
theorem eqPD_spec (x y:PD) (h:eqPD x y=true):x=y:=eqP_spec 5 x y h
abbrev Kn:=FuncId→List D→Option PD
def KnOK (P:Program) (kn:Kn):Prop:=∀ f ds x,kn f ds=some x→∃ args,toAs ds=some args∧PurFn P f args x
theorem KnOK.nil {P:Program}:KnOK P fun _ _=>none:=fun _ _ _ h=>by cases h
noncomputable def fP (x:PD) (f:PD→Bool):Bool:=match x with
 | .v v=>fVal v fun v=>f (.v v)
 | .sl nl n cells=>fNat n fun n=>fList cells fun cells=>f (.sl nl n cells)
 | .agg cells=>fList cells fun cells=>f (.agg cells)
 | .tup cells=>fList cells fun cells=>f (.tup cells)
 | .z0=>f .z0
theorem fP_eq (x:PD) (f:PD→Bool):fP x f=f x:=by cases x <;> simp only[fP,fVal_eq,fNat_eq,fList_eq]
abbrev KnS:=FuncId→Option (List D→St→(D→St→Bool)→Bool)
structure KnSOK (P:Program) (ks:KnS):Prop where
 s:∀ f k,ks f=some k→∀ ds st K,k ds st K=true→FnC P f ds st fun d st=>K d st=true
 l:∀ f k,ks f=some k→∀ ds st K,k ds st K=true→∃ d st',K d st'=true∧∀ K':D→St→Bool,K' d st'=true→k ds st K'=true
theorem KnSOK.nil {P:Program}:KnSOK P fun _=>none:=⟨fun _ _ h=>(by cases h),fun _ _ h=>(by cases h)⟩
noncomputable def bShare (tbl:Tbl) (kn:Kn) (ks:KnS) (fuel:Nat) (c c':CallB):CallB:=fun f ds st K=>match kn f ds with
 | some x=>fP x fun x=>K (.p x) st
 | none=>match ks f with
 | some k=>k ds st K
 | none=>match tbl f with
  | some (ac,ars,n)=>Nat.ble ds.length n && bA c c' fuel ac (bRet ars K) (argsEnv 0 ds) st
  | none=>false
noncomputable def bPure (tbl:Tbl) (kn:Kn) (fuel:Nat) (c c':CallB):CallB:=fun f ds st K=>match kn f ds with
 | some x=>fP x fun x=>K (.p x) st
 | none=>match tbl f with
 | some (ac,ars,n)=>Nat.ble ds.length n && (match toAs ds with
  | some args=>fList args fun args=>bA c c' fuel ac (bRet ars fun x st'=>match viewD st'.box 3 x with | some d=>fP d fun d=>K (.p d) st | none=>false) (argsEnv 0 args) ⟨[],[]⟩
  | none=>match viewAs st.box ds with
   | some args=>fList args fun args=>bA c c' fuel ac (bRet ars fun x st'=>match viewD st'.box 3 x with | some d=>flatP d && fP d fun d=>K (.p d) st | none=>false) (argsEnv 0 args) ⟨[],[]⟩
   | none=>false)
 | none=>false
noncomputable def bCalls (tbl:Tbl) (kn:Kn) (ks:KnS) (fuel k:Nat):CallB×CallB:=
 Nat.rec (fun _ _ _ _=>false,fun _ _ _ _=>false) (fun _ ih=>(bShare tbl kn ks fuel ih.1 ih.2,bPure tbl kn fuel ih.1 ih.2)) k
section
variable {P:Program} {c:Ctx}
theorem toAs_len:∀ {ds xs:List D},toAs ds=some xs→xs.length=ds.length
 | [],xs,h=>by simp only[toAs,Option.some.injEq]at h;subst h;rfl
 | d :: r,xs,h=>by
  simp only[toAs]at h
  split at h
  ·rename_i h1 h2;simp only[Option.some.injEq]at h;subst h;simp[toAs_len h2]
  ·cases h
theorem viewAs_len {bs:List Box}:∀ {ds xs:List D},viewAs bs ds=some xs→xs.length=ds.length
 | [],xs,h=>by simp only[viewAs,Option.some.injEq]at h;subst h;rfl
 | d :: r,xs,h=>by
  simp only[viewAs]at h
  split at h
  ·rename_i h1 h2;simp only[Option.some.injEq]at h;subst h;simp[viewAs_len h2]
  ·cases h
theorem bRes1_lin {ρ:Env} {st:St} {K:D→Bool} {r:ARes} (h:bRes1 ρ st K r=true):∃ d,K d=true∧∀ K':D→Bool,K' d=true→bRes1 ρ st K' r=true:=by
 unfold bRes1 at h ⊢
 simp only[bget_eq,fD_eq,fAgg_eq,bnth_eq,bfits_eq,bdrop_eq,btake_eq]at h ⊢
 split at h
 ·exact ⟨_,h,fun K' hk=>hk⟩
 ·split at h
  ·split at h
   ·simp only[Bool.and_eq_true]at h ⊢
    obtain ⟨h0,h⟩:=h
    split at h
    ·exact ⟨_,h,fun K' hk=>⟨h0,hk⟩⟩
    ·cases h
   ·cases h
  ·cases h
 ·split at h
  ·split at h
   ·simp only[Bool.and_eq_true]at h ⊢
    exact ⟨_,h.2,fun K' hk=>⟨h.1,hk⟩⟩
   ·cases h
  ·cases h
theorem bRes_lin {ρ:Env} {st:St}:∀ {l:List ARes} {K:List D→Bool},bRes ρ st l K=true→∃ ds,K ds=true∧∀ K':List D→Bool,K' ds=true→bRes ρ st l K'=true
 | [],K,h=>⟨[],h,fun K' hk=>hk⟩
 | r :: l,K,h=>by
  have h:bRes1 ρ st (fun d=>bRes ρ st l fun ds=>K (d :: ds)) r=true:=h
  obtain ⟨d,h1,h2⟩:=bRes1_lin h
  obtain ⟨ds,h3,h4⟩:=bRes_lin h1
  exact ⟨d :: ds,h3,fun K' hk=>h2 (fun d=>bRes ρ st l fun ds=>K' (d :: ds)) (h4 (fun ds=>K' (d :: ds)) hk)⟩
theorem bRet_lin {ars:List ARes} {K:D→St→Bool} {x:Ax} {ρ:Env} {st:St} (h:bRet ars K x ρ st=true):∃ d,K d st=true∧∀ K':D→St→Bool,K' d st=true→bRet ars K' x ρ st=true:=by
 cases x <;> simp only[bRet,fRes_eq]at h ⊢
 ·obtain ⟨ds,h1,h2⟩:=bRes_lin h;exact ⟨_,h1,fun K' hk=>h2 (fun ds=>K' (resOf ds) st) hk⟩
 ·cases h
 ·obtain ⟨ds,h1,h2⟩:=bRes_lin h;exact ⟨_,h1,fun K' hk=>h2 (fun ds=>K' (resOf ds) st) hk⟩
 ·cases h
theorem bRun_lin {CB CB':CallB} (hC:CLin CB) (hC':CLin CB') {fuel:Nat} {ac:AC} {ars:List ARes} {K:D→St→Bool} {ρ:Env} {st:St} (h:bA CB CB' fuel ac (bRet ars K) ρ st=true) :
  ∃ d st',K d st'=true∧∀ K':D→St→Bool,K' d st'=true→bA CB CB' fuel ac (bRet ars K') ρ st=true:=by
 obtain ⟨x,ρ',st',h1,h2⟩:=bA_lin hC hC' fuel ac _ ρ st h
 obtain ⟨d,h3,h4⟩:=bRet_lin h1
 exact ⟨d,st',h3,fun K' hk=>h2 _ (h4 K' hk)⟩
theorem bCalls_lin {P:Program} (tbl:Tbl) (kn:Kn) {ks:KnS} (hks:KnSOK P ks) (fuel:Nat):∀ k,CLin (bCalls tbl kn ks fuel k).1∧CLin (bCalls tbl kn ks fuel k).2:=by
 intro k
 induction k with
 | zero=>exact ⟨fun f ds st K h=>(Bool.false_ne_true h).elim,fun f ds st K h=>(Bool.false_ne_true h).elim⟩
 | succ k ih=>
  obtain ⟨ih1,ih2⟩:=ih
  refine ⟨fun f ds st K h=>?_,fun f ds st K h=>?_⟩
  ·have h:bShare tbl kn ks fuel (bCalls tbl kn ks fuel k).1 (bCalls tbl kn ks fuel k).2 f ds st K=true:=h
   show ∃ d st',K d st'=true∧∀ K':D→St→Bool,K' d st'=true→bShare tbl kn ks fuel (bCalls tbl kn ks fuel k).1 (bCalls tbl kn ks fuel k).2 f ds st K'=true
   unfold bShare at h ⊢
   split at h
   ·simp only[fP_eq]at h ⊢;exact ⟨_,_,h,fun K' hk=>hk⟩
   ·split at h
    ·rename_i k hk;exact hks.l _ _ hk _ _ _ h
    split at h
    ·simp only[Bool.and_eq_true]at h ⊢
     obtain ⟨d,st',h1,h2⟩:=bRun_lin ih1 ih2 h.2
     exact ⟨d,st',h1,fun K' hk=>⟨h.1,h2 K' hk⟩⟩
    ·cases h
  ·have h:bPure tbl kn fuel (bCalls tbl kn ks fuel k).1 (bCalls tbl kn ks fuel k).2 f ds st K=true:=h
   show ∃ d st',K d st'=true∧∀ K':D→St→Bool,K' d st'=true→bPure tbl kn fuel (bCalls tbl kn ks fuel k).1 (bCalls tbl kn ks fuel k).2 f ds st K'=true
   unfold bPure at h ⊢
   split at h
   ·simp only[fP_eq]at h ⊢;exact ⟨_,_,h,fun K' hk=>hk⟩
   split at h
   ·simp only[Bool.and_eq_true,fList_eq,fP_eq]at h ⊢
    obtain ⟨h0,h⟩:=h
    split at h
    ·obtain ⟨d,st',h1,h2⟩:=bRun_lin ih1 ih2 h
     split at h1
     ·rename_i x hx
      exact ⟨_,_,h1,fun K' hk=>⟨h0,h2 (fun x st'=>match viewD st'.box 3 x with | some d=>K' (.p d) st | none=>false) (by simp only[hx];exact hk)⟩⟩
     ·cases h1
    ·split at h
     ·obtain ⟨d,st',h1,h2⟩:=bRun_lin ih1 ih2 h
      split at h1
      ·rename_i x hx
       simp only[Bool.and_eq_true]at h1
       exact ⟨_,_,h1.2,fun K' hk=>⟨h0,h2 (fun x st'=>match viewD st'.box 3 x with | some d=>flatP d && K' (.p d) st | none=>false) (by simp only[hx,Bool.and_eq_true];exact ⟨h1.1,hk⟩)⟩⟩
      ·cases h1
     ·cases h
   ·cases h
theorem bCalls_sound (hm:P.follows .mixedOrders=true) {tbl:Tbl} (ht:TblOK P tbl) {kn:Kn} (hkn:KnOK P kn) {ks:KnS} (hks:KnSOK P ks) (fuel:Nat):∀ k,(∀ c,CSound (bCalls tbl kn ks fuel k).1 (CW P c fun _=>True))∧CSound (bCalls tbl kn ks fuel k).2 (CP P):=by
 classical
 intro k
 induction k with
 | zero=>exact ⟨fun c f ds st K h=>(Bool.false_ne_true h).elim,fun f ds st K h=>(Bool.false_ne_true h).elim⟩
 | succ k ih=>
  obtain ⟨ih1,ih2⟩:=ih
  refine ⟨fun c f ds st K h=>?_,fun f ds st K h=>?_⟩
  ·have h:bShare tbl kn ks fuel (bCalls tbl kn ks fuel k).1 (bCalls tbl kn ks fuel k).2 f ds st K=true:=h
   unfold bShare at h
   split at h
   ·rename_i x hx
    obtain ⟨args,ha,hp⟩:=hkn _ _ _ hx
    rw[fP_eq]at h
    exact hp.cw ha h
   split at h
   ·rename_i k hk
    exact hks.s _ _ hk _ _ _ h c
   split at h
   ·rename_i ac ars n hf
    obtain ⟨hcall,fn,g,hfn,hc,hle,hgc⟩:=ht f ac ars n hf
    simp only[Bool.and_eq_true,Nat.ble_eq]at h
    exact CW.of_wpA hm hcall hfn hc (.inl hgc) (by omega) (bA_soundP (C:=FnC P) (fun f ds st K h c=>ih1 c f ds st K h) FnC.cmono ih2 fuel ac _ _ _ _ (bRet_sound fun d st h=>h) h.2)
   ·exact (Bool.false_ne_true h).elim
  ·have h:bPure tbl kn fuel (bCalls tbl kn ks fuel k).1 (bCalls tbl kn ks fuel k).2 f ds st K=true:=h
   unfold bPure at h
   split at h
   ·rename_i x hx
    obtain ⟨args,ha,hp⟩:=hkn _ _ _ hx
    rw[fP_eq]at h
    exact ⟨x,⟨args,.inl (.of ha),hp⟩,h⟩
   split at h
   ·rename_i ac ars n hf
    obtain ⟨hcall,fn,g,hfn,hc,hle,hgc⟩:=ht f ac ars n hf
    simp only[Bool.and_eq_true,Nat.ble_eq,fList_eq,fP_eq]at h
    obtain ⟨hlen,h⟩:=h
    have pur:∀ {args:List D} {x:D} {st':St} {p:PD},args.length=ds.length→viewD st'.box 3 x=some p →
      (∀ K':D→St→Bool,K' x st'=true→bA (bCalls tbl kn ks fuel k).1 (bCalls tbl kn ks fuel k).2 fuel ac (bRet ars K') (argsEnv 0 args) ⟨[],[]⟩=true)→PurFn P f args p:=fun {args x st' p} hl hp h=>by
     have h:=h (fun y st2=>decide (viewD st2.box 3 y=some p)) (by simpa using hp)
     exact PurFn.ofV hm hcall hfn hc (by omega) (bA_soundP (C:=FnC P) (fun f ds st K h c=>ih1 c f ds st K h) FnC.cmono ih2 fuel ac _ _ _ _ (bRet_sound fun d st h=>by simpa using h) h)
    obtain ⟨lin1,lin2⟩:=bCalls_lin tbl kn hks fuel k
    split at h
    ·rename_i args ha
     obtain ⟨x,st',h1,h2⟩:=bRun_lin lin1 lin2 h
     split at h1
     ·rename_i p hp
      exact ⟨p,⟨args,.inl (.of ha),pur (toAs_len ha) hp h2⟩,h1⟩
     ·exact (Bool.false_ne_true h1).elim
    ·split at h
     ·rename_i args ha
      obtain ⟨x,st',h1,h2⟩:=bRun_lin lin1 lin2 h
      split at h1
      ·rename_i p hp
       simp only[Bool.and_eq_true]at h1
       exact ⟨p,⟨args,.inr ⟨.of ha,h1.1⟩,pur (viewAs_len ha) hp h2⟩,h1.2⟩
      ·exact (Bool.false_ne_true h1).elim
     ·exact (Bool.false_ne_true h).elim
   ·exact (Bool.false_ne_true h).elim
theorem PurFn.of_run2 (hm:P.follows .mixedOrders=true) {tbl:Tbl} (ht:TblOK P tbl) {kn:Kn} (hkn:KnOK P kn) {ks:KnS} (hks:KnSOK P ks) {fuel k:Nat} {f:FuncId} {ac:AC} {ars:List ARes} {n:Nat} (hf:tbl f=some (ac,ars,n)) {args:List PD} {d:PD} (hn:Nat.ble args.length n=true)
  (h:bA (bCalls tbl kn ks fuel k).1 (bCalls tbl kn ks fuel k).2 fuel ac (bRet ars fun x st=>match viewD st.box 3 x with | some y=>fP y fun y=>eqPD y d | none=>false) (argsEnv 0 (args.map .p)) ⟨[],[]⟩=true):PurFn P f (args.map .p) d:=by
 obtain ⟨hcall,fn,g,hfn,hc,hle,hgc⟩:=ht f ac ars n hf
 refine PurFn.ofV hm hcall hfn hc (by rw[Nat.ble_eq]at hn;simp;omega) (bA_soundP (C:=FnC P) (fun f ds st K h c=>(bCalls_sound hm ht hkn hks fuel k).1 c f ds st K h) FnC.cmono (bCalls_sound hm ht hkn hks fuel k).2 fuel ac _ _ _ _ (bRet_sound fun x st h=>?_) h)
 split at h
 ·rename_i y hy
  rw[fP_eq]at h
  rw[hy,eqPD_spec _ _ h]
 ·exact (Bool.false_ne_true h).elim
end
end Go.Ab
