/- Abstract values and states for the functions of a translated program,and preconditions over them: operations. What is proved holds for every program,without conditions. -/
import Derived.Below
import Derived.Orders
import Derived.Laws.AppendOwn
import Derived.RowKit3
import Derived.Laws.StructEq
import Derived.WalkSpells
import Derived.ChangeKeysEq
import Derived.Laws.CopyRow
import Derived.Maps.Range
set_option linter.unusedSimpArgs false
set_option linter.unusedVariables false
namespace Go.Ab
open Go.RowKit
inductive PD where
 | v (x:Value)
 | sl (nl:Option Bool) (n:Nat) (cells:List PD)
 | agg (cells:List PD)
 | tup (vs:List PD)
 | z0
instance:Inhabited PD:=⟨.v undef⟩
abbrev Mem:=Nat→Nat→Option Value
inductive RP (G:Mem):PD→Value→Prop where
 | v (x:Value):RP G (.v x) x
 | nil (nl:Option Bool) (h:nl≠some false):RP G (.sl nl 0 []) (.slice none 0 0)
 | sl' (nl:Option Bool) (n:Nat) (cells:List PD) (b o cap:Nat) (us:Nat→Value) (sp:Option Nat) (h:nl≠some true) (hc:n≤cap)
   (hG:∀ i,i<cells.length→G b (o+i)=some (us i)) (hR:∀ i,i<cells.length→RP G (cells.getD i default) (us i)) (hs:sp=none∨n=0) :
   RP G (.sl nl n cells) (.slice (some ⟨b,o,sp⟩) n cap)
 | agg (cells:List PD) (us:Array Value) (hs:us.size=cells.length) (hR:∀ i,i<cells.length→RP G (cells.getD i default) (us.getD i undef)) :
   RP G (.agg cells) (.agg us)
 | tup (cells:List PD) (us:Array Value) (hs:us.size=cells.length) (hR:∀ i,i<cells.length→RP G (cells.getD i default) (us.getD i undef)) :
   RP G (.tup cells) (.tuple us)
 | z0 (b:Nat):RP G .z0 (.slice (some ⟨b,0,none⟩) 0 0)
theorem RP.sl {G:Mem} (nl:Option Bool) (n:Nat) (cells:List PD) (b o cap:Nat) (us:Nat→Value) (h:nl≠some true) (hc:n≤cap)
  (hG:∀ i,i<cells.length→G b (o+i)=some (us i)) (hR:∀ i,i<cells.length→RP G (cells.getD i default) (us i)) :
  RP G (.sl nl n cells) (.slice (some ⟨b,o,none⟩) n cap):=.sl' nl n cells b o cap us none h hc hG hR (.inl rfl)
theorem RP.mono {G G':Mem} (hle:∀ b o u,G b o=some u→G' b o=some u) {d:PD} {u:Value} (h:RP G d u):RP G' d u:=by
 induction h with
 | v x=>exact .v x
 | nil nl h=>exact .nil nl h
 | sl' nl n cells b o cap us sp h hc hG _ hs ih=>exact .sl' nl n cells b o cap us sp h hc (fun i hi=>hle _ _ _ (hG i hi)) ih hs
 | agg cells us hs _ ih=>exact .agg cells us hs ih
 | tup cells us hs _ ih=>exact .tup cells us hs ih
 | z0 b=>exact .z0 b
def gkCells (_:Nat):List PD:=[]
def GLB (G:Mem):Prop:=∀ g i,i<(gkCells g).length→∃ u,G g i=some u∧RP G ((gkCells g).getD i default) u
theorem GLB.mono {G G':Mem} (h:GLB G) (hle:∀ b o u,G b o=some u→G' b o=some u):GLB G':=fun g i hi=>by
 obtain ⟨u,h1,h2⟩:=h g i hi
 exact ⟨u,hle _ _ _ h1,h2.mono hle⟩
theorem GLB.triv {G:Mem} (h:∀ g,gkCells g=[]):GLB G:=fun g i hi=>by rw[h g]at hi;exact absurd hi (Nat.not_lt_zero _)
inductive D where
 | p (x:PD)
 | grp (g n:Nat) (cells:List PD)
 | ptr (b off:Nat)
 | el (cells:List PD)
 | ms (b off n:Nat)
 | agg (cells:List D)
 | tup (vs:List D)
 | fn (f:Fn) (first captured:List D)
 | ifc (t:TypeId) (x:D)
 | mref (b:Nat)
 | rel (d:D)
 | bad
instance:Inhabited D:=⟨.bad⟩
structure Em where
 G:Mem
 ι:Nat→Option Nat
 γ:Nat→Option (Nat×Nat×Nat)
 δ:Nat→Option Nat
 κ:Nat→Option Nat
def Em.N (E:Em) (i b:Nat):Prop:=E.ι i=some b∨E.δ i=some b
inductive RD (E:Em):D→Value→Prop where
 | p (x:PD) (u:Value) (h:RP E.G x u):RD E (.p x) u
 | grp (g n:Nat) (cells:List PD) (u:Value) (b cap cur:Nat) (hg:E.γ g=some (b,cap,cur)) (hl:cells.length≤cur)
   (h:RP E.G (.sl (some false) n cells) u) (hc:cells.length=cur→u=.slice (some ⟨b,0,none⟩) n cap):RD E (.grp g n cells) u
 | ptr (i off b:Nat) (h:E.N i b):RD E (.ptr i off) (.pointer (some ⟨b,off,none⟩))
 | el (cells:List PD) (b o:Nat) (us:Nat→Value) (hG:∀ i,i<cells.length→E.G b (o+i)=some (us i))
   (hR:∀ i,i<cells.length→RP E.G (cells.getD i default) (us i)):RD E (.el cells) (.pointer (some ⟨b,o,none⟩))
 | ms (i off n b cap:Nat) (h:E.N i b) (hc:n≤cap) (hk:∀ c0,E.κ i=some c0→off=0→cap=c0):RD E (.ms i off n) (.slice (some ⟨b,off,none⟩) n cap)
 | agg (cells:List D) (us:Array Value) (hs:us.size=cells.length) (hR:∀ i,i<cells.length→RD E (cells.getD i default) (us.getD i undef)) :
   RD E (.agg cells) (.agg us)
 | tup (cells:List D) (us:Array Value) (hs:us.size=cells.length) (hR:∀ i,i<cells.length→RD E (cells.getD i default) (us.getD i undef)) :
   RD E (.tup cells) (.tuple us)
 | fn (f:Fn) (first captured:List D) (us ws:Array Value) (hs:us.size=first.length) (ht:ws.size=captured.length)
   (hR:∀ i,i<first.length→RD E (first.getD i default) (us.getD i undef)) (hT:∀ i,i<captured.length→RD E (captured.getD i default) (ws.getD i undef)) :
   RD E (.fn f first captured) (.func f us ws)
 | ifc (t:TypeId) (x:D) (u:Value) (h:RD E x u):RD E (.ifc t x) (.iface t u)
 | mref (i b:Nat) (h:E.N i b):RD E (.mref i) (.map (some b))
 | rel (d:D) (b o:Nat) (u:Value) (hG:E.G b o=some u) (h:RD E d u):RD E (.rel d) (.pointer (some ⟨b,o,none⟩))
 | bad (u:Value):RD E .bad u
structure Em.le (E E':Em):Prop where
 G:∀ b o u,E.G b o=some u→E'.G b o=some u
 ι:∀ i b,E.N i b→E'.N i b
 κ:∀ i b,E.N i b→E'.κ i=E.κ i
 γ:∀ g b cap cur,E.γ g=some (b,cap,cur)→∃ b' cap' cur',E'.γ g=some (b',cap',cur')∧(cur'=cur∧b'=b∧cap'=cap∨cur<cur')
theorem Em.le.refl (E:Em):E.le E:=⟨fun _ _ _ h=>h,fun _ _ h=>h,fun _ _ _=>rfl,fun _ b cap cur h=>⟨b,cap,cur,h,.inl ⟨rfl,rfl,rfl⟩⟩⟩
theorem Em.le.trans {A B C:Em} (h:A.le B) (k:B.le C):A.le C:=
 ⟨fun b o u hg=>k.G _ _ _ (h.G b o u hg),fun i b hi=>k.ι _ _ (h.ι i b hi),fun i b hi=>(k.κ i b (h.ι i b hi)).trans (h.κ i b hi),fun g b cap cur hg=>by
  obtain ⟨b1,cap1,cur1,h1,e1⟩:=h.γ g b cap cur hg
  obtain ⟨b2,cap2,cur2,h2,e2⟩:=k.γ g b1 cap1 cur1 h1
  refine ⟨b2,cap2,cur2,h2,?_⟩
  rcases e1 with ⟨rfl,rfl,rfl⟩ | e1
  ·exact e2
  ·rcases e2 with ⟨rfl,rfl,rfl⟩ | e2
   ·exact .inr e1
   ·exact .inr (by omega)⟩
theorem RD.mono {E E':Em} (hle:E.le E') {d:D} {u:Value} (h:RD E d u):RD E' d u:=by
 induction h with
 | p x u h=>exact .p x u (h.mono hle.G)
 | grp g n cells u b cap cur hg hl h hc=>
  obtain ⟨b',cap',cur',h',e⟩:=hle.γ g b cap cur hg
  rcases e with ⟨rfl,rfl,rfl⟩ | e
  ·exact .grp g n cells u _ _ _ h' hl (h.mono hle.G) hc
  ·exact .grp g n cells u _ _ _ h' (by omega) (h.mono hle.G) (fun hx=>by omega)
 | ptr i off b h=>exact .ptr i off b (hle.ι _ _ h)
 | el cells b o us hG hR=>exact .el cells b o us (fun i hi=>hle.G _ _ _ (hG i hi)) (fun i hi=>(hR i hi).mono hle.G)
 | ms i off n b cap h hc hk=>exact .ms i off n b cap (hle.ι _ _ h) hc (fun c0 h0=>hk c0 ((hle.κ _ _ h).symm.trans h0))
 | agg cells us hs _ ih=>exact .agg cells us hs ih
 | tup cells us hs _ ih=>exact .tup cells us hs ih
 | fn f first captured us ws hs ht _ _ ih ih'=>exact .fn f first captured us ws hs ht ih ih'
 | ifc t x u _ ih=>exact .ifc t x u ih
 | mref i b h=>exact .mref i b (hle.ι _ _ h)
 | rel d b o u hG _ ih=>exact .rel d b o u (hle.G _ _ _ hG) ih
 | bad u=>exact .bad u
structure Box where
 cells:List D
 e:TypeId
 fz:Bool
 ap:Bool:=false
 m:Bool:=false
def natV:Value→Nat
 | .int _ n=>n.toNat
 | _=>0
def kw:Nat→Nat
 | 0=>1
 | n+1=>n
def valOf (V:Nat) (l:List Value):Value:=match V with
 | 0=>l.headD undef
 | n+1=>.agg (l.take n).toArray
def entOf (K V:Nat) (l:List Value):MapEntry:=⟨valOf K l,valOf V (l.drop (kw K)),natV ((l.drop (kw K+kw V)).headD undef)⟩
def entsOf (K V:Nat):Nat→List Value→List MapEntry
 | 0,_=>[]
 | n+1,l=>entOf K V l :: entsOf K V n (l.drop (kw K+kw V+1))
def mapObj (K V:Nat) (l:List Value):Obj:=.map (entsOf K V ((l.length - 1) / (kw K+kw V+1)) (l.drop 1)).toArray (natV (l.headD undef))
def iterObj (l:List Value):Obj:=
 .mapIter (match l.headD undef with | .map b=>b | _=>none) (natV ((l.drop 1).headD undef)) ((l.drop 3).map natV).toArray (natV ((l.drop 2).headD undef))
def objOf (B:Box) (vs:Array Value):Obj:=
 if B.m=true then (if B.e=0 then iterObj (vs.toList.take B.cells.length) else mapObj ((B.e - 1) / 1000) ((B.e - 1) % 1000) (vs.toList.take B.cells.length))
 else .cells vs B.e (0,0)
theorem objOf_cells {B:Box} (vs:Array Value) (h:B.m=false):objOf B vs=.cells vs B.e (0,0):=by simp[objOf,h]
theorem objOf_congr {B B':Box} (vs:Array Value) (h1:B'.m=B.m) (h2:B'.e=B.e) (h3:B.m=true→B'.cells.length=B.cells.length):objOf B' vs=objOf B vs:=by
 unfold objOf
 rw[h1,h2]
 split
 ·rename_i h;rw[h3 h]
 ·rfl
structure St where
 box:List Box
 grp:List (Nat×TypeId)
structure Ctx where
 w0:World
 E0:Em
 X:Nat→Prop
 ms:List Deferred:=[]
structure BelowF (B:Nat) (w w':World):Prop extends Below B w w' where
 frz:∀ a,a.block<w.heap.size→w'.frozen? a=w.frozen? a
 drawn:w.drawn≤w'.drawn
theorem td {a b c:World} (h:b.tape=a.tape∧a.drawn≤b.drawn) (h':c.tape=b.tape∧b.drawn≤c.drawn):c.tape=a.tape∧a.drawn≤c.drawn:=⟨h'.1.trans h.1,Nat.le_trans h.2 h'.2⟩
def BK (P:Program) (B:Box) (vs:Array Value) (k:Option Nat):Prop:=B.ap=k.isSome∧∀ c0,k=some c0→∃ inf,P.info? B.e=some inf∧vs.size=c0*inf.size∧c0≤maxLen
structure HR (P:Program) (c:Ctx) (E:Em) (st:St) (w:World):Prop where
 os:w.os=c.w0.os
 tape:w.tape=c.w0.tape∧c.w0.drawn≤w.drawn
 output:w.output=c.w0.output∧∀ a,a.block<c.w0.heap.size→w.frozen? a=c.w0.frozen? a
 size:c.w0.heap.size≤w.heap.size
 old:∀ k,k<c.w0.heap.size→¬ c.X k→w.heap[k]? = c.w0.heap[k]?
 le:c.E0.le E
 gnew:∀ b o,b<c.w0.heap.size→¬ c.X b→E.G b o=c.E0.G b o
 gok:∀ b o u,E.G b o=some u→w.cell? ⟨b,o,none⟩=some u∧u.oneCell'=true
 box:∀ i b,E.ι i=some b→∃ B vs,st.box[i]? = some B∧w.heap[b]? = some (objOf B vs)∧B.cells.length≤vs.size ∧
  (∀ j,j<B.cells.length→RD E (B.cells.getD j default) (vs.getD j undef)∧(vs.getD j undef).oneCell'=true)∧(c.w0.heap.size≤b∨c.X b) ∧
  (B.fz=B.m∧BK P B vs (E.κ i))∧∀ o,E.G b o=none
 inj:∀ i j b,E.ι i=some b→E.ι j=some b→i=j
 grp:∀ g b cap cur,E.γ g=some (b,cap,cur)→∃ e vs inf,st.grp[g]? = some (cur,e)∧w.heap[b]? = some (.cells vs e (0,0))∧P.info? e=some inf ∧
  vs.size=cap*inf.size∧cur≤vs.size∧cap≤maxLen∧(c.w0.heap.size≤b∨c.X b)∧∀ o,cur≤o→E.G b o=none
 ginj:∀ g h b cap cur cap' cur',E.γ g=some (b,cap,cur)→E.γ h=some (b,cap',cur')→g=h
 apart:∀ i g b cap cur,E.ι i=some b→E.γ g≠some (b,cap,cur)
 dead:∀ i b,E.δ i=some b→∃ B,st.box[i]? = some B∧B.fz=true∧B.m=false
 kap:∀ i c0,E.κ i=some c0→∃ b,E.N i b
abbrev Env:=List (Nat×D)
def Env.get:Env→Nat→D
 | [],_=>.bad
 | (k,d) :: r,t=>if k=t then d else Env.get r t
def RE (c:Ctx) (E:Em) (n:Nat) (ρ:Env) (a:Act):Prop:=(a.defers=c.ms∧GLB E.G)∧a.tmps.size=n∧∀ t,RD E (ρ.get t) (a.tmps.getD t undef)
theorem RE.mono {c:Ctx} {E E':Em} {n:Nat} {ρ:Env} {a:Act} (hle:E.le E') (h:RE c E n ρ a):RE c E' n ρ a:=⟨⟨h.1.1,h.1.2.mono hle.G⟩,h.2.1,fun t=>(h.2.2 t).mono hle⟩
theorem RE.put {c:Ctx} {E:Em} {n:Nat} {ρ:Env} {a:Act} (h:RE c E n ρ a) {d:Nat} (hd:d<n) {x:D} {u:Value} (hx:RD E x u):RE c E n ((d,x) :: ρ) (a.put (some d) u):=by
 refine ⟨h.1,by simp[Act.put,h.2.1],fun t=>?_⟩
 simp only[Env.get,Act.put]
 split
 ·rename_i e
  subst e
  simp[h.2.1,hd,hx]
 ·rename_i e
  have:=h.2.2 t
  simpa [Array.getElem?_setIfInBounds_ne e] using this
end Go.Ab
namespace Go.Ab
def cstP:Value→PD
 | .slice none 0 0=>.sl (some true) 0 []
 | .agg cs=>.agg (cs.toList.map PD.v)
 | v=>.v v
def ev (ρ:Env):Operand→D
 | .tmp t=>ρ.get t
 | .const v=>.p (cstP v)
 | .global g=>(match gkCells g with
  | []=>.p (.v (.pointer (some ⟨g,0,none⟩)))
  | c :: cs=>.el (c :: cs))
 | .func f=>.fn (.func f) [] []
def allP:List D→Option (List PD)
 | []=>some []
 | .p x :: r=>(allP r).map (x :: ·)
 | _ :: _=>none
def mkAgg (ds:List D):D:=match allP ds with | some ps=>.p (.agg ps) | none=>.agg ds
def mkTup (ds:List D):D:=match allP ds with | some ps=>.p (.tup ps) | none=>.tup ds
def cellsD:D→List D
 | .p (.agg ps)=>ps.map .p
 | .agg ds=>ds
 | d=>[d]
def toP:D→Option PD
 | .p x=>some x
 | .grp _ n cells=>some (.sl (some false) n cells)
 | .agg ds=>(allP ds).map .agg
 | _=>none
def sBin (op:BinOp) (x y:Value) (K:Value→Prop):Prop:=
 match x,y with
 | .int k a,.int k' b=>
  match op with
  | .add=>k=k'∧K (.int k (k.wrap (a+b)))
  | .sub=>k=k'∧K (.int k (k.wrap (a - b)))
  | .mul=>k=k'∧K (.int k (k.wrap (a*b)))
  | .quo=>k=k'∧b≠0∧K (.int k (k.wrap (a.tdiv b)))
  | .rem=>k=k'∧b≠0∧K (.int k (a.tmod b))
  | .and=>k=k'∧K (.int k (k.wrap (BitVec.ofInt k.bits a &&& BitVec.ofInt k.bits b).toNat))
  | .or=>k=k'∧K (.int k (k.wrap (BitVec.ofInt k.bits a ||| BitVec.ofInt k.bits b).toNat))
  | .xor=>k=k'∧K (.int k (k.wrap (BitVec.ofInt k.bits a ^^^ BitVec.ofInt k.bits b).toNat))
  | .andNot=>k=k'∧K (.int k (k.wrap (BitVec.ofInt k.bits a &&& ~~~(BitVec.ofInt k.bits b)).toNat))
  | .shl=>0≤b∧K (.int k (k.wrap (a*2 ^ (min b.toNat k.bits))))
  | .shr=>0≤b∧K (.int k (a.fdiv (2 ^ (min b.toNat k.bits))))
  | .eql=>k=k'∧K (.bool (a == b))
  | .neq=>k=k'∧K (.bool (a != b))
  | .lss=>k=k'∧K (.bool (decide (a<b)))
  | .leq=>k=k'∧K (.bool (decide (a≤b)))
  | .gtr=>k=k'∧K (.bool (decide (a>b)))
  | .geq=>k=k'∧K (.bool (decide (a≥b)))
 | _,_=>False
def sEqK:Bool→Value→Value→Option Bool
 | false,.int k a,.int k' b=>if k=k' then some (a == b) else none
 | true,.bool a,.bool b=>some (a == b)
 | _,_,_=>none
def psEq:List Bool→List PD→List PD→Option Bool
 | [],[],[]=>some true
 | k :: ks,.v x :: xs,.v y :: ys=>match sEqK k x y,psEq ks xs ys with | some a,some b=>some (a && b) | _,_=>none
 | _,_,_=>none
def oneP:PD→Bool
 | .v x=>x.oneCell'
 | .sl ..=>true
 | _=>false
def oneD:D→Bool
 | .p x=>oneP x
 | .agg _ | .tup _ | .bad=>false
 | _=>true
def putCells (cells:List D) (off:Nat) (new:List D):List D:=cells.take off ++ new ++ cells.drop (off+new.length)
def fillD (cells:List D):List (Nat×Nat×D)→Option (List D)
 | []=>some cells
 | (off,size,d) :: r=>if (cellsD d).length=size∧off+size≤cells.length∧(cellsD d).all oneD=true then fillD (putCells cells off (cellsD d)) r else none
inductive MOp where
 | mk (K V:Nat)
 | look (ok:Bool) (V:Nat) (zero:List D) (x i:Operand)
 | upd (V:Nat) (x k v:Operand)
 | del (V:Nat) (x k:Operand)
 | len (K V:Nat) (x:Operand)
 | rng (K V:Nat) (x:Operand)
 | nxt (K V:Nat) (x:Operand)
 | ent (K V:Nat) (x:Operand)
 | eqN (neg:Bool) (x y:Operand)
 | frz (size:Nat) (x:Operand)
 | ldF (size k esz i:Nat) (x:Operand)
 | lit0 (e:TypeId)
 | apn (e:TypeId) (size bytes:Nat) (s x:Operand)
 | capN (x:Operand)
 | apz (e:TypeId) (size bytes:Nat) (zero:List D) (s x:Operand)
 | apf (e:TypeId) (size bytes:Nat) (s x:Operand)
inductive AOp where
 | mv (x:Operand)
 | pick (c a b:Operand)
 | bin (op:BinOp) (x y:Operand)
 | binB (neg:Bool) (x y:Operand)
 | eqA (ks:List Bool) (neg:Bool) (x y:Operand)
 | eqN (neg:Bool) (x y:Operand)
 | eqP (neg:Bool) (x y:Operand)
 | un (op:UnOp) (x:Operand)
 | conv (k:IntKind) (x:Operand)
 | len (x:Operand)
 | idx (size:Nat) (x i:Operand)
 | idxA (len size:Nat) (x i:Operand)
 | load (x:Operand)
 | loadA (size:Nat) (x:Operand)
 | store (size:Nat) (a x:Operand)
 | alloc (e:TypeId) (zero:List D)
 | allocL (e:TypeId) (lay:List (Nat×Value))
 | box (e:TypeId) (x:Operand)
 | build (zero:List D) (parts:List (Nat×Nat×Operand))
 | bslice (own:Bool) (e:TypeId) (n size:Nat) (zero:List D) (parts:List (Nat×Nat×Operand))
 | append (e:TypeId) (size bytes:Nat) (s x:Operand)
 | mslice (e:TypeId) (size bytes:Nat) (zero:List D) (l c:Operand)
 | slice (size:Nat) (x:Operand) (lo hi:Option Operand)
 | extract (x:Operand) (i:Nat)
 | call (f:FuncId) (args:List Operand)
 | callv (x:Operand) (args:List Operand)
 | fieldA (off:Nat) (x:Operand)
 | field (off:Nat) (size:Option Nat) (x:Operand)
 | index (len size:Nat) (agg:Bool) (x i:Operand)
 | nilck (x:Operand)
 | mkfn (f:Fn) (first captured:List Operand)
 | minmax (max:Bool) (args:List Operand)
 | mkifc (t:TypeId) (x:Operand)
 | bsliceM (e:TypeId) (n size:Nat) (zero:List D) (parts:List (Nat×Nat×Operand))
 | sliceA (len size:Nat) (x:Operand)
 | msliceP (e:TypeId) (size bytes:Nat) (zero:List D) (l c:Operand)
 | copy (size:Nat) (d s:Operand)
 | tassert (t:TypeId) (ok:Bool) (x:Operand)
 | invk (tbl:List (TypeId×FuncId×Bool)) (x:Operand) (args:List Operand)
 | mop (m:MOp)
abbrev CallW:=FuncId→List D→St→(D→St→Prop)→Prop
def lookT:List (TypeId×FuncId×Bool)→TypeId→Option (FuncId×Bool)
 | [],_=>none
 | (t,r) :: l,u=>if Nat.beq t u then some r else lookT l u
def layD (lay:List (Nat×Value)):List D:=lay.flatMap fun q=>List.replicate q.1 (.p (cstP q.2))
def srcP (st:St) (size:Nat):D→Option PD
 | .ms b off m=>match st.box[b]? with
  | some B=>if B.fz=false∧off+m*size≤B.cells.length then (allP ((B.cells.drop off).take (m*size))).map (.sl (some false) m) else none
  | none=>none
 | d=>toP d
def findD (w:Nat) (k:Value):Nat→List D→Nat→Option (Option (Nat×List D))
 | 0,_,_=>some none
 | n+1,l,i=>match l with
  | .p (.v k') :: r=>match sEqK false k k' with
   | some true=>some (some (i,r))
   | some false=>findD w k n (r.drop w) (i+1)
   | none=>none
  | _=>none
def mapBox (st:St) (K V:Nat) (d:D) (F:Nat→Box→Prop):Prop:=match d with
 | .mref b=>match st.box[b]? with
  | some B=>B.m=true∧B.ap=false∧B.e=1+1000*K+V∧V<1000∧F b B
  | none=>False
 | _=>False
def valD (V:Nat) (l:List D):D:=match V with
 | 0=>l.headD .bad
 | n+1=>mkAgg (l.take n)
def natD:D→Option Nat
 | .p (.v (.int .i64 n))=>if 0≤n then some n.toNat else none
 | _=>none
def intD (n:Nat):D:=.p (.v (.int .i64 n))
def entsD (w:Nat):Nat→List D→Option (List (List D×Nat))
 | 0,_=>some []
 | n+1,l=>match natD ((l.drop w).headD .bad),entsD w n (l.drop (w+1)) with
  | some b,some r=>some ((l.take w,b) :: r)
  | _,_=>none
def natsD:List D→Option (List Nat)
 | []=>some []
 | d :: l=>match natD d,natsD l with | some n,some r=>some (n :: r) | _,_=>none
def valOK:Nat→D→Bool
 | 0,d=>oneD d
 | _+1,.p (.agg _)=>true
 | _+1,.agg _=>true
 | _,_=>false
def emptyD:D→Option D
 | .p .z0=>some (.p (.sl (some false) 0 []))
 | .p (.sl (some true) _ _)=>some (.p (.sl (some true) 0 []))
 | _=>none
def wpM (ρ:Env) (st:St) (K:D→St→Prop):MOp→Prop
 | .lit0 _=>K (.p .z0) st
 | .apn e size bytes s x=>match srcP st size (ev ρ x),emptyD (ev ρ s) with
  | some (.sl _ m new),some d=>new.length=m*size∧m*bytes≤140737488355328∧m≤maxLen ∧
    (if m=0 then K d st else K (.ms st.box.length 0 m) { st with box:=st.box ++ [{ cells:=new.map .p,e:=e,fz:=false,ap:=true }] })
  | _,_=>False
 | .apz e size bytes zero s x=>match emptyD (ev ρ s),ev ρ x with
  | some d,.p (.v (.int .i64 m))=>0≤m∧m*bytes≤140737488355328∧m≤maxLen ∧
    (if m=0 then K d st else K (.ms st.box.length 0 m.toNat) { st with box:=st.box ++ [{ cells:=(List.replicate m.toNat zero).flatten,e:=e,fz:=false,ap:=true }] })
  | _,_=>False
 | .apf e size bytes s x=>match srcP st size (ev ρ x),emptyD (ev ρ s) with
  | some (.sl _ m new),some _=>new.length=m*size∧m*bytes≤140737488355328∧m≤maxLen∧K (.p (.sl none m new)) st
  | _,_=>False
 | .capN x=>match ev ρ x with
  | .p (.sl (some true) _ _)=>K (intD 0) st
  | _=>False
 | .ldF size k esz i x=>match ev ρ x with
  | .ptr b off=>(match st.box[b]? with
   | some B=>B.fz=false∧B.m=false∧off+size≤B.cells.length∧k<size∧i≠b∧(match B.cells[off+k]?,st.box[i]? with
    | some (.ms j 0 n),some A=>j=i∧A.fz=false∧A.m=false∧(match allP (A.cells.take (n*esz)) with
     | some cs=>K (mkAgg (((B.cells.set (off+k) (.p (.sl (some false) n cs))).drop off).take size)) { st with box:=(st.box.set i { A with cells:=[],fz:=true }).set b { B with cells:=B.cells.set (off+k) (.p (.sl (some false) n cs)) } }
     | none=>False)
    | _,_=>False)
   | none=>False)
  | _=>False
 | .frz size x=>match ev ρ x with
  | .ms b 0 n=>(match st.box[b]? with
   | some B=>B.fz=false∧B.m=false∧(match allP (B.cells.take (n*size)) with
    | some cs=>K (.p (.sl (some false) n cs)) { st with box:=st.box.set b { B with cells:=[],fz:=true } }
    | none=>False)
   | none=>False)
  | _=>False
 | .mk kk vv=>vv<1000∧K (.mref st.box.length) { st with box:=st.box ++ [{ cells:=[intD 0],e:=1+1000*kk+vv,fz:=true,m:=true }] }
 | .look ok V zero x i=>match ev ρ i with
  | .p (.v (.int q k))=>(match ev ρ x with
   | .p (.v (.map none))=>K (if ok=true then mkTup [valD V zero,.p (.v (.bool false))] else valD V zero) st
   | d=>mapBox st 0 V d fun _ B=>match findD (kw V+1) (.int q k) ((B.cells.length - 1) / (kw V+2)) (B.cells.drop 1) 0 with
    | some (some (_,r))=>kw V≤r.length∧K (if ok=true then mkTup [valD V r,.p (.v (.bool true))] else valD V r) st
    | some none=>K (if ok=true then mkTup [valD V zero,.p (.v (.bool false))] else valD V zero) st
    | none=>False)
  | _=>False
 | .upd V x kx vx=>match ev ρ kx with
  | .p (.v (.int q k))=>mapBox st 0 V (ev ρ x) fun b B=>valOK V (ev ρ vx)=true∧(cellsD (ev ρ vx)).length=kw V∧(cellsD (ev ρ vx)).all oneD=true∧B.cells.length=1+(B.cells.length - 1) / (kw V+2)*(kw V+2) ∧
    (match findD (kw V+1) (.int q k) ((B.cells.length - 1) / (kw V+2)) (B.cells.drop 1) 0 with
    | some (some (i,_))=>K (.p (.v undef)) { st with box:=st.box.set b { B with cells:=putCells B.cells (2+i*(kw V+2)) (cellsD (ev ρ vx)) } }
    | some none=>(match natD (B.cells.headD .bad) with
     | some c=>K (.p (.v undef)) { st with box:=st.box.set b { B with cells:=(intD (c+1) :: B.cells.drop 1) ++ .p (.v (.int q k)) :: cellsD (ev ρ vx) ++ [intD c] } }
     | none=>False)
    | none=>False)
  | _=>False
 | .del V x kx=>match ev ρ kx with
  | .p (.v (.int q k))=>mapBox st 0 V (ev ρ x) fun b B=>B.cells.length=1+(B.cells.length - 1) / (kw V+2)*(kw V+2) ∧
    (match findD (kw V+1) (.int q k) ((B.cells.length - 1) / (kw V+2)) (B.cells.drop 1) 0 with
    | some (some (i,_))=>K (.p (.tup [])) { st with box:=st.box.set b { B with cells:=B.cells.take (1+i*(kw V+2)) ++ B.cells.drop (1+(i+1)*(kw V+2)) } }
    | some none=>K (.p (.tup [])) st
    | none=>False)
  | _=>False
 | .len kk vv x=>match ev ρ x with
  | .p (.v (.map none))=>K (intD 0) st
  | d=>mapBox st kk vv d fun _ B=>K (intD ((B.cells.length - 1) / (kw kk+kw vv+1))) st
 | .rng kk vv x=>match ev ρ x with
  | .p (.v (.map none))=>K (.ptr st.box.length 0) { st with box:=st.box ++ [{ cells:=[.p (.v (.map none)),intD 0,intD 0],e:=0,fz:=true,m:=true }] }
  | d=>mapBox st kk vv d fun _ B=>match natD (B.cells.headD .bad) with
   | some c=>K (.ptr st.box.length 0) { st with box:=st.box ++ [{ cells:=[d,intD c,intD c],e:=0,fz:=true,m:=true }] }
   | none=>False
 | .nxt kk vv x=>match ev ρ x with
  | .ptr i 0=>(match st.box[i]? with
   | some I=>I.m=true∧I.ap=false∧I.e=0∧(match I.cells with
    | .p (.v (.map none)) :: _ :: _ :: _=>K (mkTup [.p (.v (.bool false))]) st
    | d :: s :: l :: seen=>mapBox st kk vv d fun _ B=>
      (match natD (B.cells.headD .bad),entsD (kw kk+kw vv) ((B.cells.length - 1) / (kw kk+kw vv+1)) (B.cells.drop 1),natD s,natD l,natsD seen with
      | some c,some es,some s,some l,some sn=>c=l∧s≤c∧(∀ q∈es,q.2<s) ∧
        ((es.all fun q=>sn.contains q.2)=true→K (mkTup [.p (.v (.bool false))]) st) ∧
        ∀ q∈es,sn.contains q.2=false →
         K (mkTup [.p (.v (.bool true)),valD kk q.1,valD vv (q.1.drop (kw kk))]) { st with box:=st.box.set i { I with cells:=I.cells ++ [intD q.2] } }
      | _,_,_,_,_=>False)
    | _=>False)
   | none=>False)
  | _=>False
 | .ent kk vv x=>match ev ρ x with
  | .ptr i 0=>(match st.box[i]? with
   | some I=>I.m=true∧I.ap=false∧I.e=0∧(match I.cells with
    | d :: _ :: l :: seen=>mapBox st kk vv d fun _ B=>
      (match natD (B.cells.headD .bad),entsD (kw kk+kw vv) ((B.cells.length - 1) / (kw kk+kw vv+1)) (B.cells.drop 1),natD l,natsD seen with
      | some c,some es,some l,some sn=>c=l∧(match sn.getLast? with
       | some b=>(match es.find? fun q=>q.2 == b with
        | some q=>K (mkTup [valD kk q.1,valD vv (q.1.drop (kw kk))]) st
        | none=>False)
       | none=>False)
      | _,_,_,_=>False)
    | _=>False)
   | none=>False)
  | _=>False
 | .eqN neg x y=>match ev ρ x,ev ρ y with
  | .mref _,.p (.v (.map none))=>K (.p (.v (.bool neg))) st
  | .p (.v (.map none)),.p (.v (.map none))=>K (.p (.v (.bool (!neg)))) st
  | _,_=>False
def onesK (k:IntKind):Int:=if k.signed then -1 else k.max
def wpOp (C:CallW) (ρ:Env) (st:St) (K:D→St→Prop):AOp→Prop
 | .mv x=>K (ev ρ x) st
 | .pick c a b=>match ev ρ c with | .p (.v (.bool t))=>(t=true→K (ev ρ a) st)∧(t=false→K (ev ρ b) st) | _=>False
 | .bin op x y=>match ev ρ x,ev ρ y with
  | .p (.v a),.p (.v b)=>sBin op a b fun r=>K (.p (.v r)) st
  | _,_=>False
 | .binB neg x y=>match ev ρ x,ev ρ y with
  | .p (.v (.bool a)),.p (.v (.bool b))=>K (.p (.v (.bool ((a == b) ^^ neg)))) st
  | _,_=>False
 | .eqA ks neg x y=>match toP (ev ρ x),toP (ev ρ y) with
  | some (.agg xs),some (.agg ys)=>∃ b,psEq ks xs ys=some b∧K (.p (.v (.bool (b ^^ neg)))) st
  | _,_=>False
 | .eqN neg x y=>match ev ρ x,ev ρ y with
  | .p (.sl (some nl) _ _),.p (.sl (some true) _ _)=>K (.p (.v (.bool (nl ^^ neg)))) st
  | .grp _ _ _,.p (.sl (some true) _ _)=>K (.p (.v (.bool neg))) st
  | .ms _ _ _,.p (.sl (some true) _ _)=>K (.p (.v (.bool neg))) st
  | _,_=>False
 | .eqP neg x y=>match ev ρ x,ev ρ y with
  | .ptr _ _,.p (.v (.pointer none))=>K (.p (.v (.bool neg))) st
  | .el _,.p (.v (.pointer none))=>K (.p (.v (.bool neg))) st
  | .p (.v (.pointer none)),.p (.v (.pointer none))=>K (.p (.v (.bool (!neg)))) st
  | _,_=>False
 | .un op x=>match op,ev ρ x with
  | .not,.p (.v (.bool b))=>K (.p (.v (.bool (!b)))) st
  | .neg,.p (.v (.int k n))=>K (.p (.v (.int k (k.wrap (0 - n))))) st
  | .xor,.p (.v (.int k n))=>K (.p (.v (.int k (k.wrap (BitVec.ofInt k.bits (onesK k) ^^^ BitVec.ofInt k.bits n).toNat)))) st
  | _,_=>False
 | .conv k x=>match ev ρ x with | .p (.v (.int _ n))=>K (.p (.v (.int k (k.wrap n)))) st | _=>False
 | .len x=>match ev ρ x with
  | .p (.sl _ n _)=>K (.p (.v (.int .i64 n))) st
  | .grp _ n _=>K (.p (.v (.int .i64 n))) st
  | .ms _ _ n=>K (.p (.v (.int .i64 n))) st
  | _=>False
 | .idx size x i=>match ev ρ x,ev ρ i with
  | .p (.sl _ n cells),.p (.v (.int _ k))=>0≤k∧k<n∧K (.el (cells.drop (k.toNat*size))) st
  | .grp _ n cells,.p (.v (.int _ k))=>0≤k∧k<n∧K (.el (cells.drop (k.toNat*size))) st
  | .ms b off n,.p (.v (.int _ k))=>0≤k∧k<n∧K (.ptr b (off+k.toNat*size)) st
  | _,_=>False
 | .idxA len size x i=>match ev ρ x,ev ρ i with
  | .ptr b off,.p (.v (.int _ k))=>0≤k∧k<len∧K (.ptr b (off+k.toNat*size)) st
  | .el cells,.p (.v (.int _ k))=>0≤k∧k<len∧K (.el (cells.drop (k.toNat*size))) st
  | _,_=>False
 | .load x=>match ev ρ x with
  | .el cells=>∃ c,cells[0]? = some c∧K (.p c) st
  | .rel d=>K d st
  | .ptr b off=>match st.box[b]? with | some B=>B.fz=false∧∃ d,B.cells[off]? = some d∧K d st | none=>False
  | _=>False
 | .loadA size x=>match ev ρ x with
  | .el cells=>size≤cells.length∧K (.p (.agg (cells.take size))) st
  | .ptr b off=>match st.box[b]? with | some B=>B.fz=false∧off+size≤B.cells.length∧K (mkAgg ((B.cells.drop off).take size)) st | none=>False
  | _=>False
 | .store size a x=>match ev ρ a with
  | .ptr b off=>match st.box[b]? with
   | some B=>B.fz=false∧(cellsD (ev ρ x)).length=size∧off+size≤B.cells.length∧(cellsD (ev ρ x)).all oneD=true ∧
     K (.p (.v undef)) { st with box:=st.box.set b { B with cells:=putCells B.cells off (cellsD (ev ρ x)) } }
   | none=>False
  | _=>False
 | .alloc e zero=>K (.ptr st.box.length 0) { st with box:=st.box ++ [{ cells:=zero,e:=e,fz:=false }] }
 | .allocL e lay=>K (.ptr st.box.length 0) { st with box:=st.box ++ [{ cells:=layD lay,e:=e,fz:=false }] }
 | .box e x=>(cellsD (ev ρ x)).all oneD=true∧K (.ptr st.box.length 0) { st with box:=st.box ++ [{ cells:=cellsD (ev ρ x),e:=e,fz:=false }] }
 | .build zero parts=>match fillD zero (parts.map fun (o,s,x)=>(o,s,ev ρ x)) with | some cs=>K (mkAgg cs) st | none=>False
 | .bslice own e n _ zero parts=>match (fillD ((List.replicate n zero).flatten) (parts.map fun (o,s,x)=>(o,s,ev ρ x))).bind allP with
  | some cs=>if own then K (.grp st.grp.length n cs) { st with grp:=st.grp ++ [(cs.length,e)] } else K (.p (.sl (some false) n cs)) st
  | none=>False
 | .append e size bytes s x=>match srcP st size (ev ρ x) with
  | some (.sl _ m new)=>new.length=m*size∧(match ev ρ s with
   | .p (.sl (some true) _ _)=>m*bytes≤140737488355328∧m≤maxLen ∧
     ((if m=0 then K (.p (.sl (some true) 0 [])) st else K (.grp st.grp.length m new) { st with grp:=st.grp ++ [(new.length,e)] }) ∨
      (∃ (g:Nat) (st1:St),(st1=st∨st1={ st with grp:=st.grp ++ [(0,e)] })∧st1.grp[g]? = some (0,e) ∧
       K (if m=0 then .p (.sl (some true) 0 []) else .grp g m new) { st1 with grp:=st1.grp.set g (new.length,e) }) ∨
      (0<m∧K (.ms st.box.length 0 m) { st with box:=st.box ++ [{ cells:=new.map .p,e:=e,fz:=false,ap:=true }] }))
   | .grp g n cells=>st.grp[g]? = some (cells.length,e)∧cells.length=n*size∧(n+m)*bytes≤140737488355328∧n+m≤maxLen ∧
     K (.grp g (n+m) (cells ++ new)) { st with grp:=st.grp.set g ((cells ++ new).length,e) }
   | .ms b off n=>(match st.box[b]? with
    | some B=>off=0∧B.fz=false∧B.ap=true∧B.e=e∧n*size≤B.cells.length∧(n+m)*bytes≤140737488355328∧n+m≤maxLen ∧
      ((if m=0 then K (.ms b 0 n) st else K (.ms st.box.length 0 (n+m))
       { st with box:=st.box.set b { B with cells:=[],fz:=true } ++ [{ cells:=B.cells.take (n*size) ++ new.map .p,e:=e,fz:=false,ap:=true }] }) ∨
      K (.ms st.box.length 0 (n+m)) { st with box:=st.box.set b { B with cells:=[],fz:=true } ++ [{ cells:=B.cells.take (n*size) ++ new.map .p,e:=e,fz:=false,ap:=true }] })
    | none=>False)
   | _=>False)
  | _=>False
 | .mslice e _ bytes zero l c=>match ev ρ l,ev ρ c with
  | .p (.v (.int _ n)),.p (.v (.int _ m))=>0≤n∧n≤m∧m*bytes≤281474976710656∧m≤maxLen ∧
    K (.ms st.box.length 0 n.toNat) { st with box:=st.box ++ [{ cells:=(List.replicate m.toNat zero).flatten,e:=e,fz:=false,ap:=true }] }
  | _,_=>False
 | .slice size x lo hi=>match ev ρ x with
  | .p (.sl nl n cells)=>match lo.map (ev ρ),hi.map (ev ρ) with
   | none,none=>K (.p (.sl nl n cells)) st
   | some (.p (.v (.int _ a))),none=>0≤a∧a≤n∧cells.length=n*size∧K (.p (.sl nl (n - a.toNat) (cells.drop (a.toNat*size)))) st
   | none,some (.p (.v (.int _ b)))=>0≤b∧b≤n∧cells.length=n*size∧K (.p (.sl nl b.toNat (cells.take (b.toNat*size)))) st
   | some (.p (.v (.int _ a))),some (.p (.v (.int _ b)))=>0≤a∧a≤b∧b≤n∧cells.length=n*size ∧
     K (.p (.sl nl (b.toNat - a.toNat) ((cells.take (b.toNat*size)).drop (a.toNat*size)))) st
   | _,_=>False
  | .grp g n cells=>match lo.map (ev ρ),hi.map (ev ρ) with
   | none,none=>K (.grp g n cells) st
   | some (.p (.v (.int _ a))),none=>0≤a∧a≤n∧cells.length=n*size∧K (.p (.sl (some false) (n - a.toNat) (cells.drop (a.toNat*size)))) st
   | none,some (.p (.v (.int _ b)))=>0≤b∧b≤n∧cells.length=n*size∧K (.p (.sl (some false) b.toNat (cells.take (b.toNat*size)))) st
   | some (.p (.v (.int _ a))),some (.p (.v (.int _ b)))=>0≤a∧a≤b∧b≤n∧cells.length=n*size ∧
     K (.p (.sl (some false) (b.toNat - a.toNat) ((cells.take (b.toNat*size)).drop (a.toNat*size)))) st
   | _,_=>False
  | .ms b off n=>match lo.map (ev ρ),hi.map (ev ρ) with
   | none,none=>K (.ms b off n) st
   | some (.p (.v (.int _ a))),none=>0≤a∧a<n∧0<size∧K (.ms b (off+a.toNat*size) (n - a.toNat)) st
   | none,some (.p (.v (.int _ k)))=>0≤k∧k≤n∧K (.ms b off k.toNat) st
   | some (.p (.v (.int _ a))),some (.p (.v (.int _ k)))=>0≤a∧a<k∧k≤n∧0<size∧K (.ms b (off+a.toNat*size) (k.toNat - a.toNat)) st
   | _,_=>False
  | _=>False
 | .extract x i=>match ev ρ x with
  | .p (.tup ps)=>match ps[i]? with | some p=>K (.p p) st | none=>False
  | .tup ds=>match ds[i]? with | some d=>K d st | none=>False
  | _=>False
 | .call f args=>C f (args.map (ev ρ)) st K
 | .callv x args=>match ev ρ x with
  | .fn (.func f) first captured=>C f (first ++ args.map (ev ρ) ++ captured) st K
  | _=>False
 | .fieldA off x=>match ev ρ x with
  | .ptr b o=>K (.ptr b (o+off)) st
  | .el cells=>K (.el (cells.drop off)) st
  | _=>False
 | .field off size x=>match ev ρ x with
  | .p (.agg ps)=>(match size with
   | none=>∃ c,ps[off]? = some c∧K (.p c) st
   | some s=>off+s≤ps.length∧K (.p (.agg ((ps.drop off).take s))) st)
  | .agg ds=>(match size with
   | none=>∃ c,ds[off]? = some c∧K c st
   | some s=>off+s≤ds.length∧K (mkAgg ((ds.drop off).take s)) st)
  | _=>False
 | .index len size agg x i=>match ev ρ x,ev ρ i with
  | .p (.agg ps),.p (.v (.int _ k))=>0≤k∧k<len∧(if agg then k.toNat*size+size≤ps.length∧K (.p (.agg ((ps.drop (k.toNat*size)).take size))) st
    else ∃ c,ps[k.toNat*size]? = some c∧K (.p c) st)
  | .agg ds,.p (.v (.int _ k))=>0≤k∧k<len∧agg=false∧∃ c,ds[k.toNat*size]? = some c∧K c st
  | _,_=>False
 | .nilck x=>match ev ρ x with | .ptr b o=>K (.ptr b o) st | .el cells=>K (.el cells) st | _=>False
 | .mkfn f first captured=>K (.fn f (first.map (ev ρ)) (captured.map (ev ρ))) st
 | .minmax mx args=>match args.map (ev ρ) with
  | [.p (.v (.int k a)),.p (.v (.int k' b))]=>k=k'∧K (.p (.v (.int k (if mx then (if b>a then b else a) else (if b<a then b else a))))) st
  | _=>False
 | .mkifc t x=>K (.ifc t (ev ρ x)) st
 | .bsliceM e n _ zero parts=>match fillD ((List.replicate n zero).flatten) (parts.map fun (o,s,x)=>(o,s,ev ρ x)) with
  | some cs=>K (.ms st.box.length 0 n) { st with box:=st.box ++ [{ cells:=cs,e:=e,fz:=false,ap:=true }] }
  | none=>False
 | .msliceP _ _ bytes zero l c=>match ev ρ l,ev ρ c,allP zero with
  | .p (.v (.int _ n)),.p (.v (.int _ m)),some zs=>0≤n∧n≤m∧m*bytes≤281474976710656∧m≤maxLen∧K (.p (.sl (some false) n.toNat (List.replicate n.toNat zs).flatten)) st
  | _,_,_=>False
 | .sliceA len size x=>match ev ρ x with
  | .ptr b off=>(match st.box[b]? with
   | some B=>B.fz=false∧B.ap=false∧K (.ms b off len) st
   | none=>False)
  | .el cells=>len*size≤cells.length∧K (.p (.sl (some false) len (cells.take (len*size)))) st
  | _=>False
 | .copy size d s=>match srcP st size (ev ρ s),ev ρ d with
  | some (.sl _ m cells),.ms b off n=>(match st.box[b]? with
   | some B=>B.fz=false∧cells.length=m*size∧off+min m n*size≤B.cells.length ∧
     K (.p (.v (.int .i64 (min m n:Nat)))) { st with box:=st.box.set b { B with cells:=putCells B.cells off ((cells.take (min m n*size)).map .p) } }
   | none=>False)
  | _,_=>False
 | .tassert t ok x=>match ev ρ x with
  | .ifc u d=>u=t∧K (if ok=true then mkTup [d,.p (.v (.bool true))] else d) st
  | _=>False
 | .invk tbl x args=>match ev ρ x with
  | .ifc t d=>(match lookT tbl t with
   | some (f,false)=>C f (d :: args.map (ev ρ)) st K
   | some (f,true)=>(match d with
    | .ptr b off=>(match st.box[b]? with
     | some B=>B.fz=false∧∃ d',B.cells[off]? = some d'∧C f (d' :: args.map (ev ρ)) st K
     | none=>False)
    | _=>False)
   | none=>False)
  | _=>False
 | .mop m=>wpM ρ st K m
end Go.Ab
namespace Go.Ab
open Go.RowKit
def aggT:TypeDesc→Bool
 | .struct _ | .array _ _=>true
 | _=>false
def ifcT:TypeDesc→Bool
 | .interface _=>true
 | _=>false
theorem RP.v_inv {G:Mem} {x u:Value} (h:RP G (.v x) u):u=x:=by cases h;rfl
theorem RD.v_inv {E:Em} {x u:Value} (h:RD E (.p (.v x)) u):u=x:=by cases h with | p _ _ h=>exact h.v_inv
theorem RD.ptr_inv {E:Em} {i off:Nat} {u:Value} (h:RD E (.ptr i off) u):∃ b,E.N i b∧u=.pointer (some ⟨b,off,none⟩):=by cases h with | ptr _ _ b h=>exact ⟨b,h,rfl⟩
theorem RD.el_inv {E:Em} {cells:List PD} {u:Value} (h:RD E (.el cells) u):∃ (b o:Nat) (us:Nat→Value),u=.pointer (some ⟨b,o,none⟩)∧(∀ i,i<cells.length→E.G b (o+i)=some (us i)) ∧
  ∀ i,i<cells.length→RP E.G (cells.getD i default) (us i):=by cases h with | el _ b o us hG hR=>exact ⟨b,o,us,rfl,hG,hR⟩
theorem RD.rel_inv {E:Em} {d:D} {v:Value} (h:RD E (.rel d) v):∃ (b o:Nat) (u:Value),v=.pointer (some ⟨b,o,none⟩)∧E.G b o=some u∧RD E d u:=by
 cases h with | rel _ b o u hG h=>exact ⟨b,o,u,rfl,hG,h⟩
theorem RP.sl_inv {G:Mem} {nl:Option Bool} {n:Nat} {cells:List PD} {u:Value} (h:RP G (.sl nl n cells) u) :
  (u=.slice none 0 0∧n=0∧cells=[]∧nl≠some false)∨∃ (b o:Nat) (sp:Option Nat) (cap:Nat) (us:Nat→Value),u=.slice (some ⟨b,o,sp⟩) n cap∧n≤cap∧nl≠some true∧(∀ i,i<cells.length→G b (o+i)=some (us i)) ∧
   (∀ i,i<cells.length→RP G (cells.getD i default) (us i))∧(sp=none∨n=0):=by
 cases h with
 | nil _ h=>exact .inl ⟨rfl,rfl,rfl,h⟩
 | sl' _ _ _ b o cap us sp h hc hG hR hs=>exact .inr ⟨b,o,sp,cap,us,rfl,hc,h,hG,hR,hs⟩
theorem RP.agg_inv {G:Mem} {cells:List PD} {u:Value} (h:RP G (.agg cells) u):∃ us:Array Value,u=.agg us∧us.size=cells.length ∧
  ∀ i,i<cells.length→RP G (cells.getD i default) (us.getD i undef):=by cases h with | agg _ us hs hR=>exact ⟨us,rfl,hs,hR⟩
theorem RP.tup_inv {G:Mem} {cells:List PD} {u:Value} (h:RP G (.tup cells) u):∃ us:Array Value,u=.tuple us∧us.size=cells.length ∧
  ∀ i,i<cells.length→RP G (cells.getD i default) (us.getD i undef):=by cases h with | tup _ us hs hR=>exact ⟨us,rfl,hs,hR⟩
theorem RD.agg_inv {E:Em} {cells:List D} {u:Value} (h:RD E (.agg cells) u):∃ us:Array Value,u=.agg us∧us.size=cells.length ∧
  ∀ i,i<cells.length→RD E (cells.getD i default) (us.getD i undef):=by cases h with | agg _ us hs hR=>exact ⟨us,rfl,hs,hR⟩
theorem RD.tup_inv {E:Em} {cells:List D} {u:Value} (h:RD E (.tup cells) u):∃ us:Array Value,u=.tuple us∧us.size=cells.length ∧
  ∀ i,i<cells.length→RD E (cells.getD i default) (us.getD i undef):=by cases h with | tup _ us hs hR=>exact ⟨us,rfl,hs,hR⟩
theorem RD.p_inv {E:Em} {x:PD} {u:Value} (h:RD E (.p x) u):RP E.G x u:=by cases h with | p _ _ h=>exact h
theorem RD.grp_sl {E:Em} {g n:Nat} {cells:List PD} {u:Value} (h:RD E (.grp g n cells) u):RP E.G (.sl (some false) n cells) u:=by cases h;assumption
theorem RD.ms_inv {E:Em} {i off n:Nat} {u:Value} (h:RD E (.ms i off n) u):∃ b cap,E.N i b∧n≤cap∧(∀ c0,E.κ i=some c0→off=0→cap=c0)∧u=.slice (some ⟨b,off,none⟩) n cap:=by
 cases h with | ms _ _ _ b cap h hc hk=>exact ⟨b,cap,h,hc,hk,rfl⟩
theorem RD.fn_inv {E:Em} {f:Fn} {first captured:List D} {u:Value} (h:RD E (.fn f first captured) u):∃ us ws:Array Value,u=.func f us ws∧us.size=first.length∧ws.size=captured.length ∧
  (∀ i,i<first.length→RD E (first.getD i default) (us.getD i undef))∧(∀ i,i<captured.length→RD E (captured.getD i default) (ws.getD i undef)):=by
 cases h with | fn _ _ _ us ws hs ht hR hT=>exact ⟨us,ws,rfl,hs,ht,hR,hT⟩
theorem RD.ifc_inv {E:Em} {t:TypeId} {d:D} {u:Value} (h:RD E (.ifc t d) u):∃ v,u=.iface t v∧RD E d v:=by
 cases h with | ifc _ _ v h=>exact ⟨v,rfl,h⟩
theorem Addr.add_none (b o n:Nat):(⟨b,o,none⟩:Addr).add n=⟨b,o+n,none⟩:=by
 unfold Addr.add;split <;> simp_all
theorem getD_drop {α:Type} [Inhabited α] (l:List α) (m i:Nat):(l.drop m).getD i default=l.getD (m+i) default:=by
 simp[List.getD,List.getElem?_drop]
theorem RD.el_drop {E:Em} {cells:List PD} {b o:Nat} {us:Nat→Value} (hG:∀ i,i<cells.length→E.G b (o+i)=some (us i))
  (hR:∀ i,i<cells.length→RP E.G (cells.getD i default) (us i)) (m:Nat):RD E (.el (cells.drop m)) (.pointer (some ⟨b,o+m,none⟩)):=by
 refine .el _ b (o+m) (fun i=>us (m+i)) (fun i hi=>?_) (fun i hi=>?_)
 ·simp at hi;rw[Nat.add_assoc];exact hG _ (by omega)
 ·simp at hi;rw[getD_drop];exact hR _ (by omega)
theorem cstP_RP (G:Mem) (v:Value):RP G (cstP v) v:=by
 unfold cstP
 split
 ·exact .nil _ (by simp)
 ·rename_i cs
  refine .agg _ _ (by simp) (fun i hi=>?_)
  simp at hi
  have e:((cs.toList.map PD.v).getD i default)=PD.v (cs.getD i undef):=by simp[List.getD,hi]
  rw[e];exact .v _
 ·exact .v _
theorem RE.ev {c:Ctx} {E:Em} {n:Nat} {ρ:Env} {a:Act} (h:RE c E n ρ a) (x:Operand):RD E (ev ρ x) (a.eval x):=by
 cases x with
 | tmp t=>exact h.2.2 t
 | const v=>exact .p _ _ (cstP_RP _ _)
 | global g=>
  show RD E (match gkCells g with | []=>.p (.v (.pointer (some ⟨g,0,none⟩))) | c :: cs=>.el (c :: cs)) (.pointer (some ⟨g,0,none⟩))
  split
  ·exact .p _ _ (.v _)
  ·rename_i cs hcs
   refine .el _ g 0 (fun i=>(E.G g i).getD undef) (fun i hi=>?_) (fun i hi=>?_)
   ·obtain ⟨u,h1,_⟩:=h.1.2 g i (by rw[hcs];exact hi)
    rw[Nat.zero_add,h1];rfl
   ·obtain ⟨u,h1,h2⟩:=h.1.2 g i (by rw[hcs];exact hi)
    rw[hcs]at h2
    rw[h1];exact h2
 | func f=>exact .fn _ _ _ #[] #[] rfl rfl (fun i hi=>absurd hi (Nat.not_lt_zero _)) (fun i hi=>absurd hi (Nat.not_lt_zero _))
def Kept (E:Em) (T:Nat→Prop) (w:World) (E':Em) (w':World):Prop:=∀ i b,E.ι i=some b→¬ T i→E'.ι i=some b∧w'.heap[b]? = w.heap[b]?
theorem Kept.refl (E:Em) (T:Nat→Prop) (w:World):Kept E T w E w:=fun _ _ h _=>⟨h,rfl⟩
def DoesK (P:Program) (c:Ctx) (n:Nat) (o:Oper) (ρ:Env) (st:St) (T:Nat→Prop) (K:D→St→Prop):Prop:=
 ∀ E a w,HR P c E st w→RE c E n ρ a→∀ (next:Act→World→Prop) (Q':Exit→Act→World→Prop),
  (∀ v w' E' d st',E.le E'→HR P c E' st' w'→RD E' d v→Kept E T w E' w'→K d st'→next (a.put o.dst v) w')→o.wp P a w next Q'
def QuietK (P:Program) (c:Ctx) (n:Nat) (o:Oper) (ρ:Env) (st:St) (B:Nat→Prop) (K:D→St→Prop):Prop:=
 ∀ E a w,HR P c E st w→RE c E n ρ a→∃ v d,(∀ w',(∀ b o u,E.G b o=some u→w'.cell? ⟨b,o,none⟩=some u)→(∀ i b,E.ι i=some b→B i→w'.heap[b]? = w.heap[b]?) →
  (execOp a.eval o).run P w'=.ok (.value v) w')∧RD E d v∧K d st
section
variable {P:Program} {c:Ctx} {n:Nat} {o:Oper} {ρ:Env} {st:St} {T:Nat→Prop} {K:D→St→Prop}
theorem QuietK.does {B:Nat→Prop} (h:QuietK P c n o ρ st B K):DoesK P c n o ρ st T K:=by
 intro E a w hw ha next Q' hn
 obtain ⟨v,d,hr,hd,hk⟩:=h E a w hw ha
 have hr:=hr w (fun b o u hg=>(hw.gok b o u hg).1) (fun _ _ _ _=>rfl)
 unfold Oper.wp
 rw[hr]
 exact hn v w E d st (Em.le.refl E) hw hd (Kept.refl E T w) hk
theorem QuietK.val (h:∀ E a w,HR P c E st w→RE c E n ρ a→∃ v d,(∀ w',(execOp a.eval o).run P w'=.ok (.value v) w')∧RD E d v∧K d st):QuietK P c n o ρ st (fun _=>False) K:=by
 intro E a w hw ha
 obtain ⟨v,d,hr,hd,hk⟩:=h E a w hw ha
 exact ⟨v,d,fun w' _ _=>hr w',hd,hk⟩
theorem DoesK.gen (h:∀ E a w,HR P c E st w→RE c E n ρ a→∃ v w' E' d st',((execOp a.eval o).run P w=.ok (.value v) w'∨((execOp a.eval o).run P w=.ok .skip w'∧v=undef)) ∧
  E.le E'∧HR P c E' st' w'∧RD E' d v∧Kept E T w E' w'∧K d st'):DoesK P c n o ρ st T K:=by
 intro E a w hw ha next Q' hn
 obtain ⟨v,w',E',d,st',hr,hle,hw',hd,hkp,hk⟩:=h E a w hw ha
 unfold Oper.wp
 rcases hr with hr | ⟨hr,rfl⟩
 ·rw[hr];exact hn v w' E' d st' hle hw' hd hkp hk
 ·rw[hr];exact hn _ w' E' d st' hle hw' hd hkp hk
theorem quiet_mv (C:CallW) (x:Operand) (ho:o.op=.move x∨o.op=.assign x) (h:wpOp C ρ st K (.mv x)):QuietK P c n o ρ st (fun _=>False) K:=by
 refine .val fun E a w hw ha=>⟨a.eval x,_,fun w'=>?_,ha.ev x,h⟩
 rcases ho with ho | ho <;> simp[execOp,ho]
theorem quiet_pick (C:CallW) (x y z:Operand) (ho:o.op=.pick x y z) (h:wpOp C ρ st K (.pick x y z)):QuietK P c n o ρ st (fun _=>False) K:=by
 refine .val fun E a w hw ha=>?_
 have hx:=ha.ev x
 simp only[wpOp]at h
 split at h
 ·rename_i t ht
  rw[ht]at hx
  have e:=hx.v_inv
  cases t with
  | true=>exact ⟨a.eval y,_,fun w'=>by simp[execOp,ho,e,asBool],ha.ev y,h.1 rfl⟩
  | false=>exact ⟨a.eval z,_,fun w'=>by simp[execOp,ho,e,asBool],ha.ev z,h.2 rfl⟩
 ·exact h.elim
theorem quiet_un (C:CallW) (op:UnOp) (t:TypeId) (x:Operand) (ho:o.op=.unOp op t x) (h:wpOp C ρ st K (.un op x)):QuietK P c n o ρ st (fun _=>False) K:=by
 refine .val fun E a w hw ha=>?_
 have hx:=ha.ev x
 simp only[wpOp]at h
 split at h
 ·rename_i b hb
  rw[hb]at hx
  exact ⟨.bool (!b),_,fun w'=>by simp[execOp,ho,hx.v_inv,Op.unary],.p _ _ (.v _),h⟩
 ·rename_i k m hb
  rw[hb]at hx
  exact ⟨.int k (k.wrap (0 - m)),_,fun w'=>by simp[execOp,ho,hx.v_inv,Op.unary,Op.intArith],.p _ _ (.v _),h⟩
 ·rename_i k m hb
  rw[hb]at hx
  exact ⟨_,_,fun w'=>by simp[execOp,ho,hx.v_inv,Op.unary,Op.intBits,onesK],.p _ _ (.v _),h⟩
 ·exact h.elim
theorem quiet_conv (C:CallW) (s t:TypeId) (k:IntKind) (x:Operand) (d:TypeDesc) (ho:o.op=.convert s t x) (hs:P.underlying s=some d) (ht:P.underlying t=some (.int k))
  (h:wpOp C ρ st K (.conv k x)):QuietK P c n o ρ st (fun _=>False) K:=by
 refine .val fun E a w hw ha=>?_
 have hx:=ha.ev x
 simp only[wpOp]at h
 split at h
 ·rename_i k' m hb
  rw[hb]at hx
  exact ⟨.int k (k.wrap m),_,fun w'=>by simp[execOp,ho,hx.v_inv,convert,run_underlying hs,run_underlying ht,Conv.intToInt],.p _ _ (.v _),h⟩
 ·exact h.elim
theorem quiet_len (C:CallW) (t e:TypeId) (x:Operand) (ho:o.op=.call { callee:=.builtin .len,args:=#[x],argTypes:=#[t] }) (ht:P.underlying t=some (.slice e))
  (h:wpOp C ρ st K (.len x)):QuietK P c n o ρ st (fun _=>False) K:=by
 refine .val fun E a w hw ha=>?_
 have hx:=ha.ev x
 have key:∀ (ad:Option Addr) (m cap:Nat),a.eval x=.slice ad m cap→∀ w:World,(execOp a.eval o).run P w=.ok (.value (.int .i64 m)) w:=fun ad m cap e w=>by
  simp[execOp,ho,resolve,invoke,builtin,Builtin.len_,run_underlying ht,e,goInt]
 simp only[wpOp]at h
 split at h
 ·rename_i nl m cells hb
  rw[hb]at hx
  rcases hx.p_inv.sl_inv with ⟨e,rfl,_,_⟩ | ⟨b,off,_,cap,us,e,_⟩
  ·exact ⟨_,_,key _ _ _ e,.p _ _ (.v _),h⟩
  ·exact ⟨_,_,key _ _ _ e,.p _ _ (.v _),h⟩
 ·rename_i g m cells hb
  rw[hb]at hx
  rcases hx.grp_sl.sl_inv with ⟨e,rfl,_,_⟩ | ⟨b,off,_,cap,us,e,_⟩
  ·exact ⟨_,_,key _ _ _ e,.p _ _ (.v _),h⟩
  ·exact ⟨_,_,key _ _ _ e,.p _ _ (.v _),h⟩
 ·rename_i b off m hb
  rw[hb]at hx
  obtain ⟨b',_,_,_,_,e⟩:=hx.ms_inv
  exact ⟨_,_,key _ _ _ e,.p _ _ (.v _),h⟩
 ·exact h.elim
theorem run_indexAt_slice {w:World} (t e:TypeId) (inf:TypeInfo) (ht:P.underlying t=some (.slice e)) (hi:P.info? e=some inf) (b off m cap:Nat) (k:IntKind) (i:Int) (h0:0≤i) (h1:i<m) :
  (Instr.indexAt t (.slice (some ⟨b,off,none⟩) m cap) (.int k i)).run P w=.ok (.pointer (some ⟨b,off+i.toNat*inf.size,none⟩)) w:=by
 simp[Instr.indexAt,asIntOf,run_underlying ht,sizeOf,typeInfo,hi,h0,h1,Addr.add_none]
theorem quiet_idx (C:CallW) (t e:TypeId) (inf:TypeInfo) (x i:Operand) (ho:o.op=.indexAddr t x i) (ht:P.underlying t=some (.slice e)) (hi:P.info? e=some inf)
  (h:wpOp C ρ st K (.idx inf.size x i)):QuietK P c n o ρ st (fun _=>False) K:=by
 refine .val fun E a w hw ha=>?_
 have hx:=ha.ev x
 have hy:=ha.ev i
 have key:∀ (b off m cap:Nat) (k:IntKind) (j:Int),a.eval x=.slice (some ⟨b,off,none⟩) m cap→a.eval i=.int k j→0≤j→j<m →
   ∀ w:World,(execOp a.eval o).run P w=.ok (.value (.pointer (some ⟨b,off+j.toNat*inf.size,none⟩))) w:=fun b off m cap k j e1 e2 h0 h1 w=>by
  simp[execOp,ho,e1,e2,run_indexAt_slice t e inf ht hi b off m cap k j h0 h1]
 have sl:∀ (nl:Option Bool) (m:Nat) (cells:List PD) (k:IntKind) (j:Int),RP E.G (.sl nl m cells) (a.eval x)→a.eval i=.int k j→0≤j→j<m→K (.el (cells.drop (j.toNat*inf.size))) st →
   ∃ v d,(∀ w,(execOp a.eval o).run P w=.ok (.value v) w)∧RD E d v∧K d st:=fun nl m cells k j hr e2 h0 h1 hk=>by
  rcases hr.sl_inv with ⟨_,rfl,_,_⟩ | ⟨b,off,sp,cap,us,e1,_,_,hG,hR,hs⟩
  ·omega
  obtain rfl:sp=none:=by rcases hs with hs | hs;exact hs;omega
  ·exact ⟨_,_,key _ _ _ _ _ _ e1 e2 h0 h1,RD.el_drop hG hR _,hk⟩
 simp only[wpOp]at h
 split at h
 ·rename_i nl m cells k j hb hb2
  rw[hb]at hx;rw[hb2]at hy
  exact sl nl m cells k j hx.p_inv hy.v_inv h.1 h.2.1 h.2.2
 ·rename_i g m cells k j hb hb2
  rw[hb]at hx;rw[hb2]at hy
  exact sl _ m cells k j hx.grp_sl hy.v_inv h.1 h.2.1 h.2.2
 ·rename_i b off m k j hb hb2
  rw[hb]at hx;rw[hb2]at hy
  obtain ⟨b',_,hb',_,_,e1⟩:=hx.ms_inv
  exact ⟨_,_,key _ _ _ _ _ _ e1 hy.v_inv h.1 h.2.1,.ptr _ _ _ hb',h.2.2⟩
 ·exact h.elim
theorem run_indexAt_array {w:World} (t e:TypeId) (len:Nat) (inf:TypeInfo) (ht:P.underlying t=some (.array len e)) (hi:P.info? e=some inf) (b off:Nat) (k:IntKind) (i:Int) (h0:0≤i) (h1:i<len) :
  (Instr.indexAt t (.pointer (some ⟨b,off,none⟩)) (.int k i)).run P w=.ok (.pointer (some ⟨b,off+i.toNat*inf.size,none⟩)) w:=by
 simp[Instr.indexAt,asIntOf,run_underlying ht,sizeOf,typeInfo,hi,h0,h1,Addr.add_none,Instr.sureAddr]
theorem quiet_idxA (C:CallW) (t e:TypeId) (len:Nat) (inf:TypeInfo) (x i:Operand) (ho:o.op=.indexAddr t x i) (ht:P.underlying t=some (.array len e)) (hi:P.info? e=some inf)
  (h:wpOp C ρ st K (.idxA len inf.size x i)):QuietK P c n o ρ st (fun _=>False) K:=by
 refine .val fun E a w hw ha=>?_
 have hx:=ha.ev x
 have hy:=ha.ev i
 have key:∀ (b off:Nat) (k:IntKind) (j:Int),a.eval x=.pointer (some ⟨b,off,none⟩)→a.eval i=.int k j→0≤j→j<len →
   ∀ w:World,(execOp a.eval o).run P w=.ok (.value (.pointer (some ⟨b,off+j.toNat*inf.size,none⟩))) w:=fun b off k j e1 e2 h0 h1 w=>by
  simp[execOp,ho,e1,e2,run_indexAt_array t e len inf ht hi b off k j h0 h1]
 simp only[wpOp]at h
 split at h
 ·rename_i b off k j hb hb2
  rw[hb]at hx;rw[hb2]at hy
  obtain ⟨b',hb',e1⟩:=hx.ptr_inv
  exact ⟨_,_,key _ _ _ _ e1 hy.v_inv h.1 h.2.1,.ptr _ _ _ hb',h.2.2⟩
 ·rename_i cells k j hb hb2
  rw[hb]at hx;rw[hb2]at hy
  obtain ⟨b,off,us,e1,hG,hR⟩:=hx.el_inv
  exact ⟨_,_,key _ _ _ _ e1 hy.v_inv h.1 h.2.1,RD.el_drop hG hR _,h.2.2⟩
 ·exact h.elim
theorem quiet_fieldA (C:CallW) (t:TypeId) (x:Operand) (fi:Nat) (fs:Array Field) (f:Field) (inf:TypeInfo) (ho:o.op=.fieldAddr t x fi) (ht:P.underlying t=some (.struct fs)) (hf:fs[fi]? = some f)
  (hi:P.info? f.type=some inf) (hz:inf.size≠0) (h:wpOp C ρ st K (.fieldA f.offset x)):QuietK P c n o ρ st (fun _=>False) K:=by
 refine .val fun E a w hw ha=>?_
 have hx:=ha.ev x
 have key:∀ (b off:Nat),a.eval x=.pointer (some ⟨b,off,none⟩)→∀ w:World,(execOp a.eval o).run P w=.ok (.value (.pointer (some ⟨b,off+f.offset,none⟩))) w:=fun b off e1 w=>by
  simp[execOp,ho,e1,Instr.fieldAt,run_underlying ht,hf,Instr.sureAddr,fieldPlace,sizeOf,typeInfo,hi,hz,Addr.add_none]
 simp only[wpOp]at h
 split at h
 ·rename_i b off hb
  rw[hb]at hx
  obtain ⟨b',hb',e1⟩:=hx.ptr_inv
  exact ⟨_,_,key _ _ e1,.ptr _ _ _ hb',h⟩
 ·rename_i cells hb
  rw[hb]at hx
  obtain ⟨b,off,us,e1,hG,hR⟩:=hx.el_inv
  exact ⟨_,_,key _ _ e1,RD.el_drop hG hR _,h⟩
 ·exact h.elim
theorem quiet_nilck (C:CallW) (x:Operand) (ho:o.op=.nilCheck x) (h:wpOp C ρ st K (.nilck x)):QuietK P c n o ρ st (fun _=>False) K:=by
 refine .val fun E a w hw ha=>?_
 have hx:=ha.ev x
 simp only[wpOp]at h
 split at h
 ·rename_i b off hb
  rw[hb]at hx
  obtain ⟨b',hb',e1⟩:=hx.ptr_inv
  exact ⟨.pointer (some ⟨b',off,none⟩),_,fun w'=>by simp[execOp,ho,e1],.ptr _ _ _ hb',h⟩
 ·rename_i cells hb
  rw[hb]at hx
  obtain ⟨b,off,us,e1,hG,hR⟩:=hx.el_inv
  exact ⟨.pointer (some ⟨b,off,none⟩),_,fun w'=>by simp[execOp,ho,e1],.el _ _ _ _ hG hR,h⟩
 ·exact h.elim
theorem quiet_extract (C:CallW) (x:Operand) (i:Nat) (ho:o.op=.extract x i) (h:wpOp C ρ st K (.extract x i)):QuietK P c n o ρ st (fun _=>False) K:=by
 refine .val fun E a w hw ha=>?_
 have hx:=ha.ev x
 have key:∀ us:Array Value,a.eval x=.tuple us→i<us.size→∀ w:World,(execOp a.eval o).run P w=.ok (.value (us.getD i undef)) w:=fun us e hi w=>by
  simp[execOp,ho,e,Instr.extract,hi]
 simp only[wpOp]at h
 split at h
 ·rename_i ps hb
  rw[hb]at hx
  obtain ⟨us,e,hs,hR⟩:=hx.p_inv.tup_inv
  split at h
  ·rename_i p hp
   have hi:i<ps.length:=(List.getElem?_eq_some_iff.1 hp).1
   have:=hR i hi
   rw[List.getD,hp]at this
   exact ⟨_,_,key us e (by omega),.p _ _ this,h⟩
  ·exact h.elim
 ·rename_i ds hb
  rw[hb]at hx
  obtain ⟨us,e,hs,hR⟩:=hx.tup_inv
  split at h
  ·rename_i p hp
   have hi:i<ds.length:=(List.getElem?_eq_some_iff.1 hp).1
   have:=hR i hi
   rw[List.getD,hp]at this
   exact ⟨_,_,key us e (by omega),this,h⟩
  ·exact h.elim
 ·exact h.elim
theorem allP_spec:∀ {ds:List D} {ps:List PD},allP ds=some ps→ds=ps.map D.p
 | [],ps,h=>by simp[allP]at h;subst h;rfl
 | .p x :: r,ps,h=>by
  simp only[allP,Option.map_eq_some_iff]at h
  obtain ⟨qs,hq,rfl⟩:=h
  rw[allP_spec hq];rfl
 | .grp .. :: _,_,h | .ptr .. :: _,_,h | .el .. :: _,_,h | .ms .. :: _,_,h | .agg .. :: _,_,h | .tup .. :: _,_,h | .fn .. :: _,_,h | .ifc .. :: _,_,h | .bad :: _,_,h=>by simp[allP]at h
theorem allP_map (ps:List PD):allP (ps.map D.p)=some ps:=by
 induction ps with
 | nil=>rfl
 | cons x r ih=>simp[allP,ih]
theorem RD.of_mapP {E:Em} {ps:List PD} {us:Array Value} (h:∀ i,i<(ps.map D.p).length→RD E ((ps.map D.p).getD i default) (us.getD i undef)):∀ i,i<ps.length→RP E.G (ps.getD i default) (us.getD i undef):=fun i hi=>by
 have:=h i (by simpa using hi)
 simp only[List.getD,List.getElem?_map,List.getElem?_eq_getElem hi,Option.map_some,Option.getD_some]at this ⊢
 exact this.p_inv
theorem RD.mkAgg {E:Em} {ds:List D} {u:Value} (h:RD E (.agg ds) u):RD E (mkAgg ds) u:=by
 unfold Ab.mkAgg
 split
 ·rename_i ps hp
  have e:=allP_spec hp
  subst e
  obtain ⟨us,rfl,hs,hR⟩:=h.agg_inv
  exact .p _ _ (.agg _ _ (by simpa using hs) (RD.of_mapP hR))
 ·exact h
theorem RD.mkTup {E:Em} {ds:List D} {u:Value} (h:RD E (.tup ds) u):RD E (mkTup ds) u:=by
 unfold Ab.mkTup
 split
 ·rename_i ps hp
  have e:=allP_spec hp
  subst e
  obtain ⟨us,rfl,hs,hR⟩:=h.tup_inv
  exact .p _ _ (.tup _ _ (by simpa using hs) (RD.of_mapP hR))
 ·exact h
theorem run_loadVar_cell {w:World} {t:TypeId} {d:TypeDesc} (ht:P.underlying t=some d) (hd:aggT d=false) {a:Addr} {v:Value} (h:w.cell? a=some v) :
  (loadVar t a).run P w=.ok v w:=by
 have hagg:(isAgg t).run P w=.ok false w:=by
  unfold isAgg
  rw[Sem.run_bind,run_underlying ht w]
  cases d <;> simp_all [aggT]
 simp[loadVar,hagg,h]
theorem run_loadVar_agg {w:World} {t:TypeId} {d:TypeDesc} {inf:TypeInfo} (ht:P.underlying t=some d) (hd:aggT d=true) (hi:P.info? t=some inf)
  {b off:Nat} (f:Nat→Value) (h:∀ j,j<inf.size→w.cell? ⟨b,off+j,none⟩=some (f j)) :
  (loadVar t ⟨b,off,none⟩).run P w=.ok (.agg ((List.range inf.size).map f).toArray) w:=by
 have hagg:(isAgg t).run P w=.ok true w:=by
  unfold isAgg
  rw[Sem.run_bind,run_underlying ht w]
  cases d <;> simp_all [aggT]
 have hl:=run_loadCells (P:=P) w ⟨b,off,none⟩ inf.size f (fun j hj=>by rw[Addr.add_none];exact h j hj)
 simp[loadVar,hagg,sizeOf,typeInfo,hi,hl]
theorem HR.live {E:Em} {w:World} (hw:HR P c E st w) {i b:Nat} (h:E.N i b) {B:Box} (hB:st.box[i]? = some B) (hf:B.fz=false):E.ι i=some b:=by
 rcases h with h | h
 ·exact h
 ·obtain ⟨B',h1,h2,_⟩:=hw.dead i b h
  rw[hB]at h1
  obtain rfl:B=B':=by simpa using h1
  rw[hf]at h2;cases h2
theorem HR.liveM {E:Em} {w:World} (hw:HR P c E st w) {i b:Nat} (h:E.N i b) {B:Box} (hB:st.box[i]? = some B) (hm:B.m=true):E.ι i=some b:=by
 rcases h with h | h
 ·exact h
 ·obtain ⟨B',h1,_,h2⟩:=hw.dead i b h
  rw[hB]at h1
  obtain rfl:B=B':=by simpa using h1
  rw[hm]at h2;cases h2
theorem HR.liveB {E:Em} {w:World} (hw:HR P c E st w) {i b:Nat} (h:E.N i b) {B:Box} (hB:st.box[i]? = some B) (hf:B.fz=B.m):E.ι i=some b:=by
 cases hm:B.m with
 | true=>exact hw.liveM h hB hm
 | false=>exact hw.live h hB (hf.trans hm)
theorem HR.boxcell {E:Em} {w:World} (hw:HR P c E st w) {i b:Nat} (hb:E.ι i=some b) {B:Box} (hB:st.box[i]? = some B) (hf:B.fz=false) :
  ∃ vs,w.heap[b]? = some (.cells vs B.e (0,0))∧B.cells.length≤vs.size∧(∀ j,j<B.cells.length→RD E (B.cells.getD j default) (vs.getD j undef)∧(vs.getD j undef).oneCell'=true)∧∀ j,j<vs.size→w.cell? ⟨b,j,none⟩=some (vs.getD j undef):=by
 obtain ⟨B',vs,hB',hh,hs,hR,_,⟨hfm,_⟩,_⟩:=hw.box i b hb
 rw[hB]at hB'
 obtain rfl:B=B':=by simpa using hB'
 rw[objOf_cells vs (hfm.symm.trans hf)]at hh
 exact ⟨vs,hh,hs,hR,fun j hj=>by rw[cell_of_row w b j vs B.e (0,0) hh];simp[hj]⟩
def readsBox (ρ:Env) (x:Operand) (i:Nat):Prop:=∃ off,ev ρ x=.ptr i off
theorem quiet_load (C:CallW) (t:TypeId) (d:TypeDesc) (x:Operand) (ho:o.op=.load t x) (ht:P.underlying t=some d) (hd:aggT d=false)
  (h:wpOp C ρ st K (.load x)):QuietK P c n o ρ st (readsBox ρ x) K:=by
 intro E a w hw ha
 have hx:=ha.ev x
 have key:∀ (ad:Addr) (v:Value) (w:World),a.eval x=.pointer (some ad)→w.cell? ad=some v→(execOp a.eval o).run P w=.ok (.value v) w:=fun ad v w e hc=>by
  simp[execOp,ho,e,Instr.loadAt,Instr.sureAddr,run_loadVar_cell ht hd hc]
 simp only[wpOp]at h
 split at h
 ·rename_i cells hb
  rw[hb]at hx
  obtain ⟨b,off,us,e1,hG,hR⟩:=hx.el_inv
  obtain ⟨p,hp,hk⟩:=h
  have h0:0<cells.length:=(List.getElem?_eq_some_iff.1 hp).1
  have h1:=hR 0 h0
  rw[List.getD,hp]at h1
  exact ⟨us 0,_,fun w' hg _=>key _ _ w' e1 (hg _ _ _ (by simpa using hG 0 h0)),.p _ _ h1,hk⟩
 ·rename_i x0 hb
  rw[hb]at hx
  obtain ⟨b,off,u,e1,hG,hR⟩:=hx.rel_inv
  exact ⟨u,_,fun w' hg _=>key _ _ w' e1 (hg _ _ _ hG),hR,h⟩
 ·rename_i i off hb
  rw[hb]at hx
  obtain ⟨b',hb',e1⟩:=hx.ptr_inv
  split at h
  ·rename_i B hB
   obtain ⟨hf,p,hp,hk⟩:=h
   have hb':=hw.live hb' hB hf
   obtain ⟨vs,hh,hs,hR,hc⟩:=hw.boxcell hb' hB hf
   have h00:=(List.getElem?_eq_some_iff.1 hp).1
   have h0:off<vs.size:=by omega
   have h1:=(hR off h00).1
   rw[List.getD,hp]at h1
   refine ⟨vs.getD off undef,_,fun w' _ hk'=>key _ _ w' e1 ?_,h1,hk⟩
   have:=hk' i b' hb' ⟨off,hb⟩
   rw[hh]at this
   rw[cell_of_row w' b' off vs B.e (0,0) this];simp[h0]
  ·exact h.elim
 ·exact h.elim
theorem getD_map_range (f:Nat→Value) (m i:Nat) (h:i<m):(((List.range m).map f).toArray).getD i undef=f i:=by simp[h]
theorem getD_take {α:Type} [Inhabited α] (l:List α) (m i:Nat) (h:i<m):(l.take m).getD i default=l.getD i default:=by simp[List.getD,h]
theorem quiet_loadA (C:CallW) (t:TypeId) (d:TypeDesc) (inf:TypeInfo) (x:Operand) (ho:o.op=.load t x) (ht:P.underlying t=some d) (hd:aggT d=true)
  (hi:P.info? t=some inf) (h:wpOp C ρ st K (.loadA inf.size x)):QuietK P c n o ρ st (readsBox ρ x) K:=by
 intro E a w hw ha
 have hx:=ha.ev x
 have key:∀ (b off:Nat) (f:Nat→Value) (w:World),a.eval x=.pointer (some ⟨b,off,none⟩)→(∀ j,j<inf.size→w.cell? ⟨b,off+j,none⟩=some (f j)) →
   (execOp a.eval o).run P w=.ok (.value (.agg ((List.range inf.size).map f).toArray)) w:=fun b off f w e hc=>by
  simp only[execOp,ho,e,Instr.loadAt,Instr.sureAddr,Sem.run_bind,Sem.run_pure,Result.andThen_ok,run_loadVar_agg ht hd hi f hc]
 simp only[wpOp]at h
 split at h
 ·rename_i cells hb
  rw[hb]at hx
  obtain ⟨b,off,us,e1,hG,hR⟩:=hx.el_inv
  refine ⟨_,_,fun w' hg _=>key _ _ us w' e1 (fun j hj=>hg _ _ _ (hG j (by omega))),.p _ _ (.agg _ _ (by simp;omega) (fun i hi=>?_)),h.2⟩
  simp at hi
  rw[getD_map_range _ _ _ (by omega),getD_take _ _ _ (by omega)]
  exact hR i (by omega)
 ·rename_i i off hb
  rw[hb]at hx
  obtain ⟨b',hb',e1⟩:=hx.ptr_inv
  split at h
  ·rename_i B hB
   obtain ⟨hf,h⟩:=h
   have hb':=hw.live hb' hB hf
   obtain ⟨vs,hh,hs,hR,hc⟩:=hw.boxcell hb' hB hf
   refine ⟨_,_,fun w' _ hk'=>key _ _ (fun j=>vs.getD (off+j) undef) w' e1 (fun j hj=>?_),RD.mkAgg (.agg _ _ (by simp;omega) (fun i hi=>?_)),h.2⟩
   ·have:=hk' i b' hb' ⟨off,hb⟩
    rw[hh]at this
    rw[cell_of_row w' b' (off+j) vs B.e (0,0) this];simp[show off+j<vs.size by omega]
   ·simp at hi
    rw[getD_map_range _ _ _ (by omega),getD_take _ _ _ (by omega),getD_drop]
    exact (hR _ (by omega)).1
  ·exact h.elim
 ·exact h.elim
theorem getD_extract (us:Array Value) (off m i:Nat) (h:i<m) (hs:off+m≤us.size):(us.extract off (off+m)).getD i undef=us.getD (off+i) undef:=by
 have h1:i<(us.extract off (off+m)).size:=by simp;omega
 have h2:off+i<us.size:=by omega
 rw[Array.getD,dif_pos h1,Array.getD,dif_pos h2]
 simp
theorem run_part_cell {w:World} {t:TypeId} {d:TypeDesc} (ht:P.underlying t=some d) (hd:aggT d=false) (us:Array Value) (off:Nat) (h:off<us.size) :
  (part t us off).run P w=.ok (us.getD off undef) w:=by
 have hagg:(isAgg t).run P w=.ok false w:=by
  unfold isAgg
  rw[Sem.run_bind,run_underlying ht w]
  cases d <;> simp_all [aggT]
 simp[part,hagg,h]
theorem run_part_agg {w:World} {t:TypeId} {d:TypeDesc} {inf:TypeInfo} (ht:P.underlying t=some d) (hd:aggT d=true) (hi:P.info? t=some inf) (us:Array Value) (off:Nat) :
  (part t us off).run P w=.ok (.agg (us.extract off (off+inf.size))) w:=by
 have hagg:(isAgg t).run P w=.ok true w:=by
  unfold isAgg
  rw[Sem.run_bind,run_underlying ht w]
  cases d <;> simp_all [aggT]
 simp[part,hagg,sizeOf,typeInfo,hi]
theorem quiet_field1 (C:CallW) (t:TypeId) (x:Operand) (fi:Nat) (fs:Array Field) (f:Field) (d:TypeDesc) (ho:o.op=.field t x fi) (ht:P.underlying t=some (.struct fs)) (hf:fs[fi]? = some f)
  (hu:P.underlying f.type=some d) (hd:aggT d=false) (h:wpOp C ρ st K (.field f.offset none x)):QuietK P c n o ρ st (fun _=>False) K:=by
 refine .val fun E a w hw ha=>?_
 have hx:=ha.ev x
 have key:∀ (us:Array Value),a.eval x=.agg us→f.offset<us.size→∀ w:World,(execOp a.eval o).run P w=.ok (.value (us.getD f.offset undef)) w:=fun us e1 hlt w=>by
  simp only[execOp,ho,e1,Instr.field,Sem.run_bind,run_underlying ht,Result.andThen_ok,hf,asAgg,Sem.run_pure,run_part_cell hu hd us _ hlt]
 simp only[wpOp]at h
 split at h
 ·rename_i ps hb
  rw[hb]at hx
  obtain ⟨us,e,hs,hR⟩:=hx.p_inv.agg_inv
  obtain ⟨p,hp,hk⟩:=h
  have hi:f.offset<ps.length:=(List.getElem?_eq_some_iff.1 hp).1
  have:=hR _ hi
  rw[List.getD,hp]at this
  exact ⟨_,_,key us e (by omega),.p _ _ this,hk⟩
 ·rename_i ds hb
  rw[hb]at hx
  obtain ⟨us,e,hs,hR⟩:=hx.agg_inv
  obtain ⟨p,hp,hk⟩:=h
  have hi:f.offset<ds.length:=(List.getElem?_eq_some_iff.1 hp).1
  have:=hR _ hi
  rw[List.getD,hp]at this
  exact ⟨_,_,key us e (by omega),this,hk⟩
 ·exact h.elim
theorem quiet_fieldN (C:CallW) (t:TypeId) (x:Operand) (fi:Nat) (fs:Array Field) (f:Field) (d:TypeDesc) (inf:TypeInfo) (ho:o.op=.field t x fi) (ht:P.underlying t=some (.struct fs)) (hf:fs[fi]? = some f)
  (hu:P.underlying f.type=some d) (hd:aggT d=true) (hi:P.info? f.type=some inf) (h:wpOp C ρ st K (.field f.offset (some inf.size) x)):QuietK P c n o ρ st (fun _=>False) K:=by
 refine .val fun E a w hw ha=>?_
 have hx:=ha.ev x
 have key:∀ (us:Array Value),a.eval x=.agg us→∀ w:World,(execOp a.eval o).run P w=.ok (.value (.agg (us.extract f.offset (f.offset+inf.size)))) w:=fun us e1 w=>by
  simp only[execOp,ho,e1,Instr.field,Sem.run_bind,run_underlying ht,Result.andThen_ok,hf,asAgg,Sem.run_pure,run_part_agg hu hd hi us _]
 simp only[wpOp]at h
 split at h
 ·rename_i ps hb
  rw[hb]at hx
  obtain ⟨us,e,hs,hR⟩:=hx.p_inv.agg_inv
  refine ⟨_,_,key us e,.p _ _ (.agg _ _ (by simp;omega) (fun i hi=>?_)),h.2⟩
  simp at hi
  rw[getD_extract _ _ _ _ (by omega) (by omega),getD_take _ _ _ (by omega),getD_drop]
  exact hR _ (by omega)
 ·rename_i ds hb
  rw[hb]at hx
  obtain ⟨us,e,hs,hR⟩:=hx.agg_inv
  refine ⟨_,_,key us e,RD.mkAgg (.agg _ _ (by simp;omega) (fun i hi=>?_)),h.2⟩
  simp at hi
  rw[getD_extract _ _ _ _ (by omega) (by omega),getD_take _ _ _ (by omega),getD_drop]
  exact hR _ (by omega)
 ·exact h.elim
theorem quiet_mkifc (C:CallW) (t:TypeId) (x:Operand) (d:TypeDesc) (ho:o.op=.makeInterface t x) (ht:P.underlying t=some d) (hd:ifcT d=false)
  (h:wpOp C ρ st K (.mkifc t x)):QuietK P c n o ρ st (fun _=>False) K:=by
 refine .val fun E a w hw ha=>⟨_,_,fun w'=>?_,.ifc t _ _ (ha.ev x),h⟩
 cases d <;> simp_all [ifcT,execOp,Instr.makeInterface,run_underlying]
theorem getD_map_ev (ρ:Env) (l:List Operand) (i:Nat) (h:i<l.length):(l.map (ev ρ)).getD i default=ev ρ l[i]:=by simp[List.getD,h]
theorem RE.evs {E:Em} {m:Nat} {a:Act} (ha:RE c E m ρ a) (l:List Operand):∀ i,i<(l.map (Ab.ev ρ)).length→RD E ((l.map (Ab.ev ρ)).getD i default) ((l.toArray.map a.eval).getD i undef):=fun i hi=>by
 simp at hi
 rw[getD_map_ev ρ l i hi]
 simp[hi]
 exact ha.ev _
theorem quiet_mkfn (C:CallW) (f:Fn) (first captured:List Operand) (ho:o.op=.makeFunc f first.toArray captured.toArray) (h:wpOp C ρ st K (.mkfn f first captured)):QuietK P c n o ρ st (fun _=>False) K:=by
 refine .val fun E a w hw ha=>⟨_,_,fun w'=>by simp only[execOp,ho,Instr.makeFunc,Sem.run_bind,Sem.run_pure,Result.andThen_ok],.fn f _ _ _ _ (by simp) (by simp) (ha.evs first) (ha.evs captured),h⟩
theorem quiet_minmax (C:CallW) (mx:Bool) (x y:Operand) (t1 t2:TypeId) (ho:o.op=.call { callee:=.builtin (if mx then .max else .min),args:=#[x,y],argTypes:=#[t1,t2] })
  (h:wpOp C ρ st K (.minmax mx [x,y])):QuietK P c n o ρ st (fun _=>False) K:=by
 refine .val fun E a w hw ha=>?_
 have hx:=ha.ev x
 have hy:=ha.ev y
 simp only[wpOp,List.map_cons,List.map_nil]at h
 split at h
 ·rename_i l k i k' j hb
  simp only[List.cons.injEq,and_true]at hb
  rw[hb.1]at hx;rw[hb.2]at hy
  obtain ⟨rfl,hk⟩:=h
  cases mx
  ·exact ⟨.int k (if j<i then j else i),_,fun w'=>by simp[execOp,ho,resolve,invoke,builtin,Builtin.min_,Builtin.min2,hx.v_inv,hy.v_inv],.p _ _ (.v _),by simpa using hk⟩
  ·exact ⟨.int k (if j>i then j else i),_,fun w'=>by simp[execOp,ho,resolve,invoke,builtin,Builtin.max_,Builtin.max2,hx.v_inv,hy.v_inv],.p _ _ (.v _),by simpa using hk⟩
 ·exact h.elim
end
end Go.Ab
namespace Go.Ab
open Go.RowKit
section
variable {P:Program} {c:Ctx} {n:Nat} {o:Oper} {ρ:Env} {st:St} {K:D→St→Prop}
theorem run_eqGuard_int {w:World} (op:BinOp) (t:TypeId) (x y:Operand) (k k':IntKind) (a b:Int):(eqGuard op t x y (.int k a) (.int k' b)).run P w=.ok () w:=by
 unfold eqGuard
 cases op <;> simp
theorem sBin_run (op:BinOp) (t:TypeId) (x y:Operand) (a b:Value) (K':Value→Prop) (h:sBin op a b K') :
  ∃ r,(∀ w:World,(do eqGuard op t x y a b;binOp op t a b).run P w=.ok r w)∧K' r:=by
 cases a with
 | int k a=>
  cases b with
  | int k' b=>
   simp only[sBin]at h
   simp only[Sem.run_bind,run_eqGuard_int,Result.andThen_ok]
   cases op <;> simp only at h
   case quo=>obtain ⟨rfl,hb,h⟩:=h;exact ⟨.int k (k.wrap (a.tdiv b)),fun w=>by simp[binOp,Op.intDiv,hb],h⟩
   case rem=>obtain ⟨rfl,hb,h⟩:=h;exact ⟨.int k (a.tmod b),fun w=>by simp[binOp,Op.intDiv,hb],h⟩
   case shl=>obtain ⟨hb,h⟩:=h;exact ⟨.int k (k.wrap (a*2 ^ (min b.toNat k.bits))),fun w=>by simp[binOp,Op.shift,show ¬ b<0 by omega],h⟩
   case shr=>obtain ⟨hb,h⟩:=h;exact ⟨.int k (a.fdiv (2 ^ (min b.toNat k.bits))),fun w=>by simp[binOp,Op.shift,show ¬ b<0 by omega],h⟩
   all_goals (obtain ⟨rfl,h⟩:=h;exact ⟨_,fun w=>by simp[binOp,Op.intArith,Op.intBits,Op.intCmp],h⟩)
  | _=>simp[sBin]at h
 | _=>simp[sBin]at h
theorem quiet_bin (C:CallW) (op:BinOp) (t t':TypeId) (x y:Operand) (ho:o.op=.binOp op t x y t') (h:wpOp C ρ st K (.bin op x y)):QuietK P c n o ρ st (fun _=>False) K:=by
 refine .val fun E a w hw ha=>?_
 have hx:=ha.ev x
 have hy:=ha.ev y
 simp only[wpOp]at h
 split at h
 ·rename_i u v hb hb2
  rw[hb]at hx;rw[hb2]at hy
  obtain ⟨r,hr,hk⟩:=sBin_run (P:=P) op t x y u v _ h
  refine ⟨r,_,fun w'=>?_,.p _ _ (.v r),hk⟩
  simp only[execOp,ho,hx.v_inv,hy.v_inv]
  rw[Sem.run_bind,hr];rfl
 ·exact h.elim
theorem quiet_binB (C:CallW) (neg:Bool) (t t':TypeId) (x y:Operand) (ho:o.op=.binOp (if neg then .neq else .eql) t x y t') (ht:P.underlying t=some .bool) (h:wpOp C ρ st K (.binB neg x y)):QuietK P c n o ρ st (fun _=>False) K:=by
 refine .val fun E a w hw ha=>?_
 have hx:=ha.ev x
 have hy:=ha.ev y
 simp only[wpOp]at h
 split at h
 ·rename_i u v hb hb2
  rw[hb]at hx;rw[hb2]at hy
  refine ⟨.bool ((u == v) ^^ neg),_,fun w'=>?_,.p _ _ (.v _),h⟩
  have he:=run_equalIn_bool' (P:=P) w' (Op.maxDepth - 1) t u v ht
  cases neg <;> simp[execOp,ho,hx.v_inv,hy.v_inv,eqGuard,binOp,Op.equal] <;> (rw[show Op.maxDepth=Op.maxDepth - 1+1 from rfl,he];simp)
 ·exact h.elim
theorem quiet_index1 (C:CallW) (t e:TypeId) (len:Nat) (d:TypeDesc) (inf:TypeInfo) (x i:Operand) (ho:o.op=.index t x i) (ht:P.underlying t=some (.array len e)) (hu:P.underlying e=some d) (hd:aggT d=false)
  (hi:P.info? e=some inf) (h:wpOp C ρ st K (.index len inf.size false x i)):QuietK P c n o ρ st (fun _=>False) K:=by
 refine .val fun E a w hw ha=>?_
 have hx:=ha.ev x
 have hy:=ha.ev i
 simp only[wpOp]at h
 split at h
 ·rename_i ps k j hb hb2
  rw[hb]at hx;rw[hb2]at hy
  obtain ⟨us,e1,hs,hR⟩:=hx.p_inv.agg_inv
  obtain ⟨h0,h1,h2⟩:=h
  simp only[Bool.false_eq_true,if_false]at h2
  obtain ⟨q,hq,hk⟩:=h2
  have hl:j.toNat*inf.size<ps.length:=(List.getElem?_eq_some_iff.1 hq).1
  have hr:=hR _ hl
  rw[List.getD,hq]at hr
  refine ⟨_,_,fun w'=>?_,.p _ _ hr,hk⟩
  simp only[execOp,ho,e1,hy.v_inv,Instr.index,asIntOf,Sem.run_bind,Sem.run_pure,Result.andThen_ok,run_underlying ht,h0,h1,and_self,if_true,sizeOf,typeInfo,run_program,hi,run_part_cell hu hd us _ (show j.toNat*inf.size<us.size by omega)]
 ·rename_i ds k j hb hb2
  rw[hb]at hx;rw[hb2]at hy
  obtain ⟨us,e1,hs,hR⟩:=hx.agg_inv
  obtain ⟨h0,h1,_,q,hq,hk⟩:=h
  have hl:j.toNat*inf.size<ds.length:=(List.getElem?_eq_some_iff.1 hq).1
  have hr:=hR _ hl
  rw[List.getD,hq]at hr
  refine ⟨_,_,fun w'=>?_,hr,hk⟩
  simp only[execOp,ho,e1,hy.v_inv,Instr.index,asIntOf,Sem.run_bind,Sem.run_pure,Result.andThen_ok,run_underlying ht,h0,h1,and_self,if_true,sizeOf,typeInfo,run_program,hi,run_part_cell hu hd us _ (show j.toNat*inf.size<us.size by omega)]
 ·exact h.elim
theorem fillD_length:∀ (parts:List (Nat×Nat×D)) (cells cs:List D),fillD cells parts=some cs→cs.length=cells.length
 | [],cells,cs,h=>by simp[fillD]at h;rw[h]
 | (off,size,d) :: r,cells,cs,h=>by
  simp only[fillD]at h
  split at h
  ·rename_i hc
   rw[fillD_length r _ _ h]
   simp[putCells];omega
  ·cases h
theorem oneP_RP {G:Mem} {x:PD} {u:Value} (h:RP G x u) (hd:oneP x=true):u.oneCell'=true:=by
 cases h <;> simp_all [oneP,Value.oneCell']
theorem oneD_RD {E:Em} {d:D} {u:Value} (h:RD E d u) (hd:oneD d=true):u.oneCell'=true:=by
 cases h with
 | p x u h=>exact oneP_RP h (by simpa [oneD] using hd)
 | grp g m cells u b cap cur hg hl h hc=>rcases h.sl_inv with ⟨rfl,_⟩ | ⟨_,_,_,_,_,rfl,_⟩ <;> rfl
 | agg | tup | bad=>simp[oneD]at hd
 | _=>rfl
theorem cells_one {u:Value} (h:u.oneCell'=true):u.cells=#[u]:=by cases u <;> simp_all [Value.cells,Value.oneCell']
theorem cellsD_RD {E:Em} {d:D} {u:Value} (h:RD E d u) (hd:(cellsD d).all oneD=true):(cellsD d).length=u.cells.size ∧
  ∀ i,i<(cellsD d).length→RD E ((cellsD d).getD i default) (u.cells.getD i undef)∧(u.cells.getD i undef).oneCell'=true:=by
 have single:cellsD d=[d]→(cellsD d).length=u.cells.size∧∀ i,i<(cellsD d).length→RD E ((cellsD d).getD i default) (u.cells.getD i undef)∧(u.cells.getD i undef).oneCell'=true:=fun hc=>by
  rw[hc]at hd ⊢
  have h1:=oneD_RD h (by simpa using hd)
  rw[cells_one h1]
  refine ⟨rfl,fun i hi=>?_⟩
  have h0:i=0:=by simp at hi;omega
  subst h0
  exact ⟨h,h1⟩
 have many:∀ (ds:List D) (us:Array Value),cellsD d=ds→u=.agg us→us.size=ds.length→(∀ i,i<ds.length→RD E (ds.getD i default) (us.getD i undef))→(cellsD d).length=u.cells.size ∧
   ∀ i,i<(cellsD d).length→RD E ((cellsD d).getD i default) (u.cells.getD i undef)∧(u.cells.getD i undef).oneCell'=true:=fun ds us hc hu hs hR=>by
  rw[hc]at hd ⊢
  subst hu
  refine ⟨hs.symm,fun i hi=>⟨hR i hi,oneD_RD (hR i hi) ?_⟩⟩
  rw[List.all_eq_true]at hd
  exact hd _ (by simp[List.getD,hi])
 cases h with
 | p x u h=>
  cases h with
  | agg cells us hs hR=>
   refine many (cells.map .p) us rfl rfl (by simpa using hs) (fun i hi=>?_)
   simp only[List.length_map]at hi
   have:=hR i hi
   simp only[List.getD,List.getElem?_map,List.getElem?_eq_getElem hi,Option.map_some,Option.getD_some]at this ⊢
   exact .p _ _ this
  | _=>exact single rfl
 | agg cells us hs hR=>exact many cells us rfl rfl hs hR
 | _=>exact single rfl
end
end Go.Ab
namespace Go.Ab
open Go.RowKit
section
variable {P:Program} {c:Ctx} {E:Em} {st:St} {w:World}
theorem heap_alloc_old (w:World) (o:Obj) (i:Nat) (h:i<w.heap.size):(w.alloc o).heap[i]? = w.heap[i]?:=by
 show (w.heap.push o)[i]? = w.heap[i]?
 rw[Array.getElem?_push,if_neg (Nat.ne_of_lt h)]
theorem frozen_setRow (w:World) (b:Nat) (vs:Array Value) (a:Addr):(w.setRow b vs).frozen? a=w.frozen? a:=by
 by_cases h:a.block=b
 ·subst h
  unfold World.frozen? World.setRow
  simp only[Array.getElem?_modify,if_true]
  cases w.heap[a.block]? with
  | none=>rfl
  | some o=>cases o <;> rfl
 ·unfold World.frozen?
  rw[setRow_other w b a.block vs h]
theorem lt_of_heap {k:Nat} {o:Obj} (h:w.heap[k]? = some o):k<w.heap.size:=(Array.getElem?_eq_some_iff.1 h).1
theorem HR.ι_lt (hw:HR P c E st w) {i b:Nat} (h:E.ι i=some b):b<w.heap.size:=by
 obtain ⟨B,vs,_,hh,_⟩:=hw.box i b h;exact lt_of_heap hh
theorem HR.δ_box (hw:HR P c E st w) {i b:Nat} (h:E.δ i=some b):i<st.box.length:=by
 obtain ⟨B,hB,_⟩:=hw.dead i b h;exact (List.getElem?_eq_some_iff.1 hB).1
theorem HR.ι_box (hw:HR P c E st w) {i b:Nat} (h:E.ι i=some b):i<st.box.length:=by
 obtain ⟨B,vs,hB,_⟩:=hw.box i b h;exact (List.getElem?_eq_some_iff.1 hB).1
theorem HR.γ_lt (hw:HR P c E st w) {g b cap cur:Nat} (h:E.γ g=some (b,cap,cur)):b<w.heap.size:=by
 obtain ⟨e,vs,inf,_,hh,_⟩:=hw.grp g b cap cur h;exact lt_of_heap hh
theorem HR.γ_grp (hw:HR P c E st w) {g b cap cur:Nat} (h:E.γ g=some (b,cap,cur)):g<st.grp.length:=by
 obtain ⟨e,vs,inf,hg,_⟩:=hw.grp g b cap cur h;exact (List.getElem?_eq_some_iff.1 hg).1
theorem HR.G_lt (hw:HR P c E st w) {b o:Nat} {u:Value} (h:E.G b o=some u):b<w.heap.size:=block_lt_of_cell (hw.gok b o u h).1
theorem HR.G_none (hw:HR P c E st w) {b:Nat} (h:w.heap.size≤b) (o:Nat):E.G b o=none:=by
 cases hg:E.G b o with
 | none=>rfl
 | some u=>have:=hw.G_lt hg;omega
theorem HR.grown (hw:HR P c E st w) {w':World} (h:BelowF w.heap.size w w'):HR P c E st w' where
 os:=h.os.trans hw.os
 tape:=⟨h.tape.trans hw.tape.1,Nat.le_trans hw.tape.2 h.drawn⟩
 output:=⟨h.output.trans hw.output.1,fun a ha=>(h.frz a (Nat.lt_of_lt_of_le ha hw.size)).trans (hw.output.2 a ha)⟩
 size:=Nat.le_trans hw.size h.size
 old k hk hx:=(h.block k (Nat.lt_of_lt_of_le hk hw.size)).trans (hw.old k hk hx)
 le:=hw.le
 gnew:=hw.gnew
 gok b o u hg:=⟨(h.cell (p:=⟨b,o,none⟩) (hw.G_lt hg)).trans (hw.gok b o u hg).1,(hw.gok b o u hg).2⟩
 box i b hb:=by
  obtain ⟨B,vs,h1,h2,h3⟩:=hw.box i b hb
  exact ⟨B,vs,h1,(h.block b (hw.ι_lt hb)).trans h2,h3⟩
 inj:=hw.inj
 grp g b cap cur hg:=by
  obtain ⟨e,vs,inf,h1,h2,h3⟩:=hw.grp g b cap cur hg
  exact ⟨e,vs,inf,h1,(h.block b (hw.γ_lt hg)).trans h2,h3⟩
 ginj:=hw.ginj
 apart:=hw.apart
 dead:=hw.dead
 kap:=hw.kap
theorem HR.drew (hw:HR P c E st w):HR P c E st w.drew:=hw.grown ⟨(Below.refl _ _).drew,fun _ _=>rfl,Nat.le_succ _⟩
theorem HR.garbage (hw:HR P c E st w) (vs:Array Value) (e:TypeId):HR P c E st (w.alloc (.cells vs e)):=hw.grown ⟨(Below.refl _ _).alloc (Nat.le_refl _) _,fun a _=>frozen?_alloc_cells w vs e a,Nat.le_refl _⟩
theorem frozen?_alloc_old (w:World) (o:Obj) (a:Addr) (h:a.block<w.heap.size):(w.alloc o).frozen? a=w.frozen? a:=by
 unfold World.frozen?
 rw[heap_alloc_old w o _ h]
theorem HR.garbageO (hw:HR P c E st w) (o:Obj):HR P c E st (w.alloc o):=hw.grown ⟨(Below.refl _ _).alloc (Nat.le_refl _) _,fun a ha=>frozen?_alloc_old w o a ha,Nat.le_refl _⟩
theorem HR.kept_alloc (hw:HR P c E st w) (T:Nat→Prop) (o:Obj):Kept E T w E (w.alloc o):=fun _ _ hi _=>⟨hi,heap_alloc_old w o _ (hw.ι_lt hi)⟩
theorem cell?_of_block {w w':World} {b:Nat} (h:w'.heap[b]? = w.heap[b]?) (o:Nat):w'.cell? ⟨b,o,none⟩=w.cell? ⟨b,o,none⟩:=by
 unfold World.cell?
 simp only[h]
def Em.addι (E:Em) (i b:Nat):Em:={ E with ι:=fun j=>if j=i then some b else E.ι j }
def Em.addG (E:Em) (b:Nat) (f:Nat→Option Value):Em:={ E with G:=fun b' o=>if b'=b then f o else E.G b' o }
def Em.setγ (E:Em) (g:Nat) (x:Nat×Nat×Nat):Em:={ E with γ:=fun h=>if h=g then some x else E.γ h }
theorem HR.le_addι (hw:HR P c E st w) (b:Nat):E.le (E.addι st.box.length b):=
 ⟨fun _ _ _ h=>h,fun i b' h=>h.elim (fun h=>.inl (by simp only[Em.addι];rw[if_neg (by have:=hw.ι_box h;omega)];exact h)) .inr,fun _ _ _=>rfl,fun _ b cap cur h=>⟨b,cap,cur,h,.inl ⟨rfl,rfl,rfl⟩⟩⟩
theorem HR.kept_addι (hw:HR P c E st w) (T:Nat→Prop) (b:Nat) (o:Obj):Kept E T w (E.addι st.box.length b) (w.alloc o):=fun i b' hi _=>
 ⟨by simp only[Em.addι];rw[if_neg (by have:=hw.ι_box hi;omega)];exact hi,heap_alloc_old w o _ (hw.ι_lt hi)⟩
theorem HR.κ_new (hw:HR P c E st w):E.κ st.box.length=none:=by
 cases h:E.κ st.box.length with
 | none=>rfl
 | some c0=>
  obtain ⟨b,h | h⟩:=hw.kap _ _ h
  ·have:=hw.ι_box h;omega
  ·have:=hw.δ_box h;omega
theorem HR.newboxM (hw:HR P c E st w) (B:Box) (vs:Array Value) (hf:B.fz=B.m) (hap:B.ap=false) (hs:B.cells.length≤vs.size)
  (hR:∀ j,j<B.cells.length→RD E (B.cells.getD j default) (vs.getD j undef)∧(vs.getD j undef).oneCell'=true) :
  HR P c (E.addι st.box.length w.heap.size) { st with box:=st.box ++ [B] } (w.alloc (objOf B vs)):=by
 have hw':=hw.garbageO (objOf B vs)
 have hle:=hw.le_addι w.heap.size
 refine ⟨hw'.os,hw'.tape,hw'.output,hw'.size,hw'.old,hw.le.trans hle,hw'.gnew,hw'.gok,?_,?_,hw'.grp,hw'.ginj,?_,fun i b hi=>?_,fun i c0 hi=>(hw.kap i c0 hi).imp fun b hb=>hle.ι _ _ hb⟩
 ·intro i b hb
  simp only[Em.addι]at hb
  split at hb
  ·rename_i hi
   obtain rfl:w.heap.size=b:=by simpa using hb
   subst hi
   refine ⟨B,vs,by simp,heap_alloc_new w _,hs,fun j hj=>⟨(hR j hj).1.mono hle,(hR j hj).2⟩,.inl hw.size,⟨hf,by have:=hw.κ_new;exact ⟨by rw[hap];show _=(E.κ _).isSome;rw[this];rfl,fun c0 h0=>by have h0:E.κ _=some c0:=h0;rw[this]at h0;cases h0⟩⟩,fun o=>hw.G_none (Nat.le_refl _) o⟩
  ·obtain ⟨B',vs',h1,h2,h3,h4,h5⟩:=hw'.box i b hb
   exact ⟨B',vs',by rw[List.getElem?_append_left (hw.ι_box hb)];exact h1,h2,h3,fun j hj=>⟨(h4 j hj).1.mono hle,(h4 j hj).2⟩,h5⟩
 ·intro i j b hi hj
  simp only[Em.addι]at hi hj
  split at hi <;> split at hj
  ·omega
  ·have:=hw.ι_lt hj;simp at hi;omega
  ·have:=hw.ι_lt hi;simp at hj;omega
  ·exact hw.inj i j b hi hj
 ·intro i g b cap cur hi hg
  simp only[Em.addι]at hi
  split at hi
  ·have:=hw.γ_lt (show E.γ g=some (b,cap,cur) from hg);simp at hi;omega
  ·exact hw.apart i g b cap cur hi hg
 ·obtain ⟨B',h1,h2⟩:=hw.dead i b hi
  exact ⟨B',by rw[List.getElem?_append_left (hw.δ_box hi)];exact h1,h2⟩
theorem HR.newbox (hw:HR P c E st w) (B:Box) (vs:Array Value) (hf:B.fz=false) (hap:B.ap=false) (hs:B.cells.length≤vs.size)
  (hR:∀ j,j<B.cells.length→RD E (B.cells.getD j default) (vs.getD j undef)∧(vs.getD j undef).oneCell'=true) (hm:B.m=false:=by rfl) :
  HR P c (E.addι st.box.length w.heap.size) { st with box:=st.box ++ [B] } (w.alloc (.cells vs B.e)):=by
 have:=hw.newboxM B vs (hf.trans hm.symm) hap hs hR
 rwa [objOf_cells vs hm]at this
theorem HR.le_addG (hw:HR P c E st w) {b:Nat} (hb:w.heap.size≤b) (f:Nat→Option Value):E.le (E.addG b f):=
 ⟨fun b' o u h=>by simp only[Em.addG];rw[if_neg (by have:=hw.G_lt h;omega)];exact h,fun _ _ h=>h,fun _ _ _=>rfl,fun _ b cap cur h=>⟨b,cap,cur,h,.inl ⟨rfl,rfl,rfl⟩⟩⟩
theorem HR.newG (hw:HR P c E st w) (vs:Array Value) (e:TypeId) (h1:∀ j,j<vs.size→(vs.getD j undef).oneCell'=true) :
  HR P c (E.addG w.heap.size fun o=>vs[o]?) st (w.alloc (.cells vs e)):=by
 have hw':=hw.garbage vs e
 have hle:=hw.le_addG (Nat.le_refl w.heap.size) (fun o=>vs[o]?)
 refine ⟨hw'.os,hw'.tape,hw'.output,hw'.size,hw'.old,hw.le.trans hle,?_,?_,?_,hw'.inj,?_,hw'.ginj,hw'.apart,hw'.dead,hw'.kap⟩
 ·intro b o hb hx
  simp only[Em.addG]
  rw[if_neg (by have:=hw.size;omega)]
  exact hw.gnew b o hb hx
 ·intro b o u hg
  simp only[Em.addG]at hg
  split at hg
  ·rename_i hb
   subst hb
   refine ⟨by rw[World.cell?_alloc_new];exact hg,?_⟩
   obtain ⟨hlt,rfl⟩:=Array.getElem?_eq_some_iff.1 hg
   have:=h1 o hlt
   simpa [hlt] using this
  ·exact hw'.gok b o u hg
 ·intro i b hb
  obtain ⟨B',vs',g1,g2,g3,g4,g5,g6,g7⟩:=hw'.box i b hb
  have hne:b≠w.heap.size:=by have:=hw.ι_lt hb;omega
  refine ⟨B',vs',g1,g2,g3,fun j hj=>⟨(g4 j hj).1.mono hle,(g4 j hj).2⟩,g5,g6,fun o=>?_⟩
  simp only[Em.addG,if_neg hne];exact g7 o
 ·intro g b cap cur hg
  obtain ⟨e',vs',inf,g1,g2,g3,g4,g5,g6,g7,g8⟩:=hw'.grp g b cap cur hg
  have hne:b≠w.heap.size:=by have:=hw.γ_lt hg;omega
  exact ⟨e',vs',inf,g1,g2,g3,g4,g5,g6,g7,fun o ho=>by simp only[Em.addG,if_neg hne];exact g8 o ho⟩
theorem HR.setbox (hw:HR P c E st w) {i b:Nat} (hb:E.ι i=some b) {B:Box} (hB:st.box[i]? = some B) (hf:B.fz=false) (cells:List D) (vs vs':Array Value) (hv:w.heap[b]? = some (.cells vs B.e (0,0))) (hsz:vs'.size=vs.size)
   (hs:cells.length≤vs'.size) (hR:∀ j,j<cells.length→RD E (cells.getD j default) (vs'.getD j undef)∧(vs'.getD j undef).oneCell'=true) :
   HR P c E { st with box:=st.box.set i { B with cells:=cells } } (w.setRow b vs'):=by
 have hnone:∀ o,E.G b o=none:=by
   obtain ⟨B',_,h1,_,_,_,_,_,h7⟩:=hw.box i b hb
   rw[hB]at h1
   obtain rfl:B=B':=by simpa using h1
   exact h7
 have hbk:BK P { B with cells:=cells } vs' (E.κ i):=by
   obtain ⟨B',us,h1,h2,_,_,_,⟨hfm,h6⟩,_⟩:=hw.box i b hb
   rw[hB]at h1
   obtain rfl:B=B':=by simpa using h1
   rw[hv,objOf_cells us (hfm.symm.trans hf)]at h2
   obtain rfl:vs=us:=by simpa using h2
   exact ⟨h6.1,fun c0 h0=>by obtain ⟨inf,q1,q2,q3⟩:=h6.2 c0 h0;exact ⟨inf,q1,by rw[hsz];exact q2,q3⟩⟩
 have hX:c.w0.heap.size≤b∨c.X b:=by obtain ⟨_,_,_,_,_,_,h5,_⟩:=hw.box i b hb;exact h5
 have hfm:B.fz=B.m:=by
   obtain ⟨B',us,h1,h2,_,_,_,⟨hfm,_⟩,_⟩:=hw.box i b hb
   rw[hB]at h1
   obtain rfl:B=B':=by simpa using h1
   exact hfm
 refine ⟨hw.os,hw.tape,⟨hw.output.1,fun a ha=>(frozen_setRow w _ _ a).trans (hw.output.2 a ha)⟩,by simp;exact hw.size,?_,hw.le,hw.gnew,?_,?_,hw.inj,?_,hw.ginj,hw.apart,fun j b' hj=>?_,hw.kap⟩
 · intro k hk hx
   rw[setRow_other w b k vs' (fun e=>by subst e;rcases hX with h | h;omega;exact hx h)]
   exact hw.old k hk hx
 · intro b' o u hg
   have hne:b'≠b:=fun e=>by subst e;rw[hnone]at hg;cases hg
   rw[cell_setRow_other w b vs' ⟨b',o,none⟩ hne]
   exact hw.gok b' o u hg
 · intro j b' hj
   by_cases hij:j=i
   · subst hij
     rw[hb]at hj
     obtain rfl:b=b':=by simpa using hj
     exact ⟨{ B with cells:=cells },vs',by simp[(List.getElem?_eq_some_iff.1 hB).1],(by rw[objOf_cells (B:={ B with cells:=cells }) vs' (hfm.symm.trans hf)];exact setRow_heap w b vs vs' B.e (0,0) hv),hs,hR,hX,⟨hfm,hbk⟩,hnone⟩
   · obtain ⟨B',ws,h1,h2,h3⟩:=hw.box j b' hj
     have hne:b'≠b:=fun e=>by subst e;exact hij (hw.inj j i b' hj hb)
     exact ⟨B',ws,by simp[Ne.symm hij];exact h1,by rw[setRow_other w b b' vs' hne];exact h2,h3⟩
 · intro g b' cap cur hg
   obtain ⟨e',ws,inf,g1,g2,g3⟩:=hw.grp g b' cap cur hg
   have hne:b'≠b:=fun e=>by subst e;exact hw.apart i g b' cap cur hb hg
   exact ⟨e',ws,inf,g1,by rw[setRow_other w b b' vs' hne];exact g2,g3⟩
 · obtain ⟨B',h1,h2⟩:=hw.dead j b' hj
   have hne : i ≠ j := fun e => by subst e; rw [hB] at h1; obtain rfl : B = B' := by simpa using h1
                                   rw[hf]at h2;cases h2.1
   exact ⟨B',by simp[hne];exact h1,h2⟩
theorem HR.putbox (hw:HR P c E st w) {i b:Nat} (hb:E.ι i=some b) {B:Box} (hB:st.box[i]? = some B) (hm:B.m=true) (hap:B.ap=false) (cells:List D) (vs':Array Value) {w':World}
   (h1:w'.os=w.os) (h2:w'.tape=w.tape∧w.drawn≤w'.drawn) (h3:w'.output=w.output) (h4:w'.heap.size=w.heap.size) (h5:∀ k,k≠b→w'.heap[k]? = w.heap[k]?) (h6:∀ a,w'.frozen? a=w.frozen? a)
   (hv:w'.heap[b]? = some (objOf { B with cells:=cells } vs'))
   (hs:cells.length≤vs'.size) (hR:∀ j,j<cells.length→RD E (cells.getD j default) (vs'.getD j undef)∧(vs'.getD j undef).oneCell'=true) :
   HR P c E { st with box:=st.box.set i { B with cells:=cells } } w':=by
 obtain ⟨B',us,q1,q2,q3,q4,hX,⟨hfm,hbk⟩,hnone⟩:=hw.box i b hb
 rw[hB]at q1
 obtain rfl:B=B':=by simpa using q1
 have hbk':BK P { B with cells:=cells } vs' (E.κ i):=⟨hbk.1,fun c0 h0=>by have:=hbk.1;rw[hap,h0]at this;cases this⟩
 refine ⟨h1.trans hw.os,td hw.tape h2,⟨h3.trans hw.output.1,fun a ha=>(h6 a).trans (hw.output.2 a ha)⟩,by rw[h4];exact hw.size,?_,hw.le,hw.gnew,?_,?_,hw.inj,?_,hw.ginj,hw.apart,fun j b' hj=>?_,hw.kap⟩
 · intro k hk hx
   rw[h5 k (fun e=>by subst e;rcases hX with h | h;omega;exact hx h)]
   exact hw.old k hk hx
 · intro b' o u hg
   have hne:b'≠b:=fun e=>by subst e;rw[hnone]at hg;cases hg
   have:=hw.gok b' o u hg
   refine ⟨?_,this.2⟩
   rw[←this.1]
   exact cell?_of_block (h5 b' hne) _
 · intro j b' hj
   by_cases hij:j=i
   · subst hij
     rw[hb]at hj
     obtain rfl:b=b':=by simpa using hj
     exact ⟨{ B with cells:=cells },vs',by simp[(List.getElem?_eq_some_iff.1 hB).1],hv,hs,hR,hX,⟨hfm,hbk'⟩,hnone⟩
   · obtain ⟨B',ws,k1,k2,k3⟩:=hw.box j b' hj
     have hne:b'≠b:=fun e=>by subst e;exact hij (hw.inj j i b' hj hb)
     exact ⟨B',ws,by simp[Ne.symm hij];exact k1,by rw[h5 b' hne];exact k2,k3⟩
 · intro g b' cap cur hg
   obtain ⟨e',ws,inf,g1,g2,g3⟩:=hw.grp g b' cap cur hg
   have hne:b'≠b:=fun e=>by subst e;exact hw.apart i g b' cap cur hb hg
   exact ⟨e',ws,inf,g1,by rw[h5 b' hne];exact g2,g3⟩
 · obtain ⟨B',k1,k2,k3⟩:=hw.dead j b' hj
   have hne : i ≠ j := fun e => by subst e; rw [hB] at k1; obtain rfl : B = B' := by simpa using k1
                                   rw[hm]at k3;cases k3
   exact ⟨B',by simp[hne];exact k1,k2,k3⟩
theorem HR.newgrp (hw:HR P c E st w) (vs:Array Value) (e:TypeId) (inf:TypeInfo) (cap cur:Nat) (hi:P.info? e=some inf) (hs:vs.size=cap*inf.size) (hc:cur≤vs.size) (hm:cap≤maxLen)
  (h1:∀ j,j<cur→(vs.getD j undef).oneCell'=true) :
  E.le ((E.addG w.heap.size fun o=>if o<cur then vs[o]? else none).setγ st.grp.length (w.heap.size,cap,cur)) ∧
  HR P c ((E.addG w.heap.size fun o=>if o<cur then vs[o]? else none).setγ st.grp.length (w.heap.size,cap,cur)) { st with grp:=st.grp ++ [(cur,e)] } (w.alloc (.cells vs e)):=by
 have hw':=hw.garbage vs e
 have hle1:=hw.le_addG (Nat.le_refl w.heap.size) (fun o=>if o<cur then vs[o]? else none)
 have hle:E.le ((E.addG w.heap.size fun o=>if o<cur then vs[o]? else none).setγ st.grp.length (w.heap.size,cap,cur)):=by
  refine hle1.trans ⟨fun _ _ _ h=>h,fun _ _ h=>h,fun _ _ _=>rfl,fun g b cap' cur' h=>⟨b,cap',cur',?_,.inl ⟨rfl,rfl,rfl⟩⟩⟩
  have:=hw.γ_grp (show E.γ g=some (b,cap',cur') from h)
  simp only[Em.setγ];rw[if_neg (by omega)];exact h
 refine ⟨hle,hw'.os,hw'.tape,hw'.output,hw'.size,hw'.old,hw.le.trans hle,?_,?_,?_,hw'.inj,?_,?_,?_,hw'.dead,hw'.kap⟩
 ·intro b o hb hx
  simp only[Em.addG,Em.setγ]
  rw[if_neg (by have:=hw.size;omega)]
  exact hw.gnew b o hb hx
 ·intro b o u hg
  simp only[Em.addG,Em.setγ]at hg
  split at hg
  ·rename_i hb
   subst hb
   split at hg
   ·rename_i ho
    refine ⟨by rw[World.cell?_alloc_new];exact hg,?_⟩
    obtain ⟨hlt,rfl⟩:=Array.getElem?_eq_some_iff.1 hg
    have:=h1 o ho
    simpa [hlt] using this
   ·cases hg
  ·exact hw'.gok b o u hg
 ·intro i b hb
  obtain ⟨B',vs',g1,g2,g3,g4,g5,g6,g7⟩:=hw'.box i b hb
  have hne:b≠w.heap.size:=by have:=hw.ι_lt hb;omega
  refine ⟨B',vs',g1,g2,g3,fun j hj=>⟨(g4 j hj).1.mono hle,(g4 j hj).2⟩,g5,g6,fun o=>?_⟩
  simp only[Em.addG,Em.setγ,if_neg hne];exact g7 o
 ·intro g b cap' cur' hg
  simp only[Em.setγ]at hg
  split at hg
  ·rename_i hgg
   subst hgg
   simp only[Option.some.injEq,Prod.mk.injEq]at hg
   obtain ⟨rfl,rfl,rfl⟩:=hg
   exact ⟨e,vs,inf,by simp,heap_alloc_new w _,hi,hs,hc,hm,.inl hw.size,fun o ho=>by simp only[Em.addG,Em.setγ,if_true];rw[if_neg (by omega)]⟩
  ·obtain ⟨e',vs',inf',g1,g2,g3,g4,g5,g6,g7,g8⟩:=hw'.grp g b cap' cur' hg
   have hne:b≠w.heap.size:=by have:=hw.γ_lt (show E.γ g=some (b,cap',cur') from hg);omega
   exact ⟨e',vs',inf',by rw[List.getElem?_append_left (hw.γ_grp hg)];exact g1,g2,g3,g4,g5,g6,g7,fun o ho=>by simp only[Em.addG,Em.setγ,if_neg hne];exact g8 o ho⟩
 ·intro g h b cap1 cur1 cap2 cur2 hg hh
  simp only[Em.setγ]at hg hh
  split at hg <;> split at hh
  ·omega
  ·have:=hw.γ_lt (show E.γ h=some (b,cap2,cur2) from hh);simp at hg;omega
  ·have:=hw.γ_lt (show E.γ g=some (b,cap1,cur1) from hg);simp at hh;omega
  ·exact hw.ginj g h b _ _ _ _ hg hh
 ·intro i g b cap' cur' hi' hg
  simp only[Em.setγ]at hg
  split at hg
  ·have:=hw.ι_lt (show E.ι i=some b from hi');simp at hg;omega
  ·exact hw.apart i g b cap' cur' hi' hg
theorem getD_splice (vs:Array Value) (news:List Value) (cur o:Nat) (hfit:cur+news.length≤vs.size) :
  (vs.toList.take cur ++ news ++ vs.toList.drop (cur+news.length)).toArray[o]? = if o<cur then vs[o]? else if o<cur+news.length then news[o - cur]? else vs[o]?:=by
 simp only[List.getElem?_toArray]
 split
 ·rename_i h
  rw[List.append_assoc,List.getElem?_append_left (by simp;omega),List.getElem?_take,if_pos h];simp
 ·split
  ·rw[List.append_assoc,List.getElem?_append_right (by simp;omega),List.getElem?_append_left (by simp;omega)]
   congr 1;simp;omega
  ·rw[List.getElem?_append_right (by simp;omega),List.getElem?_drop]
   simp
   congr 1;omega
theorem HR.grpgrow (hw:HR P c E st w) {g b cap cur:Nat} (hg:E.γ g=some (b,cap,cur)) {e:TypeId} (he:st.grp[g]? = some (cur,e)) (vs:Array Value) (hv:w.heap[b]? = some (.cells vs e (0,0))) (news:List Value)
  (hpos:0<news.length) (hfit:cur+news.length≤vs.size) (h1:∀ u∈news,u.oneCell'=true) :
  E.le ((E.addG b fun o=>if cur≤o∧o<cur+news.length then news[o - cur]? else E.G b o).setγ g (b,cap,cur+news.length)) ∧
  HR P c ((E.addG b fun o=>if cur≤o∧o<cur+news.length then news[o - cur]? else E.G b o).setγ g (b,cap,cur+news.length)) { st with grp:=st.grp.set g (cur+news.length,e) }
   (w.setRow b (vs.toList.take cur ++ news ++ vs.toList.drop (cur+news.length)).toArray):=by
 obtain ⟨e',vs0,inf,q1,q2,q3,q4,q5,q6,q7,q8⟩:=hw.grp g b cap cur hg
 rw[hv]at q2
 obtain ⟨rfl,rfl⟩:vs=vs0∧e=e':=by simpa using q2
 have hle:E.le ((E.addG b fun o=>if cur≤o∧o<cur+news.length then news[o - cur]? else E.G b o).setγ g (b,cap,cur+news.length)):=by
  refine ⟨fun b' o u h=>?_,fun _ _ h=>h,fun _ _ _=>rfl,fun g' b' cap' cur' h=>?_⟩
  ·simp only[Em.addG,Em.setγ]
   split
   ·rename_i hb
    subst hb
    rw[if_neg];exact h
    intro ho
    rw[q8 o ho.1]at h;cases h
   ·exact h
  ·simp only[Em.setγ]
   split
   ·rename_i hgg
    subst hgg
    rw[hg]at h
    simp only[Option.some.injEq,Prod.mk.injEq]at h
    obtain ⟨rfl,rfl,rfl⟩:=h
    exact ⟨_,_,_,rfl,.inr (by omega)⟩
   ·exact ⟨_,_,_,h,.inl ⟨rfl,rfl,rfl⟩⟩
 refine ⟨hle,hw.os,hw.tape,⟨hw.output.1,fun a ha=>(frozen_setRow w _ _ a).trans (hw.output.2 a ha)⟩,by simp;exact hw.size,?_,hw.le.trans hle,?_,?_,?_,hw.inj,?_,?_,?_,hw.dead,hw.kap⟩
 ·intro k hk hx
  rw[setRow_other w b k _ (fun e=>by subst e;rcases q7 with q | q;omega;exact hx q)]
  exact hw.old k hk hx
 ·intro b' o hb hx
  simp only[Em.addG,Em.setγ]
  rw[if_neg (fun e=>by subst e;rcases q7 with q | q;omega;exact hx q)]
  exact hw.gnew b' o hb hx
 ·intro b' o u hgo
  simp only[Em.addG,Em.setγ]at hgo
  split at hgo
  ·rename_i hb
   subst hb
   rw[cell_setRow_same w b' o vs _ e (0,0) hv,getD_splice vs news cur o hfit]
   split at hgo
   ·rename_i ho
    rw[if_neg (by omega),if_pos ho.2]
    refine ⟨hgo,h1 u ?_⟩
    exact List.mem_of_getElem? hgo
   ·rename_i ho
    have hlt:o<cur:=by
     rcases Nat.lt_or_ge o cur with h' | h'
     ·exact h'
     ·rw[q8 o h']at hgo;cases hgo
    rw[if_pos hlt]
    have:=hw.gok b' o u hgo
    rw[cell_of_row w b' o vs e (0,0) hv]at this
    exact this
  ·rename_i hb
   rw[cell_setRow_other w b _ ⟨b',o,none⟩ hb]
   exact hw.gok b' o u hgo
 ·intro i b' hb
  obtain ⟨B',vs',g1,g2,g3,g4,g5,g6,g7⟩:=hw.box i b' hb
  have hne:b'≠b:=fun e=>by subst e;exact hw.apart i g b' cap cur hb hg
  refine ⟨B',vs',g1,by rw[setRow_other w b b' _ hne];exact g2,g3,fun j hj=>⟨(g4 j hj).1.mono hle,(g4 j hj).2⟩,g5,g6,fun o=>?_⟩
  simp only[Em.addG,Em.setγ,if_neg hne];exact g7 o
 ·intro g' b' cap' cur' hg'
  simp only[Em.setγ]at hg'
  split at hg'
  ·rename_i hgg
   subst hgg
   simp only[Option.some.injEq,Prod.mk.injEq]at hg'
   obtain ⟨rfl,rfl,rfl⟩:=hg'
   refine ⟨e,_,inf,by simp[(List.getElem?_eq_some_iff.1 he).1],setRow_heap w b vs _ e (0,0) hv,q3,?_,?_,q6,q7,fun o ho=>?_⟩
   ·rw[←q4];simp;omega
   ·simp;omega
   ·simp only[Em.addG,Em.setγ,if_true]
    rw[if_neg (by omega)]
    exact q8 o (by omega)
  ·rename_i hgg
   obtain ⟨e2,vs2,inf2,g1,g2,g3,g4,g5,g6,g7,g8⟩:=hw.grp g' b' cap' cur' hg'
   have hne:b'≠b:=fun e=>by subst e;exact hgg (hw.ginj g' g b' _ _ _ _ hg' hg)
   exact ⟨e2,vs2,inf2,by simp[Ne.symm hgg];exact g1,by rw[setRow_other w b b' _ hne];exact g2,g3,g4,g5,g6,g7,fun o ho=>by simp only[Em.addG,Em.setγ,if_neg hne];exact g8 o ho⟩
 ·intro g' h b' cap1 cur1 cap2 cur2 hg' hh
  simp only[Em.setγ]at hg' hh
  split at hg' <;> split at hh
  ·omega
  ·rename_i e1 e2
   simp only[Option.some.injEq,Prod.mk.injEq]at hg'
   obtain ⟨rfl,_,_⟩:=hg'
   exact absurd (hw.ginj h g b _ _ _ _ hh hg) e2
  ·rename_i e1 e2
   simp only[Option.some.injEq,Prod.mk.injEq]at hh
   obtain ⟨rfl,_,_⟩:=hh
   exact absurd (hw.ginj g' g b _ _ _ _ hg' hg) e1
  ·exact hw.ginj g' h b' _ _ _ _ hg' hh
 ·intro i g' b' cap' cur' hi' hg'
  simp only[Em.setγ]at hg'
  split at hg'
  ·simp only[Option.some.injEq,Prod.mk.injEq]at hg'
   obtain ⟨rfl,_,_⟩:=hg'
   exact hw.apart i g b cap cur hi' hg
  ·exact hw.apart i g' b' cap' cur' hi' hg'
theorem HR.dummy (hw:HR P c E st w) (e:TypeId):HR P c E { st with grp:=st.grp ++ [(0,e)] } w:=
 ⟨hw.os,hw.tape,hw.output,hw.size,hw.old,hw.le,hw.gnew,hw.gok,hw.box,hw.inj,fun g b cap cur h=>by
  obtain ⟨e',vs,inf,q1,q⟩:=hw.grp g b cap cur h
  exact ⟨e',vs,inf,by rw[List.getElem?_append_left (List.getElem?_eq_some_iff.1 q1).1];exact q1,q⟩,hw.ginj,hw.apart,hw.dead,hw.kap⟩
theorem HR.grpmove (hw:HR P c E st w) {g cur0:Nat} (hg0:∀ b cap k,E.γ g=some (b,cap,k)→k=cur0) {e:TypeId} (he:st.grp[g]? = some (cur0,e)) (vs:Array Value) (inf:TypeInfo) (cap cur:Nat) (hi:P.info? e=some inf)
  (hs:vs.size=cap*inf.size) (hc:cur≤vs.size) (hm:cap≤maxLen) (hcur:cur0<cur) (h1:∀ j,j<cur→(vs.getD j undef).oneCell'=true) :
  E.le ((E.addG w.heap.size fun o=>if o<cur then vs[o]? else none).setγ g (w.heap.size,cap,cur)) ∧
  HR P c ((E.addG w.heap.size fun o=>if o<cur then vs[o]? else none).setγ g (w.heap.size,cap,cur)) { st with grp:=st.grp.set g (cur,e) } (w.alloc (.cells vs e)):=by
 have hw':=hw.garbage vs e
 have hle1:=hw.le_addG (Nat.le_refl w.heap.size) (fun o=>if o<cur then vs[o]? else none)
 have hle:E.le ((E.addG w.heap.size fun o=>if o<cur then vs[o]? else none).setγ g (w.heap.size,cap,cur)):=by
  refine hle1.trans ⟨fun _ _ _ h=>h,fun _ _ h=>h,fun _ _ _=>rfl,fun g' b cap' cur' h=>?_⟩
  simp only[Em.setγ]
  split
  ·rename_i hgg
   subst hgg
   have:=hg0 _ _ _ h
   exact ⟨_,_,_,rfl,.inr (by omega)⟩
  ·exact ⟨b,cap',cur',h,.inl ⟨rfl,rfl,rfl⟩⟩
 refine ⟨hle,hw'.os,hw'.tape,hw'.output,hw'.size,hw'.old,hw.le.trans hle,?_,?_,?_,hw'.inj,?_,?_,?_,hw'.dead,hw'.kap⟩
 ·intro b o hb hx
  simp only[Em.addG,Em.setγ]
  rw[if_neg (by have:=hw.size;omega)]
  exact hw.gnew b o hb hx
 ·intro b o u hg
  simp only[Em.addG,Em.setγ]at hg
  split at hg
  ·rename_i hb
   subst hb
   split at hg
   ·rename_i ho
    refine ⟨by rw[World.cell?_alloc_new];exact hg,?_⟩
    obtain ⟨hlt,rfl⟩:=Array.getElem?_eq_some_iff.1 hg
    have:=h1 o ho
    simpa [hlt] using this
   ·cases hg
  ·exact hw'.gok b o u hg
 ·intro i b hb
  obtain ⟨B',vs',g1,g2,g3,g4,g5,g6,g7⟩:=hw'.box i b hb
  have hne:b≠w.heap.size:=by have:=hw.ι_lt hb;omega
  refine ⟨B',vs',g1,g2,g3,fun j hj=>⟨(g4 j hj).1.mono hle,(g4 j hj).2⟩,g5,g6,fun o=>?_⟩
  simp only[Em.addG,Em.setγ,if_neg hne];exact g7 o
 ·intro g' b cap' cur' hg
  simp only[Em.setγ]at hg
  split at hg
  ·rename_i hgg
   subst hgg
   simp only[Option.some.injEq,Prod.mk.injEq]at hg
   obtain ⟨rfl,rfl,rfl⟩:=hg
   exact ⟨e,vs,inf,by simp[(List.getElem?_eq_some_iff.1 he).1],heap_alloc_new w _,hi,hs,hc,hm,.inl hw.size,fun o ho=>by simp only[Em.addG,Em.setγ,if_true];rw[if_neg (by omega)]⟩
  ·rename_i hgg
   obtain ⟨e',vs',inf',g1,g2,g3,g4,g5,g6,g7,g8⟩:=hw'.grp g' b cap' cur' hg
   have hne:b≠w.heap.size:=by have:=hw.γ_lt (show E.γ g'=some (b,cap',cur') from hg);omega
   exact ⟨e',vs',inf',by simp[Ne.symm hgg];exact g1,g2,g3,g4,g5,g6,g7,fun o ho=>by simp only[Em.addG,Em.setγ,if_neg hne];exact g8 o ho⟩
 ·intro g1 h b cap1 cur1 cap2 cur2 hg hh
  simp only[Em.setγ]at hg hh
  split at hg <;> split at hh
  ·omega
  ·have:=hw.γ_lt (show E.γ h=some (b,cap2,cur2) from hh);simp at hg;omega
  ·have:=hw.γ_lt (show E.γ g1=some (b,cap1,cur1) from hg);simp at hh;omega
  ·exact hw.ginj g1 h b _ _ _ _ hg hh
 ·intro i g' b cap' cur' hi' hg
  simp only[Em.setγ]at hg
  split at hg
  ·have:=hw.ι_lt (show E.ι i=some b from hi');simp at hg;omega
  ·exact hw.apart i g' b cap' cur' hi' hg
def Em.kill (E:Em) (i:Nat):Em:={ E with ι:=fun j=>if j=i then none else E.ι j,δ:=fun j=>if j=i then E.ι i else E.δ j }
theorem HR.kill (hw:HR P c E st w) {i b:Nat} (hb:E.ι i=some b) {B:Box} (hB:st.box[i]? = some B) (hBm:B.m=false) :
  E.le (E.kill i)∧HR P c (E.kill i) { st with box:=st.box.set i { B with cells:=[],fz:=true } } w:=by
 have hle:E.le (E.kill i):=by
  refine ⟨fun _ _ _ h=>h,fun j b' h=>?_,fun _ _ _=>rfl,fun _ b cap cur h=>⟨b,cap,cur,h,.inl ⟨rfl,rfl,rfl⟩⟩⟩
  by_cases hj:j=i
  ·subst hj
   refine .inr ?_
   simp only[Em.kill,if_true]
   rcases h with h | h
   ·exact h
   ·obtain ⟨B',q1,q2⟩:=hw.dead j b' h
    obtain ⟨B2,_,q3,_,_,_,_,⟨q4,_⟩,_⟩:=hw.box j b hb
    rw[q1]at q3
    obtain rfl:B'=B2:=by simpa using q3
    obtain ⟨q2,q5⟩:=q2
    rw[q4,q5]at q2;cases q2
  ·rcases h with h | h
   ·exact .inl (by simp only[Em.kill,if_neg hj];exact h)
   ·exact .inr (by simp only[Em.kill,if_neg hj];exact h)
 have hι:∀ {j b'},(E.kill i).ι j=some b'→j≠i∧E.ι j=some b':=fun {j b'} h=>by
  simp only[Em.kill]at h
  split at h
  ·cases h
  ·exact ⟨by assumption,h⟩
 refine ⟨hle,hw.os,hw.tape,hw.output,hw.size,hw.old,hw.le.trans hle,hw.gnew,hw.gok,fun j b' hj=>?_,fun j k b' hj hk=>hw.inj j k b' (hι hj).2 (hι hk).2,hw.grp,hw.ginj,fun j g b' cap cur hj=>hw.apart j g b' cap cur (hι hj).2,fun j b' hj=>?_,fun j c0 h0=>(hw.kap j c0 h0).imp fun b' h=>hle.ι _ _ h⟩
 ·obtain ⟨hne,hj⟩:=hι hj
  obtain ⟨B',vs,h1,h2,h3,h4,h5⟩:=hw.box j b' hj
  exact ⟨B',vs,by simp[Ne.symm hne];exact h1,h2,h3,fun k hk=>⟨(h4 k hk).1.mono hle,(h4 k hk).2⟩,h5⟩
 ·simp only[Em.kill]at hj
  split at hj
  ·rename_i hji
   subst hji
   exact ⟨{ B with cells:=[],fz:=true },by simp[(List.getElem?_eq_some_iff.1 hB).1],rfl,hBm⟩
  ·rename_i hji
   obtain ⟨B',h1,h2⟩:=hw.dead j b' hj
   exact ⟨B',by simp[Ne.symm hji];exact h1,h2⟩
def Em.frz (E:Em) (i b:Nat) (k:Nat) (vs:Array Value):Em:={ E.kill i with G:=fun b' o=>if b'=b then (if o<k then some (vs.getD o undef) else none) else E.G b' o }
theorem HR.freeze (hw:HR P c E st w) {i b:Nat} (hb:E.ι i=some b) {B:Box} (hB:st.box[i]? = some B) (hBm:B.m=false) (hBf:B.fz=false) (k:Nat) (hk:k≤B.cells.length) :
  ∃ vs:Array Value,w.heap[b]? = some (.cells vs B.e (0,0))∧B.cells.length≤vs.size∧(∀ j,j<B.cells.length→RD E (B.cells.getD j default) (vs.getD j undef)) ∧
   E.le (E.frz i b k vs)∧HR P c (E.frz i b k vs) { st with box:=st.box.set i { B with cells:=[],fz:=true } } w:=by
 obtain ⟨B',vs,q1,q2,q3,q4,q5,q6,q7⟩:=hw.box i b hb
 obtain rfl:B=B':=by rw[hB]at q1;simpa using q1
 rw[objOf_cells vs hBm]at q2
 obtain ⟨hle,hk2⟩:=hw.kill hb hB hBm
 have hG:∀ b' o u,E.G b' o=some u→(E.frz i b k vs).G b' o=some u:=fun b' o u h=>by
  have hne:b'≠b:=fun e=>by subst e;rw[q7]at h;cases h
  simp only[Em.frz,if_neg hne];exact h
 have hle1:(E.kill i).le (E.frz i b k vs):=⟨hG,fun _ _ h=>h,fun _ _ _=>rfl,fun _ b cap cur h=>⟨b,cap,cur,h,.inl ⟨rfl,rfl,rfl⟩⟩⟩
 refine ⟨vs,q2,q3,fun j hj=>(q4 j hj).1,hle.trans hle1,hk2.os,hk2.tape,hk2.output,hk2.size,hk2.old,hk2.le.trans hle1,fun b' o hlt hx=>?_,fun b' o u hg=>?_,fun j b' hj=>?_,hk2.inj,fun g b' cap cur hg=>?_,hk2.ginj,hk2.apart,hk2.dead,fun j c0 h0=>(hk2.kap j c0 h0).imp fun b' h=>hle1.ι _ _ h⟩
 ·have hne:b'≠b:=fun e=>by subst e;rcases q5 with h | h;omega;exact hx h
  simp only[Em.frz,if_neg hne];exact hw.gnew b' o hlt hx
 ·by_cases hne:b'=b
  ·subst hne
   simp only[Em.frz,if_true]at hg
   split at hg
   ·rename_i ho
    obtain rfl:=Option.some.inj hg
    have hlt:o<vs.size:=by omega
    refine ⟨?_,(q4 o (by omega)).2⟩
    rw[cell_of_row w b' o vs B.e (0,0) q2]
    simp[hlt]
   ·cases hg
  ·simp only[Em.frz,if_neg hne]at hg
   exact hw.gok b' o u hg
 ·obtain ⟨B',us,h1,h2,h3,h4,h5,h6,h7⟩:=hk2.box j b' hj
  refine ⟨B',us,h1,h2,h3,fun m hm=>⟨(h4 m hm).1.mono hle1,(h4 m hm).2⟩,h5,h6,fun o=>?_⟩
  have hne:b'≠b:=fun e=>by
   subst e
   have hj':(E.kill i).ι j=some b':=hj
   simp only[Em.kill]at hj'
   split at hj'
   ·cases hj'
   ·rename_i hji;exact hji (hw.inj j i b' hj' hb)
  simp only[Em.frz,if_neg hne];exact h7 o
 ·obtain ⟨e,us,inf,h1,h2,h3,h4,h5,h6,h7,h8⟩:=hk2.grp g b' cap cur hg
  refine ⟨e,us,inf,h1,h2,h3,h4,h5,h6,h7,fun o ho=>?_⟩
  have hne:b'≠b:=fun e=>by subst e;exact hw.apart i g b' cap cur hb hg
  simp only[Em.frz,if_neg hne];exact h8 o ho
theorem HR.retell (hw:HR P c E st w) {i:Nat} {B:Box} (hB:st.box[i]? = some B) (hf:B.fz=false) (cs:List D) (hl:cs.length=B.cells.length)
  (hR:∀ b vs,E.ι i=some b→w.heap[b]? = some (objOf B vs)→∀ j,j<cs.length→RD E (B.cells.getD j default) (vs.getD j undef)→RD E (cs.getD j default) (vs.getD j undef)) :
  HR P c E { st with box:=st.box.set i { B with cells:=cs } } w:=by
 have hlt:i<st.box.length:=(List.getElem?_eq_some_iff.1 hB).1
 refine ⟨hw.os,hw.tape,hw.output,hw.size,hw.old,hw.le,hw.gnew,hw.gok,fun j b hj=>?_,hw.inj,hw.grp,hw.ginj,hw.apart,fun j b hj=>?_,hw.kap⟩
 ·obtain ⟨B',vs,h1,h2,h3,h4,h5,h6,h7⟩:=hw.box j b hj
  by_cases e:i=j
  ·subst e
   obtain rfl:B=B':=by rw[hB]at h1;simpa using h1
   refine ⟨{ B with cells:=cs },vs,by simp[hlt],h2.trans (congrArg some (objOf_congr (B:=B) (B':={ B with cells:=cs }) vs rfl rfl fun _=>hl).symm),by simp only;omega,fun k hk=>?_,h5,h6,h7⟩
   exact ⟨hR b vs hj h2 k hk (h4 k (by simp only at hk;omega)).1,(h4 k (by simp only at hk;omega)).2⟩
  ·exact ⟨B',vs,by simp[e];exact h1,h2,h3,h4,h5,h6,h7⟩
 ·obtain ⟨B',h1,h2,h3⟩:=hw.dead j b hj
  by_cases e:i=j
  ·subst e
   obtain rfl:B=B':=by rw[hB]at h1;simpa using h1
   rw[hf]at h2;cases h2
  ·exact ⟨B',by simp[e];exact h1,h2,h3⟩
theorem HR.wild (hw:HR P c E st w) {b:Nat} (hι:∀ j,E.ι j≠some b) (hγ:∀ g cap cur,E.γ g≠some (b,cap,cur)) (hG:∀ o,E.G b o=none) (hX:c.w0.heap.size≤b∨c.X b) (vs:Array Value):HR P c E st (w.setRow b vs):=by
 refine ⟨hw.os,hw.tape,⟨hw.output.1,fun a ha=>(frozen_setRow w _ _ a).trans (hw.output.2 a ha)⟩,by simp;exact hw.size,?_,hw.le,hw.gnew,?_,?_,hw.inj,?_,hw.ginj,hw.apart,hw.dead,hw.kap⟩
 ·intro k hk hx
  rw[setRow_other w b k vs (fun e=>by subst e;rcases hX with h | h;omega;exact hx h)]
  exact hw.old k hk hx
 ·intro b' o u hg
  have hne:b'≠b:=fun e=>by subst e;rw[hG]at hg;cases hg
  rw[cell_setRow_other w b vs ⟨b',o,none⟩ hne]
  exact hw.gok b' o u hg
 ·intro j b' hj
  obtain ⟨B',ws,h1,h2,h3⟩:=hw.box j b' hj
  have hne:b'≠b:=fun e=>by subst e;exact hι j hj
  exact ⟨B',ws,h1,by rw[setRow_other w b b' vs hne];exact h2,h3⟩
 ·intro g b' cap cur hg
  obtain ⟨e',ws,inf,g1,g2,g3⟩:=hw.grp g b' cap cur hg
  have hne:b'≠b:=fun e=>by subst e;exact hγ g cap cur hg
  exact ⟨e',ws,inf,g1,by rw[setRow_other w b b' vs hne];exact g2,g3⟩
def Em.addκ (E:Em) (i b:Nat) (k:Option Nat):Em:={ E with ι:=fun j=>if j=i then some b else E.ι j,κ:=fun j=>if j=i then k else E.κ j }
theorem HR.adopt (hw:HR P c E st w) {b:Nat} (hι:∀ j,E.ι j≠some b) (hγ:∀ g cap cur,E.γ g≠some (b,cap,cur)) (hG:∀ o,E.G b o=none) (hX:c.w0.heap.size≤b∨c.X b) (B:Box) (vs:Array Value) (k:Option Nat)
  (hv:w.heap[b]? = some (.cells vs B.e (0,0))) (hf:B.fz=false) (hk:BK P B vs k) (hs:B.cells.length≤vs.size) (hR:∀ j,j<B.cells.length→RD E (B.cells.getD j default) (vs.getD j undef)∧(vs.getD j undef).oneCell'=true) (hm:B.m=false:=by rfl) :
  E.le (E.addκ st.box.length b k)∧HR P c (E.addκ st.box.length b k) { st with box:=st.box ++ [B] } w:=by
 have hnew:∀ {j b'},E.N j b'→j≠st.box.length:=fun {j b'} h e=>by
  subst e
  rcases h with h | h
  ·have:=hw.ι_box h;omega
  ·have:=hw.δ_box h;omega
 have hle:E.le (E.addκ st.box.length b k):=
  ⟨fun _ _ _ h=>h,fun j b' h=>h.elim (fun h=>.inl (by simp only[Em.addκ];rw[if_neg (hnew (.inl h))];exact h)) .inr,fun j b' h=>by simp only[Em.addκ];rw[if_neg (hnew h)],fun _ b cap cur h=>⟨b,cap,cur,h,.inl ⟨rfl,rfl,rfl⟩⟩⟩
 have hcase:∀ {j b'},(E.addκ st.box.length b k).ι j=some b'→(j=st.box.length∧b=b')∨E.ι j=some b':=fun {j b'} h=>by
  simp only[Em.addκ]at h
  split at h
  ·exact .inl ⟨by assumption,by simpa using h⟩
  ·exact .inr h
 refine ⟨hle,hw.os,hw.tape,hw.output,hw.size,hw.old,hw.le.trans hle,hw.gnew,hw.gok,fun j b' hj=>?_,fun i j b' hi hj=>?_,hw.grp,hw.ginj,fun j g b' cap cur hj hg=>?_,fun j b' hj=>?_,fun j c0 h0=>?_⟩
 ·rcases hcase hj with ⟨rfl,rfl⟩ | hj
  ·exact ⟨B,vs,by simp,(by rw[objOf_cells vs hm];exact hv),hs,fun j hj=>⟨(hR j hj).1.mono hle,(hR j hj).2⟩,hX,⟨hf.trans hm.symm,by simpa [Em.addκ] using hk⟩,hG⟩
  ·obtain ⟨B',ws,h1,h2,h3,h4,h5,h6,h7⟩:=hw.box j b' hj
   exact ⟨B',ws,by rw[List.getElem?_append_left (hw.ι_box hj)];exact h1,h2,h3,fun k hk=>⟨(h4 k hk).1.mono hle,(h4 k hk).2⟩,h5,⟨h6.1,by simp only[Em.addκ];rw[if_neg (hnew (.inl hj))];exact h6.2⟩,h7⟩
 ·rcases hcase hi with ⟨rfl,rfl⟩ | hi <;> rcases hcase hj with ⟨rfl,hbb⟩ | hj
  ·rfl
  ·exact absurd hj (hι j)
  ·subst hbb;exact absurd hi (hι i)
  ·exact hw.inj i j b' hi hj
 ·rcases hcase hj with ⟨rfl,rfl⟩ | hj
  ·exact hγ g cap cur hg
  ·exact hw.apart j g b' cap cur hj hg
 ·obtain ⟨B',h1,h2⟩:=hw.dead j b' hj
  exact ⟨B',by rw[List.getElem?_append_left (hw.δ_box hj)];exact h1,h2⟩
 ·by_cases hj:j=st.box.length
  ·subst hj;exact ⟨b,.inl (by simp[Em.addκ])⟩
  ·simp only[Em.addκ,if_neg hj]at h0
   exact (hw.kap j c0 h0).imp fun b' h=>hle.ι _ _ h
end
end Go.Ab
namespace Go.Ab
open Go.RowKit
def RC (E:Em) (ds:List D) (us:Array Value):Prop:=
 us.size=ds.length∧∀ j,j<us.size→RD E (ds.getD j default) (us.getD j undef)∧(us.getD j undef).oneCell'=true
theorem RC.of_value {E:Em} {d:D} {u:Value} (h:RD E d u) (hd:(cellsD d).all oneD=true):RC E (cellsD d) u.cells:=
 ⟨(cellsD_RD h hd).1.symm,fun j hj=>(cellsD_RD h hd).2 j (by rw[(cellsD_RD h hd).1];exact hj)⟩
theorem putCells_length (cells:List D) (off:Nat) (new:List D) (h:off+new.length≤cells.length):(putCells cells off new).length=cells.length:=by
 simp[putCells];omega
theorem getD_putCells (cells:List D) (off:Nat) (new:List D) (h:off+new.length≤cells.length) (i:Nat) :
  (putCells cells off new).getD i default=if off≤i∧i<off+new.length then new.getD (i - off) default else cells.getD i default:=by
 unfold putCells
 split
 ·rename_i hi
  simp only[List.getD]
  rw[List.append_assoc,List.getElem?_append_right (by simp;omega),List.getElem?_append_left (by simp;omega)]
  congr 2;simp;omega
 ·rename_i hi
  simp only[List.getD]
  by_cases h1:i<off
  ·rw[List.append_assoc,List.getElem?_append_left (by simp;omega),List.getElem?_take,if_pos h1]
  ·rw[List.getElem?_append_right (by simp;omega),List.getElem?_drop]
   congr 2;simp;omega
def putVals (us:Array Value) (off:Nat) (vs:List Value):Array Value:=(us.toList.take off ++ vs ++ us.toList.drop (off+vs.length)).toArray
theorem putVals_size (us:Array Value) (off:Nat) (vs:List Value) (h:off+vs.length≤us.size):(putVals us off vs).size=us.size:=by
 simp[putVals];omega
theorem getD_putVals (us:Array Value) (off:Nat) (vs:List Value) (h:off+vs.length≤us.size) (i:Nat) :
  (putVals us off vs).getD i undef=if off≤i∧i<off+vs.length then vs.getD (i - off) undef else us.getD i undef:=by
 have e:∀ (a:Array Value) j,a.getD j undef=(a[j]?).getD undef:=fun a j=>by simp
 rw[e,putVals,getD_splice us vs off i h]
 by_cases h1:i<off
 ·rw[if_pos h1,if_neg (by omega),e]
 ·rw[if_neg h1]
  by_cases h2:i<off+vs.length
  ·rw[if_pos h2,if_pos ⟨by omega,h2⟩];rfl
  ·rw[if_neg h2,if_neg (by omega),e]
theorem RC.put {E:Em} {ds new:List D} {us vs:Array Value} (h:RC E ds us) (hn:RC E new vs) (off:Nat) (hfit:off+new.length≤ds.length):RC E (putCells ds off new) (putVals us off vs.toList):=by
 have hv:vs.toList.length=new.length:=by simpa using hn.1
 have hs:us.size=ds.length:=h.1
 refine ⟨by rw[putVals_size _ _ _ (by omega),putCells_length _ _ _ hfit,h.1],fun j hj=>?_⟩
 rw[putVals_size _ _ _ (by omega)]at hj
 rw[getD_putCells _ _ _ hfit,getD_putVals _ _ _ (by omega),hv]
 by_cases hi:off≤j∧j<off+new.length
 ·rw[if_pos hi,if_pos hi]
  have e:vs.toList.getD (j - off) undef=vs.getD (j - off) undef:=by simp[List.getD]
  rw[e]
  exact hn.2 _ (by have:=hn.1;omega)
 ·rw[if_neg hi,if_neg hi]
  exact h.2 j hj
def RCle (E:Em) (ds:List D) (us:Array Value):Prop:=
 ds.length≤us.size∧∀ j,j<ds.length→RD E (ds.getD j default) (us.getD j undef)∧(us.getD j undef).oneCell'=true
theorem RC.rle {E:Em} {ds:List D} {us:Array Value} (h:RC E ds us):RCle E ds us:=⟨by have:=h.1;omega,fun j hj=>h.2 j (by have:=h.1;omega)⟩
theorem RCle.put {E:Em} {ds new:List D} {us vs:Array Value} (h:RCle E ds us) (hn:RC E new vs) (off:Nat) (hfit:off+new.length≤ds.length):RCle E (putCells ds off new) (putVals us off vs.toList):=by
 have hv:vs.toList.length=new.length:=by simpa using hn.1
 have hs:ds.length≤us.size:=h.1
 refine ⟨by rw[putVals_size _ _ _ (by omega),putCells_length _ _ _ hfit];exact h.1,fun j hj=>?_⟩
 rw[putCells_length _ _ _ hfit]at hj
 rw[getD_putCells _ _ _ hfit,getD_putVals _ _ _ (by omega),hv]
 by_cases hi:off≤j∧j<off+new.length
 ·rw[if_pos hi,if_pos hi]
  have e:vs.toList.getD (j - off) undef=vs.getD (j - off) undef:=by simp[List.getD]
  rw[e]
  exact hn.2 _ (by have:=hn.1;omega)
 ·rw[if_neg hi,if_neg hi]
  exact h.2 j hj
theorem foldl_put:∀ (l:List Value) (k off:Nat) (us:Array Value),off+k+l.length≤us.size →
  (l.zipIdx k).foldl (fun cs (c,j)=>cs.setIfInBounds (off+j) c) us=putVals us (off+k) l
 | [],k,off,us,_=>by simp[putVals]
 | x :: l,k,off,us,h=>by
  simp only[List.zipIdx_cons,List.foldl_cons]
  simp only[List.length_cons]at h
  rw[foldl_put l (k+1) off (us.setIfInBounds (off+k) x) (by simp;omega)]
  apply Array.ext_getElem?
  intro i
  simp only[putVals]
  rw[getD_splice _ _ _ _ (by simp;omega),getD_splice _ _ _ _ (by simp;omega)]
  simp only[List.length_cons,Array.getElem?_setIfInBounds]
  by_cases h1:i<off+k
  ·simp[h1,show i<off+(k+1) by omega,show ¬ off+k=i by omega]
  ·by_cases h2:i=off+k
   ·subst h2
    simp[show off+k<off+(k+1) by omega,show off+k<us.size by omega]
   ·by_cases h3:i<off+k+(l.length+1)
    ·simp only[h1,h3,show ¬ i<off+(k+1) by omega,show i<off+(k+1)+l.length by omega,if_true,if_false]
     rw[show i - (off+k)=(i - (off+(k+1)))+1 by omega,List.getElem?_cons_succ]
    ·simp[h1,h3,show ¬ i<off+(k+1) by omega,show ¬ i<off+(k+1)+l.length by omega,show ¬ off+k=i by omega]
theorem fill_RC {c:Ctx} {E:Em} {m:Nat} {a:Act} {ρ:Env} (ha:RE c E m ρ a) (place:Nat→Option (Nat×Nat)):∀ (parts:List (Nat×Operand)) (ps:List (Nat×Nat×Operand)) (ds cs:List D) (us:Array Value),
  parts.map (fun q=>(place q.1).map fun z=>(z.1,z.2,q.2))=ps.map some →
  fillD ds (ps.map fun (o,s,x)=>(o,s,ev ρ x))=some cs→RC E ds us→∃ us',Instr.fill place us (parts.map fun (i,x)=>(i,a.eval x))=some us'∧RC E cs us'
 | [],ps,ds,cs,us,hp,hf,hr=>by
  cases ps with
  | nil=>simp[fillD]at hf;subst hf;exact ⟨us,rfl,hr⟩
  | cons _ _=>simp at hp
 | (i,x) :: parts,ps,ds,cs,us,hp,hf,hr=>by
  cases ps with
  | nil=>simp at hp
  | cons q ps=>
   obtain ⟨off,size,y⟩:=q
   simp only[List.map_cons,List.cons.injEq]at hp
   obtain ⟨hp1,hp2⟩:=hp
   obtain ⟨⟨o1,s1⟩,hpl,he⟩:=Option.map_eq_some_iff.1 hp1
   simp only[Prod.mk.injEq]at he
   obtain ⟨rfl,rfl,rfl⟩:=he
   simp only[List.map_cons,fillD]at hf
   split at hf
   ·rename_i hc
    obtain ⟨c1,c2,c3⟩:=hc
    have hn:=RC.of_value (ha.ev x) c3
    have hsz:(a.eval x).cells.size=s1:=by rw[hn.1,c1]
    have hus:=hr.1
    obtain ⟨us',h1,h2⟩:=fill_RC ha place parts ps _ cs (putVals us o1 (a.eval x).cells.toList) hp2 hf (hr.put hn o1 (by omega))
    refine ⟨us',?_,h2⟩
    simp only[List.map_cons,Instr.fill,hpl]
    rw[if_neg (by simp;omega)]
    have hfold:=foldl_put (a.eval x).cells.toList 0 o1 us (by simp;omega)
    simp only[Nat.add_zero]at hfold
    rw[←Array.foldl_toList,Array.toList_zipIdx,hfold]
    exact h1
   ·cases hf
section
variable {P:Program} {c:Ctx} {n:Nat} {o:Oper} {ρ:Env} {st:St} {T:Nat→Prop} {K:D→St→Prop}
theorem RC.consts (E:Em) (l:List Value) (h1:∀ v∈l,v.oneCell'=true):RC E (l.map fun v=>.p (cstP v)) l.toArray:=by
 refine ⟨by simp,fun j hj=>?_⟩
 simp at hj
 simp only[List.getD,List.getElem?_map,List.getElem?_eq_getElem hj,Option.map_some,Option.getD_some]
 have e:l.toArray.getD j undef=l[j]:=by simp[hj]
 rw[e]
 exact ⟨.p _ _ (cstP_RP _ _),h1 _ (List.getElem_mem hj)⟩
theorem does_alloc (C:CallW) (e:TypeId) (inf:TypeInfo) (z:Value) (ho:o.op=.alloc e) (hi:P.info? e=some inf) (hz:inf.zero=some z) (h1:∀ v∈z.cells.toList,v.oneCell'=true)
  (h:wpOp C ρ st K (.alloc e (z.cells.toList.map fun v=>.p (cstP v)))):DoesK P c n o ρ st T K:=by
 refine .gen fun E a w hw ha=>?_
 have hrc:=RC.consts E z.cells.toList h1
 simp only[Array.toArray_toList]at hrc
 refine ⟨_,_,_,_,_,.inl ?_,hw.le_addι w.heap.size,hw.newbox ⟨_,e,false,false,false⟩ z.cells rfl rfl hrc.rle.1 hrc.rle.2,.ptr _ 0 w.heap.size (.inl (by simp[Em.addι])),hw.kept_addι T _ _,h⟩
 simp[execOp,ho,Instr.alloc,zeroValue,typeInfo,hi,hz,newVar,newRow]
theorem does_box (C:CallW) (e:TypeId) (x:Operand) (ho:o.op=.box e x) (h:wpOp C ρ st K (.box e x)):DoesK P c n o ρ st T K:=by
 refine .gen fun E a w hw ha=>?_
 simp only[wpOp]at h
 have hrc:=RC.of_value (ha.ev x) h.1
 refine ⟨_,_,_,_,_,.inl ?_,hw.le_addι w.heap.size,hw.newbox ⟨_,e,false,false,false⟩ (a.eval x).cells rfl rfl hrc.rle.1 hrc.rle.2,.ptr _ 0 w.heap.size (.inl (by simp[Em.addι])),hw.kept_addι T _ _,h.2⟩
 simp[execOp,ho,Instr.box,newVar,newRow]
theorem does_store (C:CallW) (t:TypeId) (inf:TypeInfo) (y x:Operand) (ho:o.op=.store t y x) (hi:P.info? t=some inf) (hT:∀ i,readsBox ρ y i→T i) (h:wpOp C ρ st K (.store inf.size y x)):DoesK P c n o ρ st T K:=by
 refine .gen fun E a w hw ha=>?_
 have hy:=ha.ev y
 simp only[wpOp]at h
 split at h
 ·rename_i i off hb
  rw[hb]at hy
  obtain ⟨b,hib,e1⟩:=hy.ptr_inv
  split at h
  ·rename_i B hB
   obtain ⟨hf,hl,hfit,hone,hk⟩:=h
   have hib':=hw.live hib hB hf
   have hn:=RC.of_value (ha.ev x) hone
   obtain ⟨vs,hv,hs,hR,_⟩:=hw.boxcell hib' hB hf
   have hold:RCle E B.cells vs:=⟨hs,hR⟩
   have hnew:=hold.put hn off (by omega)
   have hvl:(a.eval x).cells.toList.length=inf.size:=by rw[Array.length_toList,hn.1,hl]
   have hrun:(storeCells ⟨b,off,none⟩ (a.eval x).cells.toList 0).run P w=.ok () (w.setRow b (putVals vs off (a.eval x).cells.toList)):=by
    have:=run_storeCells_at P b off B.e (a.eval x).cells.toList 0 vs w hv (by omega) (fun u hu=>by
     obtain ⟨j,hj,rfl⟩:=List.getElem_of_mem hu
     simp only[Array.length_toList]at hj
     have:=(hn.2 j hj).2
     simpa [hj] using this)
    simpa [putVals] using this
   refine ⟨undef,_,E,.p (.v undef),_,.inr ⟨?_,rfl⟩,Em.le.refl E,hw.setbox hib' hB hf _ vs (putVals vs off (a.eval x).cells.toList) hv (putVals_size _ _ _ (by omega)) hnew.1 hnew.2,.p _ _ (.v _),fun j b' hj hnT=>⟨hj,setRow_other w b b' _ (fun e=>by subst e;exact hnT (by rw[hw.inj j i b' hj hib'];exact hT i ⟨off,hb⟩))⟩,hk⟩
   simp only[execOp,ho,e1,Instr.storeAt,Instr.sureAddr,storeVar,sizeOf,typeInfo,Sem.run_bind,run_program,hi,Result.andThen_ok,Sem.run_pure]
   rw[if_neg (by rw[hn.1,hl];simp)]
   simp only[hrun,Result.andThen_ok]
  ·exact h.elim
 ·exact h.elim
end
end Go.Ab
namespace Go.Ab
open Go.RowKit
section
variable {P:Program} {c:Ctx} {n:Nat} {o:Oper} {ρ:Env} {st:St} {T:Nat→Prop} {K:D→St→Prop}
theorem RC.agg {E:Em} {ds:List D} {us:Array Value} (h:RC E ds us):RD E (mkAgg ds) (.agg us):=RD.mkAgg (.agg _ _ h.1 (fun i hi=>(h.2 i (by rw[h.1];exact hi)).1))
theorem mapM_places (w:World):∀ (fs:List Field) (ps:List (Nat×Nat)),(fs.mapM fun f=>(P.info? f.type).map fun i=>(f.offset,i.size))=some ps →
  (fs.mapM fun f=>(do pure (f.offset,←sizeOf f.type):Sem (Nat×Nat))).run P w=.ok ps w
 | [],ps,h=>by simp at h;subst h;simp
 | f :: fs,ps,h=>by
  simp only[List.mapM_cons,Option.bind_eq_bind,Option.bind_eq_some_iff]at h
  obtain ⟨q,hq,qs,hqs,he⟩:=h
  obtain ⟨i,hi,rfl⟩:=Option.map_eq_some_iff.1 hq
  simp at he
  subst he
  have ih:=mapM_places w fs qs hqs
  simp only[List.mapM_cons,Sem.run_bind,sizeOf,typeInfo,run_program,Result.andThen_ok,hi,Sem.run_pure]at ih ⊢
  simp only[ih,Result.andThen_ok]
theorem quiet_build_struct (C:CallW) (t:TypeId) (inf:TypeInfo) (z:Value) (fs:Array Field) (places:Array (Nat×Nat)) (parts:List (Nat×Operand)) (ps:List (Nat×Nat×Operand))
  (ho:o.op=.build t parts.toArray) (ht:P.underlying t=some (.struct fs)) (hi:P.info? t=some inf) (hz:inf.zero=some z) (h1:∀ v∈z.cells.toList,v.oneCell'=true)
  (hp:fs.toList.mapM (fun f=>(P.info? f.type).map fun i=>(f.offset,i.size))=some places.toList)
  (hps:parts.map (fun q=>(places[q.1]?).map fun z=>(z.1,z.2,q.2))=ps.map some)
  (h:wpOp C ρ st K (.build (z.cells.toList.map fun v=>.p (cstP v)) ps)):QuietK P c n o ρ st (fun _=>False) K:=by
 refine .val fun E a w hw ha=>?_
 simp only[wpOp]at h
 split at h
 ·rename_i cs hf
  have hrc:=RC.consts E z.cells.toList h1
  simp only[Array.toArray_toList]at hrc
  obtain ⟨us',hfill,hr⟩:=fill_RC ha (places[·]?) parts ps _ cs z.cells hps hf hrc
  refine ⟨.agg us',_,fun w=>?_,hr.agg,h⟩
  have hm:=mapM_places (P:=P) w fs.toList places.toList hp
  have hm':(fs.mapM fun f=>(do pure (f.offset,←sizeOf f.type):Sem (Nat×Nat))).run P w=.ok places w:=by
   rw[Array.mapM_eq_mapM_toList]
   simp only[Sem.run_map,hm,Result.andThen_ok,Array.toArray_toList]
  simp only[execOp,ho,Instr.build,Sem.run_bind,zeroValue,typeInfo,run_program,Result.andThen_ok,hi,hz,Sem.run_pure,run_underlying ht,hm',List.map_toArray,hfill]
 ·exact h.elim
theorem quiet_build_array (C:CallW) (t e:TypeId) (len:Nat) (inf einf:TypeInfo) (z:Value) (parts:List (Nat×Operand))
  (ho:o.op=.build t parts.toArray) (ht:P.underlying t=some (.array len e)) (hi:P.info? t=some inf) (hz:inf.zero=some z) (he:P.info? e=some einf) (h1:∀ v∈z.cells.toList,v.oneCell'=true)
  (h:wpOp C ρ st K (.build (z.cells.toList.map fun v=>.p (cstP v)) (parts.map fun q=>(q.1*einf.size,einf.size,q.2)))):QuietK P c n o ρ st (fun _=>False) K:=by
 refine .val fun E a w hw ha=>?_
 simp only[wpOp]at h
 split at h
 ·rename_i cs hf
  have hrc:=RC.consts E z.cells.toList h1
  simp only[Array.toArray_toList]at hrc
  obtain ⟨us',hfill,hr⟩:=fill_RC ha (fun i=>some (i*einf.size,einf.size)) parts _ _ cs z.cells (by simp[Function.comp_def]) hf hrc
  refine ⟨.agg us',_,fun w=>?_,hr.agg,h⟩
  simp only[execOp,ho,Instr.build,Sem.run_bind,zeroValue,typeInfo,run_program,Result.andThen_ok,hi,hz,Sem.run_pure,run_underlying ht,sizeOf,he,List.map_toArray,hfill]
 ·exact h.elim
theorem flat_length {α:Type} (z:List α) (m:Nat):(List.replicate m z).flatten.length=m*z.length:=by
 induction m with
 | zero=>simp
 | succ m ih=>simp[List.replicate_succ,ih,Nat.succ_mul,Nat.add_comm]
theorem flat_getD {α:Type} [Inhabited α] (z:List α):∀ (m i:Nat),i<m*z.length→(List.replicate m z).flatten.getD i default=z.getD (i % z.length) default
 | 0,i,h=>by omega
 | m+1,i,h=>by
  rw[List.replicate_succ,List.flatten_cons]
  by_cases hi:i<z.length
  ·rw[Nat.mod_eq_of_lt hi]
   simp only[List.getD]
   rw[List.getElem?_append_left hi]
  ·have ih:=flat_getD z m (i - z.length) (by rw[Nat.succ_mul]at h;omega)
   rw[Nat.mod_eq_sub_mod (by omega),←ih]
   simp only[List.getD]
   rw[List.getElem?_append_right (by omega)]
theorem RC.zeros (E:Em) (z:Array Value) (m size:Nat) (hs:z.size=size) (hpos:0<size) (h1:∀ v∈z.toList,v.oneCell'=true) :
  RC E ((List.replicate m (z.toList.map fun v=>D.p (cstP v))).flatten) ((Array.range (m*size)).map fun i=>z[i % size]!):=by
 have hl:(z.toList.map fun v=>D.p (cstP v)).length=size:=by simp[hs]
 refine ⟨by rw[flat_length,hl];simp,fun j hj=>?_⟩
 simp at hj
 rw[flat_getD _ m j (by rw[hl];exact hj),hl]
 have hlt:j % size<z.size:=by rw[hs];exact Nat.mod_lt _ hpos
 have e1:((Array.range (m*size)).map fun i=>z[i % size]!).getD j undef=z[j % size]:=by simp[hj,hlt]
 have e2:(z.toList.map fun v=>D.p (cstP v)).getD (j % size) default=D.p (cstP z[j % size]):=by simp[List.getD,hlt]
 rw[e1,e2]
 exact ⟨.p _ _ (cstP_RP _ _),h1 _ (by simp)⟩
theorem RC.toP {E:Em} {ps:List PD} {us:Array Value} (h:RC E (ps.map D.p) us):us.size=ps.length∧(∀ i,i<ps.length→RP E.G (ps.getD i default) (us.getD i undef)):=by
 refine ⟨by simpa using h.1,fun i hi=>?_⟩
 have:=(h.2 i (by have:=h.1;simp at this;omega)).1
 simp only[List.getD,List.getElem?_map,List.getElem?_eq_getElem hi,Option.map_some,Option.getD_some]at this ⊢
 exact this.p_inv
theorem does_bslice (C:CallW) (own:Bool) (t e:TypeId) (einf:TypeInfo) (z:Value) (len:Nat) (parts:List (Nat×Operand)) (ho:o.op=.buildSlice t len parts.toArray) (ht:P.underlying t=some (.slice e))
  (he:P.info? e=some einf) (hz:einf.zero=some z) (hzs:z.cells.size=einf.size) (hpos:0<einf.size) (h1:∀ v∈z.cells.toList,v.oneCell'=true) (hbig:len*einf.size≤16777216)
  (h:wpOp C ρ st K (.bslice own e len einf.size (z.cells.toList.map fun v=>.p (cstP v)) (parts.map fun q=>(q.1*einf.size,einf.size,q.2)))):DoesK P c n o ρ st T K:=by
 refine .gen fun E a w hw ha=>?_
 simp only[wpOp]at h
 split at h
 ·rename_i ps hf
  obtain ⟨cs,hf,hall⟩:=Option.bind_eq_some_iff.1 hf
  have hcs:=allP_spec hall
  subst hcs
  have hrc:=RC.zeros E z.cells len einf.size hzs hpos h1
  obtain ⟨us',hfill,hr⟩:=fill_RC ha (fun i=>some (i*einf.size,einf.size)) parts _ _ _ _ (by simp[Function.comp_def]) hf hrc
  have hlen:us'.size=len*einf.size:=by
   have h2:=fillD_length _ _ _ hf
   rw[flat_length]at h2
   rw[hr.1,h2];simp[hzs]
  obtain ⟨hsz,hRP⟩:=hr.toP
  have hrun:(Instr.buildSlice t len (parts.map fun (i,x)=>(i,a.eval x)).toArray).run P w=.ok (.slice (some ⟨w.heap.size,0,none⟩) len len) (w.alloc (.cells us' e)):=by
   simp only[Instr.buildSlice,Sem.run_bind,run_underlying ht,Result.andThen_ok,sizeOf,typeInfo,run_program,he,Sem.run_pure]
   rw[if_neg (by omega)]
   by_cases h0:len*einf.size=0
   ·have hl0:len=0:=by rcases Nat.mul_eq_zero.1 h0 with h | h <;> omega
    subst hl0
    simp only[Nat.zero_mul,if_true,Sem.run_bind,Sem.run_pure,Result.andThen_ok]
    simp only[Nat.zero_mul]at hfill
    have hr0:Array.range 0=#[]:=rfl
    have hfill':Instr.fill (fun i=>some (i*einf.size,einf.size)) #[] (parts.map fun (i,x)=>(i,a.eval x))=some us':=by
     rw[hr0,Array.map_empty]at hfill;exact hfill
    simp[hr0,hfill',newRow]
   ·rw[if_neg h0]
    simp only[Sem.run_bind,zeroValue,typeInfo,run_program,Result.andThen_ok,he,hz,Sem.run_pure,hzs,hfill,newRow,run_newObj,World.alloc_eq]
  have hexec:(execOp a.eval o).run P w=.ok (.value (.slice (some ⟨w.heap.size,0,none⟩) len len)) (w.alloc (.cells us' e)):=by
   simp only[execOp,ho,List.map_toArray,Sem.run_bind,hrun,Result.andThen_ok,Sem.run_pure]
  have hget:∀ i,i<ps.length→us'[i]? = some (us'.getD i undef):=fun i hi=>by
   have:i<us'.size:=by omega
   simp[this]
  cases own with
  | false=>
   refine ⟨_,_,_,_,_,.inl hexec,hw.le_addG (Nat.le_refl _) _,hw.newG us' e (fun j hj=>(hr.2 j hj).2),.p _ _ (.sl _ _ _ w.heap.size 0 len (fun i=>us'.getD i undef) (by simp) (Nat.le_refl _) (fun i hi=>?_) (fun i hi=>?_)),hw.kept_alloc T _,h⟩
   ·simp only[Em.addG,if_true,Nat.zero_add];exact hget i hi
   ·exact (hRP i hi).mono (hw.le_addG (Nat.le_refl _) _).G
  | true=>
   have hng:=hw.newgrp us' e einf len ps.length he hlen (by omega) (by unfold maxLen;have:=Nat.le_mul_of_pos_right len hpos;omega) (fun j hj=>(hr.2 j (by omega)).2)
   refine ⟨_,_,_,_,_,.inl hexec,hng.1,hng.2,.grp _ _ _ _ w.heap.size len ps.length (by simp[Em.setγ]) (Nat.le_refl _)
    (.sl _ _ _ w.heap.size 0 len (fun i=>us'.getD i undef) (by simp) (Nat.le_refl _) (fun i hi=>?_) (fun i hi=>?_)) (fun _=>rfl),hw.kept_alloc T _,h⟩
   ·simp only[Em.addG,Em.setγ,if_true,Nat.zero_add,if_pos hi];exact hget i hi
   ·exact (hRP i hi).mono hng.1.G
 ·exact h.elim
end
end Go.Ab
namespace Go.Ab
open Go.RowKit
section
variable {P:Program} {c:Ctx} {n:Nat} {o:Oper} {ρ:Env} {st:St} {T:Nat→Prop} {K:D→St→Prop}
theorem toP_RP {E:Em} {d:D} {u:Value} (h:RD E d u) {x:PD} (hx:toP d=some x):RP E.G x u:=by
 cases d <;> simp only[toP,Option.some.injEq,reduceCtorEq]at hx
 case p y=>subst hx;exact h.p_inv
 case grp g m cells=>subst hx;exact h.grp_sl
 case agg ds=>
  obtain ⟨ps,hp,rfl⟩:=Option.map_eq_some_iff.1 hx
  have e:=allP_spec hp
  subst e
  obtain ⟨us,rfl,hs,hR⟩:=h.agg_inv
  exact .agg _ _ (by simpa using hs) (RD.of_mapP hR)
def readsMs (ρ:Env) (x:Operand) (i:Nat):Prop:=∃ off n,ev ρ x=.ms i off n
theorem srcP_news {E:Em} {w:World} (hw:HR P c E st w) {d:D} {u:Value} (hr:RD E d u) {size:Nat} {nl:Option Bool} {m:Nat} {cells:List PD} (h:srcP st size d=some (.sl nl m cells)) :
  (m=0∧∃ a cap,u=.slice a 0 cap)∨(0<m∧∃ (b o cap:Nat) (us:Nat→Value),u=.slice (some ⟨b,o,none⟩) m cap∧(∀ i,i<cells.length→w.cell? ⟨b,o+i,none⟩=some (us i)∧(us i).oneCell'=true)∧∀ i,i<cells.length→RP E.G (cells.getD i default) (us i)):=by
 have gen:∀ {d:D},RD E d u→toP d=some (.sl nl m cells)→(m=0∧∃ a cap,u=.slice a 0 cap)∨(0<m∧∃ (b o cap:Nat) (us:Nat→Value),u=.slice (some ⟨b,o,none⟩) m cap∧(∀ i,i<cells.length→w.cell? ⟨b,o+i,none⟩=some (us i)∧(us i).oneCell'=true)∧∀ i,i<cells.length→RP E.G (cells.getD i default) (us i)):=fun hr h=>by
  rcases (toP_RP hr h).sl_inv with ⟨rfl,rfl,_,_⟩ | ⟨b,o,sp,cap,us,rfl,_,_,hG,hR,hs⟩
  ·exact .inl ⟨rfl,_,_,rfl⟩
  ·rcases Nat.eq_zero_or_pos m with rfl | hm
   ·exact .inl ⟨rfl,_,_,rfl⟩
   ·obtain rfl:sp=none:=by rcases hs with hs | hs;exact hs;omega
    exact .inr ⟨hm,b,o,cap,us,rfl,fun i hi=>hw.gok _ _ _ (hG i hi),hR⟩
 cases d
 case ms i off n=>
  simp only[srcP]at h
  split at h
  ·rename_i B hB
   split at h
   ·rename_i hc
    obtain ⟨ps,hp,h⟩:=Option.map_eq_some_iff.1 h
    simp only[PD.sl.injEq]at h
    obtain ⟨_,rfl,rfl⟩:=h
    obtain ⟨b,cap,hN,_,_,rfl⟩:=hr.ms_inv
    rcases Nat.eq_zero_or_pos n with rfl | hn
    ·exact .inl ⟨rfl,_,_,rfl⟩
    ·obtain ⟨vs,_,h1,h2,h3⟩:=hw.boxcell (hw.live hN hB hc.1) hB hc.1
     have e:=allP_spec hp
     have hlen:ps.length=n*size:=by
      have:=congrArg List.length e
      simp only[List.length_take,List.length_drop,List.length_map]at this
      omega
     refine .inr ⟨hn,b,off,cap,fun j=>vs.getD (off+j) undef,rfl,fun j hj=>?_,fun j hj=>?_⟩
     ·have hj':off+j<B.cells.length:=by omega
      exact ⟨h3 _ (by omega),(h2 _ hj').2⟩
     ·have hj':off+j<B.cells.length:=by omega
      have h4:=(h2 _ hj').1
      have e2:B.cells.getD (off+j) default=.p (ps.getD j default):=by
       have:=congrArg (fun l=>l[j]?) e
       simp only[List.getElem?_take,List.getElem?_drop,List.getElem?_map]at this
       rw[if_pos (by omega)]at this
       simp only[List.getD,this,List.getElem?_eq_getElem hj,Option.map_some,Option.getD_some]
      rw[e2]at h4
      exact h4.p_inv
   ·cases h
  ·cases h
 all_goals exact gen hr h
theorem run_append_zero {w:World} (t t2 ty e e2:TypeId) (inf:TypeInfo) (ht:P.underlying t=some (.slice e)) (ht2:P.underlying t2=some (.slice e2)) (hi:P.info? e=some inf)
  (base a:Option Addr) (m cap c2:Nat) (hm:m≤cap):(Builtin.append_ #[t,t2] ty #[.slice base m cap,.slice a 0 c2]).run P w=.ok (.slice base m cap) w:=by
 cases a <;> cases base <;> simp[Builtin.append_,run_underlying ht,run_underlying ht2,sizeOf,typeInfo,hi,Builtin.lenOf,hm,Builtin.firstCells,loadCells,loadCellsFrom,storeCells]
theorem run_append_big {w:World} (t t2 ty e e2:TypeId) (inf:TypeInfo) (z:Value) (ht:P.underlying t=some (.slice e)) (ht2:P.underlying t2=some (.slice e2)) (hi:P.info? e=some inf) (hz:inf.zero=some z)
  (base:Option Addr) (sLen sCap:Nat) (olds:List Value) (hlo:olds.length=sLen*inf.size) (hbase:base=none→sLen=0) (holds:∀ b,base=some b→∀ j v,olds[j]? = some v→w.cell? (b.add j)=some v)
  (a:Addr) (m c2:Nat) (news:List Value) (hl:news.length=m*inf.size) (hnews:∀ j v,news[j]? = some v→w.cell? (a.add j)=some v)
  (hg:sCap<sLen+m) (h63:sLen+m≤maxLen) (hbytes:(sLen+m)*inf.bytes≤140737488355328) :
  (Builtin.append_ #[t,t2] ty #[.slice base sLen sCap,.slice (some a) m c2]).run P w =
   .ok (.slice (some ⟨w.heap.size,0,none⟩) (sLen+m) (grownCap w (sLen+m) sCap e))
    (w.drew.alloc (.cells (olds.toArray ++ news.toArray ++ Builtin.zeroCells z.cells (grownCap w (sLen+m) sCap e - (sLen+m))) e)):=by
 have hfit:=growslice_fits hg hbytes
 have hn:¬ (sLen+m≤sCap):=by omega
 have h63':¬ (9223372036854775807<((sLen:Int)+(m:Int))):=by unfold maxLen at h63;omega
 have h48':¬ (281474976710656<Builtin.nextslicecap (sLen+m) sCap*inf.bytes):=by omega
 have hf:=run_firstCells_some (P:=P) w.drew inf.size m a m c2 news hl (by simpa using hnews)
 have hfo:(Builtin.firstCells inf.size sLen (.slice base sLen sCap)).run P w.drew=.ok olds.toArray w.drew:=by
  cases base with
  | none=>
   have h0:olds=[]:=List.eq_nil_of_length_eq_zero (by rw[hlo,hbase rfl];simp)
   rw[h0];exact run_firstCells_none w.drew inf.size sLen sLen sCap
  | some b=>exact run_firstCells_some (P:=P) w.drew inf.size sLen b sLen sCap olds hlo (by simpa using holds b rfl)
 simp[Builtin.append_,run_underlying ht,run_underlying ht2,sizeOf,typeInfo,zeroValue,hi,hz,Builtin.lenOf,hn,h63',h48',Question.forced,hfo,hf,newRow,grownCap]
 rw[←Array.append_assoc]
 simp
theorem run_append_fits {w:World} (t t2 ty e e2:TypeId) (inf:TypeInfo) (ht:P.underlying t=some (.slice e)) (ht2:P.underlying t2=some (.slice e2)) (hi:P.info? e=some inf)
  (g sLen sCap:Nat) (cur:Array Value) (hg:w.heap[g]? = some (.cells cur e (0,0))) (a:Addr) (m c2:Nat) (news:List Value) (hl:news.length=m*inf.size)
  (hnews:∀ j u,news[j]? = some u→w.cell? (a.add j)=some u) (h1:∀ u∈news,u.oneCell'=true) (hroom:sLen+m≤sCap) (hfit:sLen*inf.size+news.length≤cur.size) :
  (Builtin.append_ #[t,t2] ty #[.slice (some ⟨g,0,none⟩) sLen sCap,.slice (some a) m c2]).run P w =
   .ok (.slice (some ⟨g,0,none⟩) (sLen+m) sCap) (w.setRow g (cur.toList.take (sLen*inf.size) ++ news ++ cur.toList.drop (sLen*inf.size+news.length)).toArray):=by
 have hf:=run_firstCells_some (P:=P) w inf.size m a m c2 news hl hnews
 have hst:=run_storeCells_at P g (sLen*inf.size) e news 0 cur w hg (by simpa using hfit) h1
 simp only[Nat.add_zero]at hst
 simp[Builtin.append_,run_underlying ht,run_underlying ht2,sizeOf,typeInfo,hi,Builtin.lenOf,hroom,hf,Addr.add_none,hst]
theorem getElem?_range_map (us:Nat→Value) (m j:Nat):((List.range m).map us)[j]? = if j<m then some (us j) else none:=by
 split
 ·rename_i h;simp[h]
 ·rename_i h;simp[h]
theorem appended (olds news:List Value) (zs:Array Value) (j:Nat):(olds.toArray ++ news.toArray ++ zs)[j]? = if j<olds.length then olds[j]? else if j<olds.length+news.length then news[j - olds.length]? else zs[j - (olds.length+news.length)]?:=by
 by_cases h1:j<olds.length
 ·rw[if_pos h1,Array.append_assoc,Array.getElem?_append_left (by simpa using h1)];simp
 ·rw[if_neg h1]
  by_cases h2:j<olds.length+news.length
  ·rw[if_pos h2,Array.getElem?_append_left (by simpa using h2),Array.getElem?_append_right (by simp;omega)];simp
  ·rw[if_neg h2,Array.getElem?_append_right (by simp;omega)];simp
theorem does_append_ms (C:CallW) (t t2 e e2:TypeId) (inf:TypeInfo) (z:Value) (s x:Operand) (ho:o.op=.call { callee:=.builtin .append,args:=#[s,x],argTypes:=#[t,t2] }) (ht:P.underlying t=some (.slice e))
   (ht2:P.underlying t2=some (.slice e2)) (hi:P.info? e=some inf) (hz:inf.zero=some z) (hzs:z.cells.size=inf.size) (hpos:0<inf.size) {E:Em} {a:Act} {w:World} (hw:HR P c E st w) (ha:RE c E n ρ a)
   {m:Nat} {nlx:Option Bool} {new:List PD} (hb:srcP st inf.size (ev ρ x)=some (.sl nlx m new)) (hnl:new.length=m*inf.size) {i sn:Nat} (hbs:ev ρ s=.ms i 0 sn) {B:Box} (hB:st.box[i]? = some B) (hf:B.fz=false) (hap:B.ap=true) (hBe:B.e=e)
   (hsn:sn*inf.size≤B.cells.length) (hby:(sn+m)*inf.bytes≤140737488355328) (hml:sn+m≤maxLen) (hT:T i)
   (hk:(if m=0 then K (.ms i 0 sn) st else K (.ms st.box.length 0 (sn+m)) { st with box:=st.box.set i { B with cells:=[],fz:=true } ++ [{ cells:=B.cells.take (sn*inf.size) ++ new.map .p,e:=e,fz:=false,ap:=true }] }) ∨
     K (.ms st.box.length 0 (sn+m)) { st with box:=st.box.set i { B with cells:=[],fz:=true } ++ [{ cells:=B.cells.take (sn*inf.size) ++ new.map .p,e:=e,fz:=false,ap:=true }] }) :
   ∃ v w' E' d st',((execOp a.eval o).run P w=.ok (.value v) w'∨((execOp a.eval o).run P w=.ok .skip w'∧v=undef))∧E.le E'∧HR P c E' st' w'∧RD E' d v∧Kept E T w E' w'∧K d st':=by
 have hx:=ha.ev x
 have hsv:=ha.ev s
 have hexec:∀ (u v r:Value) (w':World),a.eval s=u→a.eval x=v→(Builtin.append_ #[t,t2] o.type #[u,v]).run P w=.ok r w'→(execOp a.eval o).run P w=.ok (.value r) w':=fun u v r w' e1 e2 hr=>by
   unfold execOp
   simp only[ho,resolve,invoke,builtin,Sem.run_bind,Sem.run_pure,Result.andThen_ok,List.map_toArray,List.map_cons,List.map_nil,e1,e2,hr]
 have hnews:=srcP_news hw hx hb
 rw[hbs]at hsv
 obtain ⟨b,cap,hN,hncap,hkap,hsu⟩:=hsv.ms_inv
 have hib:=hw.live hN hB hf
 obtain ⟨B',vs,q1,q2,q3,q4,q5,⟨q6,q7⟩,q8⟩:=hw.box i b hib
 rw[hB]at q1
 obtain rfl:B=B':=by simpa using q1
 rw[objOf_cells vs (q6.symm.trans hf),hBe]at q2
 have hBm:B.m=false:=q6.symm.trans hf
 have hcap0:∃ c0,E.κ i=some c0:=by
   have:=q7.1
   rw[hap]at this
   exact Option.isSome_iff_exists.1 this.symm
 obtain ⟨c0,hc0⟩:=hcap0
 obtain ⟨inf',r1,r2,r3⟩:=q7.2 c0 hc0
 rw[hBe,hi]at r1
 obtain rfl:inf=inf':=by simpa using r1
 obtain rfl:cap=c0:=hkap c0 hc0 rfl
 rcases hnews with ⟨rfl,ax,cx,e2⟩ | ⟨hm,b2,off,cap2,us,e2,hG,hR⟩
 · rcases hk with hk | hk
   · rw[if_pos rfl]at hk
     exact ⟨_,w,E,_,_,.inl (hexec _ _ _ _ hsu e2 (run_append_zero t t2 _ e _ inf ht ht2 hi _ _ sn cap _ hncap)),Em.le.refl E,hw,.ms _ _ _ b cap hN hncap hkap,Kept.refl E T w,hk⟩
   · have hn0:new=[]:=List.eq_nil_of_length_eq_zero (by rw[hnl];simp)
     subst hn0
     obtain ⟨hle1,hw1⟩:=hw.kill hib hB hBm
     have hι1:∀ j b',(E.kill i).ι j=some b'→j≠i∧E.ι j=some b':=fun j b' h=>by
       simp only[Em.kill]at h
       split at h
       · cases h
       · exact ⟨by assumption,h⟩
     have hnι:∀ j,(E.kill i).ι j≠some b:=fun j h=>(hι1 j b h).1 (hw.inj j i b (hι1 j b h).2 hib)
     have hnγ:∀ g cap cur,(E.kill i).γ g≠some (b,cap,cur):=fun g cap cur=>hw.apart i g b cap cur hib
     have hst1:({ st with box:=st.box.set i { B with cells:=[],fz:=true } }:St).box.length=st.box.length:=by simp
     obtain ⟨hle2,hw3⟩:=hw1.adopt hnι hnγ q8 q5 { cells:=B.cells.take (sn*inf.size) ++ ([]:List PD).map .p,e:=e,fz:=false,ap:=true } vs (some cap) q2 rfl
       ⟨rfl, fun c1 h1 => by obtain rfl : cap = c1 := by simpa using h1
                             exact ⟨inf,hi,r2,r3⟩⟩
       (by simp;omega)
       (fun j hj=>by
         have hj':j<sn*inf.size∧j<B.cells.length:=by simp at hj;omega
         have h4:=q4 j hj'.2
         refine ⟨?_,h4.2⟩
         have h5:=h4.1.mono hle1
         simp only[List.getD,List.map_nil,List.append_nil]at h5 ⊢
         rw[List.getElem?_take,if_pos hj'.1];exact h5)
     rw[hst1]at hle2 hw3
     refine ⟨_,_,_,_,_,.inl (hexec _ _ _ _ hsu e2 (run_append_zero t t2 _ e _ inf ht ht2 hi _ _ sn cap _ hncap)),hle1.trans hle2,hw3,.ms _ _ _ b cap (.inl (by simp[Em.addκ])) hncap (fun c1 h1 _=>by simp[Em.addκ]at h1;exact h1),fun j b' hj hnT=>?_,hk⟩
     have hne:j≠i:=fun e=>by subst e;exact hnT hT
     refine ⟨?_,rfl⟩
     have:=hw.ι_box hj
     simp only[Em.addκ,Em.kill]
     rw[if_neg (by omega),if_neg hne];exact hj
 · rw[if_neg (by omega),or_self]at hk
   have hnl':((List.range new.length).map us).length=m*inf.size:=by simp[hnl]
   have hcell:∀ j v,((List.range new.length).map us)[j]? = some v→w.cell? ((⟨b2,off,none⟩:Addr).add j)=some v:=fun j v hv=>by
     rw[getElem?_range_map]at hv
     split at hv
     · rename_i hj
       obtain rfl:us j=v:=by simpa using hv
       rw[Addr.add_none];exact (hG j hj).1
     · cases hv
   have hone:∀ u∈(List.range new.length).map us,u.oneCell'=true:=fun u hu=>by
     obtain ⟨j,hj,rfl⟩:=List.mem_map.1 hu
     exact (hG j (by simpa using hj)).2
   obtain ⟨hle1,hw1⟩:=hw.kill hib hB hBm
   have hι1:∀ j b',(E.kill i).ι j=some b'→j≠i∧E.ι j=some b':=fun j b' h=>by
     simp only[Em.kill]at h
     split at h
     · cases h
     · exact ⟨by assumption,h⟩
   have hlen:(B.cells.take (sn*inf.size) ++ new.map D.p).length=(sn+m)*inf.size:=by simp[hnl,Nat.add_mul];omega
   have hRnew:∀ {E':Em} (_:E.le E') (f:Nat→Value),(∀ j,j<sn*inf.size→f j=vs.getD j undef)→(∀ j,j<new.length→f (sn*inf.size+j)=us j) →
       ∀ j,j<(B.cells.take (sn*inf.size) ++ new.map D.p).length→RD E' ((B.cells.take (sn*inf.size) ++ new.map D.p).getD j default) (f j)∧(f j).oneCell'=true:=fun {E'} hle f h1 h2 j hj=>by
     have htl:(B.cells.take (sn*inf.size)).length=sn*inf.size:=by simp;omega
     by_cases hlt:j<sn*inf.size
     · rw[h1 j hlt]
       have:=q4 j (by omega)
       refine ⟨?_,this.2⟩
       have h3:=this.1.mono hle
       simp only[List.getD]at h3 ⊢
       rw[List.getElem?_append_left (by omega),List.getElem?_take,if_pos hlt]
       exact h3
     · obtain ⟨k,rfl⟩:∃ k,j=sn*inf.size+k:=⟨j - sn*inf.size,by omega⟩
       have hk:k<new.length:=by rw[hlen,Nat.add_mul]at hj;omega
       rw[h2 k hk]
       refine ⟨?_,(hG k hk).2⟩
       have h3:=(hR k hk).mono hle.G
       simp only[List.getD]at h3 ⊢
       rw[List.getElem?_append_right (by omega),htl,show sn*inf.size+k - sn*inf.size=k by omega,List.getElem?_map,List.getElem?_eq_getElem hk]
       rw[List.getElem?_eq_getElem hk]at h3
       exact .p _ _ h3
   have hst1:({ st with box:=st.box.set i { B with cells:=[],fz:=true } }:St).box.length=st.box.length:=by simp
   by_cases hroom:sn+m≤cap
   · have hfit:sn*inf.size+((List.range new.length).map us).length≤vs.size:=by rw[hnl',r2,←Nat.add_mul];exact Nat.mul_le_mul_right _ hroom
     have hrun:=run_append_fits (w:=w) t t2 o.type e _ inf ht ht2 hi b sn cap vs q2 ⟨b2,off,none⟩ m cap2 _ hnl' hcell hone hroom hfit
     have hnι:∀ j,(E.kill i).ι j≠some b:=fun j h=>(hι1 j b h).1 (hw.inj j i b (hι1 j b h).2 hib)
     have hnγ:∀ g cap cur,(E.kill i).γ g≠some (b,cap,cur):=fun g cap cur=>hw.apart i g b cap cur hib
     have hw2:=hw1.wild hnι hnγ q8 q5 (vs.toList.take (sn*inf.size) ++ (List.range new.length).map us ++ vs.toList.drop (sn*inf.size+((List.range new.length).map us).length)).toArray
     have hget:=getD_splice vs ((List.range new.length).map us) (sn*inf.size)
     obtain ⟨hle2,hw3⟩:=hw2.adopt hnι hnγ q8 q5 { cells:=B.cells.take (sn*inf.size) ++ new.map .p,e:=e,fz:=false,ap:=true } _ (some cap) (setRow_heap w b vs _ e (0,0) q2) rfl
       ⟨rfl, fun c1 h1 => by obtain rfl : cap = c1 := by simpa using h1
                             exact ⟨inf,hi,by rw[←r2];simp;omega,r3⟩⟩
       (by show (B.cells.take (sn*inf.size) ++ new.map D.p).length≤_
           rw[hlen,Nat.add_mul,←hnl'];simp;simp at hfit;omega)
       (hRnew hle1 _ (fun j hj=>by
         have e0:∀ (a:Array Value),a.getD j undef=(a[j]?).getD undef:=fun a=>by simp
         rw[e0,hget j hfit,if_pos hj,e0]) (fun j hj=>by
         have e0:∀ (a:Array Value) k,a.getD k undef=(a[k]?).getD undef:=fun a k=>by simp
         rw[e0,hget _ hfit,if_neg (by omega),if_pos (by simp;omega),show sn*inf.size+j - sn*inf.size=j by omega,getElem?_range_map,if_pos hj];rfl))
     rw[hst1]at hle2 hw3
     refine ⟨_,_,_,_,_,.inl (hexec _ _ _ _ hsu e2 hrun),hle1.trans hle2,hw3,.ms _ _ _ b cap (.inl (by simp[Em.addκ])) hroom (fun c1 h1 _=>by simp[Em.addκ]at h1;exact h1),fun j b' hj hnT=>?_,hk⟩
     have hne:j≠i:=fun e=>by subst e;exact hnT hT
     refine ⟨?_,setRow_other w b b' _ (fun e=>by subst e;exact hne (hw.inj j i b' hj hib))⟩
     have:=hw.ι_box hj
     simp only[Em.addκ,Em.kill]
     rw[if_neg (by omega),if_neg hne];exact hj
   · have hlo:((List.range (sn*inf.size)).map fun j=>vs.getD j undef).length=sn*inf.size:=by simp
     have hocell:∀ bb,some (⟨b,0,none⟩:Addr)=some bb→∀ j v,((List.range (sn*inf.size)).map fun j=>vs.getD j undef)[j]? = some v→w.cell? (bb.add j)=some v:=fun bb hbb j v hv=>by
       obtain rfl:(⟨b,0,none⟩:Addr)=bb:=by simpa using hbb
       rw[getElem?_range_map]at hv
       split at hv
       · rename_i hj
         obtain rfl:vs.getD j undef=v:=by simpa using hv
         rw[Addr.add_none,Nat.zero_add,cell_of_row w b j vs e (0,0) q2]
         have:j<vs.size:=by omega
         simp[this]
       · cases hv
     have hrun:=run_append_big (w:=w) t t2 o.type e _ inf z ht ht2 hi hz (some ⟨b,0,none⟩) sn cap _ hlo (fun h=>by cases h) hocell ⟨b2,off,none⟩ m cap2 _ hnl' hcell (by omega) hml hby
     have hge:=grownCap_ge w (sn+m) cap e
     generalize hvs':(((List.range (sn*inf.size)).map fun j=>vs.getD j undef).toArray ++ ((List.range new.length).map us).toArray ++ Builtin.zeroCells z.cells (grownCap w (sn+m) cap e - (sn+m)))=vs' at hrun
     have hsz:vs'.size=grownCap w (sn+m) cap e*inf.size:=by
       rw[←hvs']
       simp only[Array.size_append,List.size_toArray,size_zeroCells,hzs,hnl',hlo,←Nat.add_mul]
       congr 1;omega
     have hw2:=hw1.drew.garbage vs' e
     have hbig:∀ j b',(E.kill i).ι j=some b'→b'<w.heap.size:=fun j b' h=>hw.ι_lt (hι1 j b' h).2
     obtain ⟨hle2,hw3⟩:=hw2.adopt (b:=w.drew.heap.size) (fun j h=>by have:=hbig j _ h;simp at this) (fun g cap cur h=>by have:=hw.γ_lt (show E.γ g=some (w.drew.heap.size,cap,cur) from h);simp at this) (fun o=>hw1.drew.G_none (Nat.le_refl _) o) (.inl hw1.drew.size)
       { cells:=B.cells.take (sn*inf.size) ++ new.map .p,e:=e,fz:=false,ap:=true } vs' (some (grownCap w (sn+m) cap e)) (heap_alloc_new w.drew _) rfl
       ⟨rfl, fun c1 h1 => by obtain rfl : grownCap w (sn + m) cap e = c1 := by simpa using h1
                             exact ⟨inf,hi,hsz,grownCap_le_maxLen w (sn+m) cap e hml⟩⟩
       (by show (B.cells.take (sn*inf.size) ++ new.map D.p).length≤_
           rw[hlen,hsz];exact Nat.mul_le_mul_right _ hge)
       (hRnew hle1 _ (fun j hj=>by
         have e0:∀ (a:Array Value),a.getD j undef=(a[j]?).getD undef:=fun a=>by simp
         rw[e0 vs',←hvs',appended,if_pos (by simpa using hj),getElem?_range_map,if_pos hj];rfl) (fun j hj=>by
         have e0:∀ (a:Array Value) k,a.getD k undef=(a[k]?).getD undef:=fun a k=>by simp
         rw[e0 vs',←hvs',appended,if_neg (by simp),if_pos (by simp;omega),hlo,show sn*inf.size+j - sn*inf.size=j by omega,getElem?_range_map,if_pos hj];rfl))
     rw[hst1]at hle2 hw3
     refine ⟨_,_,_,_,_,.inl (hexec _ _ _ _ hsu e2 hrun),hle1.trans hle2,hw3,.ms _ _ _ w.heap.size (grownCap w (sn+m) cap e) (.inl (by simp[Em.addκ])) hge (fun c1 h1 _=>by simp[Em.addκ]at h1;exact h1),fun j b' hj hnT=>?_,hk⟩
     have hne:j≠i:=fun e=>by subst e;exact hnT hT
     refine ⟨?_,(hw.drew.kept_alloc (fun _=>False) _ _ _ hj (fun h=>h)).2⟩
     have:=hw.ι_box hj
     simp only[Em.addκ,Em.kill]
     rw[if_neg (by omega),if_neg hne];exact hj
theorem does_append (C:CallW) (t t2 e e2:TypeId) (inf:TypeInfo) (z:Value) (s x:Operand) (ho:o.op=.call { callee:=.builtin .append,args:=#[s,x],argTypes:=#[t,t2] }) (ht:P.underlying t=some (.slice e))
   (ht2:P.underlying t2=some (.slice e2)) (hi:P.info? e=some inf) (hz:inf.zero=some z) (hzs:z.cells.size=inf.size) (hpos:0<inf.size)
   (hT:∀ i,readsMs ρ s i→T i) (h:wpOp C ρ st K (.append e inf.size inf.bytes s x)):DoesK P c n o ρ st T K:=by
 refine .gen fun E a w hw ha=>?_
 have hx:=ha.ev x
 have hsv:=ha.ev s
 have hexec:∀ (u v r:Value) (w':World),a.eval s=u→a.eval x=v→(Builtin.append_ #[t,t2] o.type #[u,v]).run P w=.ok r w'→(execOp a.eval o).run P w=.ok (.value r) w':=fun u v r w' e1 e2 hr=>by
   unfold execOp
   simp only[ho,resolve,invoke,builtin,Sem.run_bind,Sem.run_pure,Result.andThen_ok,List.map_toArray,List.map_cons,List.map_nil,e1,e2,hr]
 simp only[wpOp]at h
 split at h
 · rename_i nlx m new hb
   obtain ⟨hnl,h⟩:=h
   have hnews:=srcP_news hw hx hb
   split at h
   · rename_i n0 cells0 hbs
     rw[hbs]at hsv
     have hsn:a.eval s=.slice none 0 0:=by
       rcases hsv.p_inv.sl_inv with ⟨e1,_⟩ | ⟨_,_,_,_,_,_,_,h',_⟩
       · exact e1
       · exact absurd rfl h'
     obtain ⟨hby,hml,hk⟩:=h
     rw[←or_assoc]at hk
     rcases hk with hk | ⟨hm0,hk⟩
     case inr=>
       rcases hnews with ⟨rfl,ax,cx,e2⟩ | ⟨hm,b,off,cap,us,e2,hG,hR⟩
       · omega
       · have hnl':((List.range new.length).map us).length=m*inf.size:=by simp[hnl]
         have hcell:∀ j v,((List.range new.length).map us)[j]? = some v→w.cell? ((⟨b,off,none⟩:Addr).add j)=some v:=fun j v hv=>by
           rw[getElem?_range_map]at hv
           split at hv
           · rename_i hj
             obtain rfl:us j=v:=by simpa using hv
             rw[Addr.add_none];exact (hG j hj).1
           · cases hv
         have hrun:=run_append_big (w:=w) t t2 o.type e _ inf z ht ht2 hi hz none 0 0 [] (by simp) (fun _=>rfl) (fun b h=>by cases h) ⟨b,off,none⟩ m cap _ hnl' hcell (by omega) (by omega) (by simpa using hby)
         simp only[Nat.zero_add]at hrun
         have hge:=grownCap_ge w m 0 e
         generalize hvs':(([]:List Value).toArray ++ ((List.range new.length).map us).toArray ++ Builtin.zeroCells z.cells (grownCap w m 0 e - m))=vs' at hrun
         have hsz:vs'.size=grownCap w m 0 e*inf.size:=by
           rw[←hvs']
           simp only[Array.size_append,List.size_toArray,size_zeroCells,hzs,hnl',List.length_nil,Nat.zero_add,←Nat.add_mul]
           congr 1;omega
         have hget:∀ j,j<new.length→vs'.getD j undef=us j:=fun j hj=>by
           have e0:∀ (a:Array Value),a.getD j undef=(a[j]?).getD undef:=fun a=>by simp
           rw[e0,←hvs',appended]
           simp[hj]
         have hw2:=hw.drew.garbage vs' e
         obtain ⟨hle2,hw3⟩:=hw2.adopt (b:=w.drew.heap.size) (fun j h=>by have:=hw.ι_lt h;simp at this) (fun g cap cur h=>by have:=hw.γ_lt (show E.γ g=some (w.drew.heap.size,cap,cur) from h);simp at this) (fun o=>hw.drew.G_none (Nat.le_refl _) o) (.inl hw.drew.size)
           { cells:=new.map .p,e:=e,fz:=false,ap:=true } vs' (some (grownCap w m 0 e)) (heap_alloc_new w.drew _) rfl
           ⟨rfl, fun c1 h1 => by obtain rfl : grownCap w m 0 e = c1 := by simpa using h1
                                 exact ⟨inf,hi,hsz,grownCap_le_maxLen w m 0 e hml⟩⟩
           (by show (new.map D.p).length≤_
               rw[List.length_map,hnl,hsz];exact Nat.mul_le_mul_right _ hge)
           (fun j hj=>by
             have hj:j<new.length:=by simpa using hj
             rw[hget j hj]
             refine ⟨?_,(hG j hj).2⟩
             have h3:=hR j hj
             simp only[List.getD]at h3 ⊢
             rw[List.getElem?_map,List.getElem?_eq_getElem hj]
             rw[List.getElem?_eq_getElem hj]at h3
             exact .p _ _ h3)
         refine ⟨_,_,_,_,_,.inl (hexec _ _ _ _ hsn e2 hrun),hle2,hw3,.ms _ _ _ w.heap.size (grownCap w m 0 e) (.inl (by simp[Em.addκ])) hge (fun c1 h1 _=>by simp[Em.addκ]at h1;exact h1),fun j b' hj hnT=>?_,hk⟩
         refine ⟨?_,(hw.drew.kept_alloc (fun _=>False) _ _ _ hj (fun h=>h)).2⟩
         have:=hw.ι_box hj
         simp only[Em.addκ]
         rw[if_neg (by omega)];exact hj
     have hk:∃ (g:Nat) (st1:St),HR P c E st1 w∧st1.grp[g]? = some (0,e)∧(K (if m=0 then .p (.sl (some true) 0 []) else .grp g m new) { st1 with grp:=st1.grp.set g (new.length,e) }∨(m=0∧K (.p (.sl (some true) 0 [])) st)):=by
       rcases hk with hk | ⟨g,st1,hs1,hg1,hk⟩
       · refine ⟨st.grp.length,_,hw.dummy e,by simp,?_⟩
         by_cases hm:m=0
         · rw[if_pos hm]at hk;exact .inr ⟨hm,hk⟩
         · rw[if_neg hm]at hk
           left
           rw[if_neg hm]
           have:({ st with grp:=(st.grp ++ [(0,e)]).set st.grp.length (new.length,e) }:St)={ st with grp:=st.grp ++ [(new.length,e)] }:=by simp
           simp only[this];exact hk
       · refine ⟨g,st1,?_,hg1,.inl hk⟩
         rcases hs1 with rfl | rfl
         · exact hw
         · exact hw.dummy e
     obtain ⟨g,st1,hw1,hg1,hk⟩:=hk
     rcases hnews with ⟨rfl,ax,cx,e2⟩ | ⟨hm,b,off,cap,us,e2,hG,hR⟩
     · rcases hk with hk | ⟨_,hk⟩
       · have hn0:new=[]:=List.eq_nil_of_length_eq_zero (by rw[hnl];simp)
         subst hn0
         have hst:{ st1 with grp:=st1.grp.set g (([]:List PD).length,e) }=st1:=by
           cases st1
           simp only[St.mk.injEq,true_and,List.length_nil]
           obtain ⟨hlt,he⟩:=List.getElem?_eq_some_iff.1 hg1
           rw[←he,List.set_getElem_self]
         rw[if_pos rfl,hst]at hk
         exact ⟨_,w,E,_,_,.inl (hexec _ _ _ _ hsn e2 (run_append_zero t t2 _ e _ inf ht ht2 hi _ _ 0 0 _ (Nat.le_refl _))),Em.le.refl E,hw1,.p _ _ (.nil _ (by simp)),Kept.refl E T w,hk⟩
       · exact ⟨_,w,E,_,_,.inl (hexec _ _ _ _ hsn e2 (run_append_zero t t2 _ e _ inf ht ht2 hi _ _ 0 0 _ (Nat.le_refl _))),Em.le.refl E,hw,.p _ _ (.nil _ (by simp)),Kept.refl E T w,hk⟩
     · have hk:=hk.resolve_right (fun h=>by omega)
       rw[if_neg (by omega)]at hk
       have hnl':((List.range new.length).map us).length=m*inf.size:=by simp[hnl]
       have hcell:∀ j v,((List.range new.length).map us)[j]? = some v→w.cell? ((⟨b,off,none⟩:Addr).add j)=some v:=fun j v hv=>by
         rw[getElem?_range_map]at hv
         split at hv
         · rename_i hj
           obtain rfl:us j=v:=by simpa using hv
           rw[Addr.add_none];exact (hG j hj).1
         · cases hv
       have hrun:=run_append_big (w:=w) t t2 o.type e _ inf z ht ht2 hi hz none 0 0 [] (by simp) (fun _=>rfl) (fun b h=>by cases h) ⟨b,off,none⟩ m cap _ hnl' hcell (by omega) (by omega) (by simpa using hby)
       simp only[Nat.zero_add]at hrun
       have hge:=grownCap_ge w m 0 e
       have hnpos:0<new.length:=by rw[hnl];exact Nat.mul_pos hm hpos
       have hsz:(([]:List Value).toArray ++ ((List.range new.length).map us).toArray ++ Builtin.zeroCells z.cells (grownCap w m 0 e - m)).size=grownCap w m 0 e*inf.size:=by
         simp only[Array.size_append,List.size_toArray,size_zeroCells,hzs,hnl',List.length_nil,Nat.zero_add,←Nat.add_mul]
         congr 1;omega
       have hget:∀ j,j<new.length→(([]:List Value).toArray ++ ((List.range new.length).map us).toArray ++ Builtin.zeroCells z.cells (grownCap w m 0 e - m))[j]? = some (us j):=fun j hj=>by
         rw[appended]
         simp[hj]
       have hng:=hw1.drew.grpmove (fun b' cap' k hγ=>by
           obtain ⟨e',vs',inf',q1,_⟩:=hw1.grp g b' cap' k hγ
           rw[hg1]at q1
           simp only[Option.some.injEq,Prod.mk.injEq]at q1
           exact q1.1.symm) hg1 (([]:List Value).toArray ++ ((List.range new.length).map us).toArray ++ Builtin.zeroCells z.cells (grownCap w m 0 e - m)) inf (grownCap w m 0 e) new.length hi hsz
         (by rw[hsz,hnl];exact Nat.mul_le_mul_right _ hge) (grownCap_le_maxLen w m 0 e hml) hnpos (fun j hj=>by
           have h2:=(hG j hj).2
           have e0:∀ (a:Array Value),a.getD j undef=(a[j]?).getD undef:=fun a=>by simp
           rw[e0,hget j hj];exact h2)
       refine ⟨_,_,_,_,_,.inl (hexec _ _ _ _ hsn e2 hrun),hng.1,hng.2,.grp _ _ _ _ w.heap.size (grownCap w m 0 e) new.length (by simp[Em.setγ]) (Nat.le_refl _)
         (.sl _ _ _ w.heap.size 0 _ us (by simp) hge (fun i hi=>?_) (fun i hi=>?_)) (fun _=>rfl),hw.drew.kept_alloc T _,hk⟩
       · simp only[Em.addG,Em.setγ,World.size_drew,if_true,Nat.zero_add,if_pos hi];exact hget i hi
       · exact (hR i hi).mono hng.1.G
   · rename_i g sn cells hbs
     rw[hbs]at hsv
     obtain ⟨hgs,hcl,hby,hml,hk⟩:=h
     cases hsv with
     | grp _ _ _ u b cap cur hγ hle0 hrp hcur=>
       obtain ⟨e',vs,inf',q1,q2,q3,q4,q5,q6,q7,q8⟩:=hw.grp g b cap cur hγ
       rw[hgs]at q1
       obtain ⟨rfl,rfl⟩:cells.length=cur∧e=e':=by simpa using q1
       rw[hi]at q3
       obtain rfl:inf=inf':=by simpa using q3
       have hsu:=hcur rfl
       have hcap:sn≤cap:=by
         have h9:sn*inf.size≤cap*inf.size:=by rw[←hcl,←q4];exact q5
         exact Nat.le_of_mul_le_mul_right h9 hpos
       rcases hnews with ⟨rfl,ax,cx,e2⟩ | ⟨hm,b2,off,cap2,us,e2,hG,hR⟩
       · have hn0:new=[]:=List.eq_nil_of_length_eq_zero (by rw[hnl];simp)
         subst hn0
         have hst:{ st with grp:=st.grp.set g ((cells ++ []).length,e) }=st:=by
           cases st
           simp only[List.append_nil,St.mk.injEq,true_and]
           obtain ⟨hlt,he⟩:=List.getElem?_eq_some_iff.1 hgs
           rw[←he,List.set_getElem_self]
         rw[hst,List.append_nil,Nat.add_zero]at hk
         exact ⟨_,w,E,_,_,.inl (hexec _ _ _ _ hsu e2 (run_append_zero t t2 _ e _ inf ht ht2 hi _ _ sn cap _ hcap)),Em.le.refl E,hw,.grp g sn cells _ b cap cells.length hγ hle0 (hsu ▸ hrp) (fun _=>rfl),Kept.refl E T w,hk⟩
       · have hnl':((List.range new.length).map us).length=m*inf.size:=by simp[hnl]
         have hcell:∀ j v,((List.range new.length).map us)[j]? = some v→w.cell? ((⟨b2,off,none⟩:Addr).add j)=some v:=fun j v hv=>by
           rw[getElem?_range_map]at hv
           split at hv
           · rename_i hj
             obtain rfl:us j=v:=by simpa using hv
             rw[Addr.add_none];exact (hG j hj).1
           · cases hv
         have hone:∀ u∈(List.range new.length).map us,u.oneCell'=true:=fun u hu=>by
           obtain ⟨j,hj,rfl⟩:=List.mem_map.1 hu
           exact (hG j (by simpa using hj)).2
         have hnpos:0<new.length:=by rw[hnl];exact Nat.mul_pos hm hpos
         rcases hrp.sl_inv with ⟨e3,_⟩ | ⟨bo,oo,spo,capo,uso,e3,_,_,hGo,hRo,_⟩
         · rw[hsu]at e3;cases e3
         · rw[hsu]at e3
           simp only[Value.slice.injEq,Option.some.injEq,Addr.mk.injEq,true_and,and_true]at e3
           obtain ⟨⟨rfl,rfl,rfl⟩,rfl⟩:=e3
           simp only[Nat.zero_add]at hGo
           by_cases hroom:sn+m≤cap
           · have hfit:sn*inf.size+((List.range new.length).map us).length≤vs.size:=by rw[hnl',q4,←Nat.add_mul];exact Nat.mul_le_mul_right _ hroom
             have hrun:=run_append_fits (w:=w) t t2 o.type e _ inf ht ht2 hi b sn cap vs q2 ⟨b2,off,none⟩ m cap2 _ hnl' hcell hone hroom hfit
             have hgg:=hw.grpgrow hγ hgs vs q2 ((List.range new.length).map us) (by simpa using hnpos) (by rw[hcl];exact hfit) hone
             rw[hcl]at hgg
             have hlen:(cells ++ new).length=sn*inf.size+((List.range new.length).map us).length:=by simp[hcl]
             rw[hlen]at hk
             refine ⟨_,_,_,_,_,.inl (hexec _ _ _ _ hsu e2 hrun),hgg.1,hgg.2,.grp _ _ _ _ b cap _ (by simp only[Em.setγ,if_true];rfl) (by rw[hlen];exact Nat.le_refl _)
               (.sl _ _ _ b 0 _ (fun i=>if i<sn*inf.size then uso i else us (i - sn*inf.size)) (by simp) hroom (fun i hi=>?_) (fun i hi=>?_)) (fun _=>rfl),fun j b' hj _=>⟨hj,setRow_other w b b' _ (fun e=>by subst e;exact hw.apart j g b' cap _ hj hγ)⟩,hk⟩
             · simp only[Em.addG,Em.setγ,if_true,Nat.zero_add]
               rw[hlen]at hi
               by_cases h1:i<sn*inf.size
               · rw[if_neg (by omega),if_pos h1];exact hGo i (by omega)
               · rw[if_pos ⟨by omega,hi⟩,if_neg h1,getElem?_range_map,if_pos (by simp at hi;omega)]
             · rw[hlen]at hi
               simp only[List.getD]
               by_cases h1:i<sn*inf.size
               · rw[if_pos h1,List.getElem?_append_left (by omega)]
                 exact (hRo i (by omega)).mono hgg.1.G
               · rw[if_neg h1,List.getElem?_append_right (by omega),hcl]
                 exact (hR _ (by simp at hi;omega)).mono hgg.1.G
           · have hlo:((List.range cells.length).map uso).length=sn*inf.size:=by simp[hcl]
             have hocell:∀ bb,some (⟨b,0,none⟩:Addr)=some bb→∀ j v,((List.range cells.length).map uso)[j]? = some v→w.cell? (bb.add j)=some v:=fun bb hbb j v hv=>by
               obtain rfl:(⟨b,0,none⟩:Addr)=bb:=by simpa using hbb
               rw[getElem?_range_map]at hv
               split at hv
               · rename_i hj
                 obtain rfl:uso j=v:=by simpa using hv
                 rw[Addr.add_none,Nat.zero_add];exact (hw.gok _ _ _ (hGo j hj)).1
               · cases hv
             have hrun:=run_append_big (w:=w) t t2 o.type e _ inf z ht ht2 hi hz (some ⟨b,0,none⟩) sn cap _ hlo (fun h=>by cases h) hocell ⟨b2,off,none⟩ m cap2 _ hnl' hcell (by omega) hml hby
             have hge:=grownCap_ge w (sn+m) cap e
             have hsz:(((List.range cells.length).map uso).toArray ++ ((List.range new.length).map us).toArray ++ Builtin.zeroCells z.cells (grownCap w (sn+m) cap e - (sn+m))).size=grownCap w (sn+m) cap e*inf.size:=by
               simp only[Array.size_append,List.size_toArray,size_zeroCells,hzs,hnl',hlo,←Nat.add_mul]
               congr 1;omega
             have hget:∀ j,j<(cells ++ new).length→(((List.range cells.length).map uso).toArray ++ ((List.range new.length).map us).toArray ++ Builtin.zeroCells z.cells (grownCap w (sn+m) cap e - (sn+m)))[j]? =
                 some (if j<cells.length then uso j else us (j - cells.length)):=fun j hj=>by
               rw[appended]
               simp only[List.length_append]at hj
               by_cases h1:j<cells.length
               · simp[h1]
               · simp only[List.length_map,List.length_range,h1,if_false,hj,if_true]
                 rw[getElem?_range_map,if_pos (by omega)]
             have hlen:(cells ++ new).length=(sn+m)*inf.size:=by simp[hcl,hnl,Nat.add_mul]
             have hgm:=hw.drew.grpmove (fun _ _ _ h=>by have:=h.symm.trans hγ;simp at this;exact this.2.2) hgs _ inf (grownCap w (sn+m) cap e) (cells ++ new).length hi hsz (by rw[hsz,hlen];exact Nat.mul_le_mul_right _ hge) (grownCap_le_maxLen w (sn+m) cap e hml) (by simp;omega) (fun j hj=>by
               have h8:=hget j hj
               have h2:(if j<cells.length then uso j else us (j - cells.length)).oneCell'=true:=by
                 split
                 · rename_i h1;exact (hw.gok _ _ _ (hGo j h1)).2
                 · rename_i h1;exact (hG _ (by simp at hj;omega)).2
               have h9:(((List.range cells.length).map uso).toArray ++ ((List.range new.length).map us).toArray ++ Builtin.zeroCells z.cells (grownCap w (sn+m) cap e - (sn+m))).getD j undef=(if j<cells.length then uso j else us (j - cells.length)):=by
                 have e0:∀ (a:Array Value),a.getD j undef=(a[j]?).getD undef:=fun a=>by simp
                 rw[e0,h8];rfl
               rw[h9];exact h2)
             refine ⟨_,_,_,_,_,.inl (hexec _ _ _ _ hsu e2 hrun),hgm.1,hgm.2,.grp _ _ _ _ w.heap.size (grownCap w (sn+m) cap e) (cells ++ new).length (by simp[Em.setγ]) (Nat.le_refl _)
               (.sl _ _ _ w.heap.size 0 _ (fun j=>if j<cells.length then uso j else us (j - cells.length)) (by simp) hge (fun i hi=>?_) (fun i hi=>?_)) (fun _=>rfl),hw.drew.kept_alloc T _,hk⟩
             · simp only[Em.addG,Em.setγ,World.size_drew,if_true,Nat.zero_add,if_pos hi];exact hget i hi
             · simp only[List.getD]
               by_cases h1:i<cells.length
               · rw[if_pos h1,List.getElem?_append_left h1]
                 exact (hRo i h1).mono hgm.1.G
               · rw[if_neg h1,List.getElem?_append_right (by omega)]
                 exact (hR _ (by simp at hi;omega)).mono hgm.1.G
   · rename_i i off sn hbs
     split at h
     · rename_i B hB
       obtain ⟨rfl,g1,g2,g3,g4,g5,g6,g7⟩:=h
       exact does_append_ms C t t2 e e2 inf z s x ho ht ht2 hi hz hzs hpos hw ha hb hnl hbs hB g1 g2 g3 g4 g5 g6 (hT i ⟨_,_,hbs⟩) g7
     · exact h.elim
   · exact h.elim
 · exact h.elim
end
end Go.Ab
namespace Go.Ab
open Go.RowKit
section
variable {P:Program} {c:Ctx} {n:Nat} {o:Oper} {ρ:Env} {st:St} {T:Nat→Prop} {K:D→St→Prop}
theorem wrap_i64 {x:Int} (h0 : -9223372036854775808≤x) (h1:x≤9223372036854775807):IntKind.i64.wrap x=x:=by
 rw[IntWalk.i64_in x (by omega)]
theorem does_mslice (C:CallW) (t e:TypeId) (inf:TypeInfo) (z:Value) (l k:Operand) (ho:o.op=.makeSlice t l k) (ht:P.underlying t=some (.slice e)) (hi:P.info? e=some inf) (hz:inf.zero=some z)
   (hzs:z.cells.size=inf.size) (hpos:0<inf.size) (h1:∀ v∈z.cells.toList,v.oneCell'=true)
   (h:wpOp C ρ st K (.mslice e inf.size inf.bytes (z.cells.toList.map fun v=>.p (cstP v)) l k)):DoesK P c n o ρ st T K:=by
 refine .gen fun E a w hw ha=>?_
 have hl:=ha.ev l
 have hk:=ha.ev k
 simp only[wpOp]at h
 split at h
 · rename_i k1 x k2 y hb hb2
   rw[hb]at hl;rw[hb2]at hk
   obtain ⟨h0,hxy,hby,hml,hK⟩:=h
   have ymax:y≤9223372036854775807:=by unfold maxLen at hml;omega
   have wx:=wrap_i64 (x:=x) (by omega) (by omega)
   have wy:=wrap_i64 (x:=y) (by omega) (by omega)
   have hrc:=RC.zeros E z.cells y.toNat inf.size hzs hpos h1
   have hrun:(Instr.makeSlice t (.int k1 x) (.int k2 y)).run P w=.ok (.slice (some ⟨w.heap.size,0,none⟩) x.toNat y.toNat) (w.alloc (.cells ((Array.range (y.toNat*inf.size)).map fun i=>z.cells[i % inf.size]!) e)):=by
     have c1:¬ y<0:=by omega
     have c2:¬ (281474976710656<(inf.bytes:Int)*y):=by rw[Int.mul_comm];omega
     have c3:¬ x<0:=by omega
     have c4:¬ y<x:=by omega
     simp only[Instr.makeSlice,Sem.run_bind,run_underlying ht,Result.andThen_ok,asInt,asIntOf,Sem.run_pure,typeInfo,run_program,hi,wx,wy]
     rw[if_neg (by simp[c1,c2,c3,c4])]
     simp only[run_askRoom,Result.andThen_ok,sizeOf,typeInfo,Sem.run_bind,run_program,hi,Sem.run_pure,newRow]
     by_cases hn:y.toNat*inf.size=0
     · have hr0:Array.range 0=#[]:=rfl
       simp[hn,hr0]
     · rw[if_neg hn]
       simp only[zeroValue,typeInfo,Sem.run_bind,run_program,Result.andThen_ok,hi,hz,Sem.run_pure,hzs,run_newObj,World.alloc_eq]
   have hw2:=hw.garbage ((Array.range (y.toNat*inf.size)).map fun i=>z.cells[i % inf.size]!) e
   obtain ⟨hle,hw3⟩:=hw2.adopt (b:=w.heap.size) (fun j h=>by have:=hw.ι_lt h;omega) (fun g cap cur h=>by have:=hw.γ_lt h;omega) (fun o=>hw.G_none (Nat.le_refl _) o) (.inl hw.size)
     { cells:=(List.replicate y.toNat (z.cells.toList.map fun v=>D.p (cstP v))).flatten,e:=e,fz:=false,ap:=true } _ (some y.toNat) (heap_alloc_new w _) rfl
     ⟨rfl, fun c1 h1 => by obtain rfl : y.toNat = c1 := by simpa using h1
                           exact ⟨inf,hi,by simp,by omega⟩⟩ hrc.rle.1 hrc.rle.2
   refine ⟨_,_,_,_,_,.inl ?_,hle,hw3,.ms _ 0 _ w.heap.size y.toNat (.inl (by simp[Em.addκ])) (by omega) (fun c1 h1 _=>by simp[Em.addκ]at h1;exact h1),fun j b' hj hnT=>⟨?_,(hw.kept_alloc (fun _=>False) _ _ _ hj (fun h=>h)).2⟩,hK⟩
   rotate_left
   · have:=hw.ι_box hj
     simp only[Em.addκ]
     rw[if_neg (by omega)];exact hj
   simp only[execOp,ho,hl.v_inv,hk.v_inv,Sem.run_bind,hrun,Result.andThen_ok,Sem.run_pure]
 · exact h.elim
theorem does_msliceP (C:CallW) (t e:TypeId) (inf:TypeInfo) (z:Value) (l k:Operand) (ho:o.op=.makeSlice t l k) (ht:P.underlying t=some (.slice e)) (hi:P.info? e=some inf) (hz:inf.zero=some z)
  (hzs:z.cells.size=inf.size) (hpos:0<inf.size) (h1:∀ v∈z.cells.toList,v.oneCell'=true)
  (h:wpOp C ρ st K (.msliceP e inf.size inf.bytes (z.cells.toList.map fun v=>.p (cstP v)) l k)):DoesK P c n o ρ st T K:=by
 refine .gen fun E a w hw ha=>?_
 have hl:=ha.ev l
 have hk:=ha.ev k
 simp only[wpOp]at h
 split at h
 ·rename_i k1 x k2 y zs hb hb2 hzs2
  rw[hb]at hl;rw[hb2]at hk
  obtain ⟨h0,hxy,hby,hml,hK⟩:=h
  have ymax:y≤9223372036854775807:=by unfold maxLen at hml;omega
  have wx:=wrap_i64 (x:=x) (by omega) (by omega)
  have wy:=wrap_i64 (x:=y) (by omega) (by omega)
  have hrc:=RC.zeros E z.cells y.toNat inf.size hzs hpos h1
  have hrun:(Instr.makeSlice t (.int k1 x) (.int k2 y)).run P w=.ok (.slice (some ⟨w.heap.size,0,none⟩) x.toNat y.toNat) (w.alloc (.cells ((Array.range (y.toNat*inf.size)).map fun i=>z.cells[i % inf.size]!) e)):=by
   have c1:¬ y<0:=by omega
   have c2:¬ (281474976710656<(inf.bytes:Int)*y):=by rw[Int.mul_comm];omega
   have c3:¬ x<0:=by omega
   have c4:¬ y<x:=by omega
   simp only[Instr.makeSlice,Sem.run_bind,run_underlying ht,Result.andThen_ok,asInt,asIntOf,Sem.run_pure,typeInfo,run_program,hi,wx,wy]
   rw[if_neg (by simp[c1,c2,c3,c4])]
   simp only[run_askRoom,Result.andThen_ok,sizeOf,typeInfo,Sem.run_bind,run_program,hi,Sem.run_pure,newRow]
   by_cases hn:y.toNat*inf.size=0
   ·have hr0:Array.range 0=#[]:=rfl
    simp[hn,hr0]
   ·rw[if_neg hn]
    simp only[zeroValue,typeInfo,Sem.run_bind,run_program,Result.andThen_ok,hi,hz,Sem.run_pure,hzs,run_newObj,World.alloc_eq]
  have hzl:=allP_spec hzs2
  have hlz:zs.length=inf.size:=by
   have:=congrArg List.length hzl
   simp only[List.length_map,Array.length_toList]at this
   omega
  rw[hzl]at hrc
  have hfl:(List.replicate y.toNat (zs.map D.p)).flatten=((List.replicate y.toNat zs).flatten).map D.p:=by
   rw[List.map_flatten,List.map_replicate]
  rw[hfl]at hrc
  obtain ⟨hsz,hRP⟩:=hrc.toP
  have hle:=hw.le_addG (Nat.le_refl w.heap.size) (fun o=>((Array.range (y.toNat*inf.size)).map fun i=>z.cells[i % inf.size]!)[o]?)
  have hpre:∀ i,i<(List.replicate x.toNat zs).flatten.length→i<(List.replicate y.toNat zs).flatten.length∧(List.replicate x.toNat zs).flatten.getD i default=(List.replicate y.toNat zs).flatten.getD i default:=fun i hi=>by
   rw[flat_length]at hi
   have hle2:x.toNat*zs.length≤y.toNat*zs.length:=Nat.mul_le_mul_right _ (by omega)
   refine ⟨by rw[flat_length];omega,?_⟩
   rw[flat_getD zs x.toNat i hi,flat_getD zs y.toNat i (by omega)]
  refine ⟨_,_,_,_,_,.inl ?_,hle,hw.newG _ e (fun j hj=>(hrc.2 j hj).2),.p _ _ (.sl _ _ _ w.heap.size 0 y.toNat (fun i=>((Array.range (y.toNat*inf.size)).map fun i=>z.cells[i % inf.size]!).getD i undef) (by simp) (by omega) (fun i hi=>?_) (fun i hi=>?_)),hw.kept_alloc T _,hK⟩
  ·simp only[execOp,ho,hl.v_inv,hk.v_inv,Sem.run_bind,hrun,Result.andThen_ok,Sem.run_pure]
  ·simp only[Em.addG,if_true,Nat.zero_add]
   have:i<((Array.range (y.toNat*inf.size)).map fun i=>z.cells[i % inf.size]!).size:=by rw[hsz];exact (hpre i hi).1
   simp only[Array.getElem?_eq_getElem this,Array.getD,dif_pos this]
   rfl
  ·rw[(hpre i hi).2]
   exact (hRP i (hpre i hi).1).mono hle.G
 ·exact h.elim
theorem run_sliceBound {w:World} (k:IntKind) (i:Int) (y:Nat) (code:BoundsCode) (h0:0≤i) (h1:i≤y):(Instr.sliceBound (.int k i) y code).run P w=.ok i.toNat w:=by
 simp[Instr.sliceBound,asIntOf,h0,h1]
theorem run_sliceAt {w:World} (t e:TypeId) (inf:TypeInfo) (ht:P.underlying t=some (.slice e)) (hi:P.info? e=some inf) (b:Option Addr) (m cap:Nat) (lo hi':Option Value) (l h:Nat)
  (hlo:(lo=none∧l=0)∨∃ k i,lo=some (.int k i)∧0≤i∧l=i.toNat) (hhi:(hi'=none∧h=m)∨∃ k i,hi'=some (.int k i)∧0≤i∧h=i.toNat) (hlh:l≤h) (hc:h≤cap) :
  (Instr.sliceAt t (.slice b m cap) lo hi' none).run P w=.ok (.slice (if cap=l then b else b.map (·.add (l*inf.size))) (h - l) (cap - l)) w:=by
 have hbd:(Instr.sliceBounds true m cap lo hi' none).run P w=.ok (l,h,cap) w:=by
  unfold Instr.sliceBounds
  rcases hhi with ⟨rfl,rfl⟩ | ⟨k,i,rfl,h0,rfl⟩
  ·rcases hlo with ⟨rfl,rfl⟩ | ⟨k',i',rfl,h0',rfl⟩
   ·simp
   ·simp[run_sliceBound k' i' h _ h0' (by omega)]
  ·rcases hlo with ⟨rfl,rfl⟩ | ⟨k',i',rfl,h0',rfl⟩
   ·simp[run_sliceBound k i cap _ h0 (by omega)]
   ·have hx:=run_sliceBound (P:=P) (w:=w) k' i' i.toNat .sliceB h0' (by omega)
    simp[run_sliceBound k i cap _ h0 (by omega),hx]
 simp only[Instr.sliceAt,Sem.run_bind,run_underlying ht,Result.andThen_ok,Instr.slice,hbd,sizeOf,typeInfo,run_program,hi,Sem.run_pure]
theorem RP.slice {G:Mem} {nl:Option Bool} {m:Nat} {cells:List PD} {u:Value} (h:RP G (.sl nl m cells) u) (size l k:Nat) (hl:cells.length=m*size) (h1:l≤k) (h2:k≤m) :
  ∃ b cap,u=.slice b m cap∧k≤cap∧RP G (.sl nl (k - l) ((cells.take (k*size)).drop (l*size))) (.slice (if cap=l then b else b.map (·.add (l*size))) (k - l) (cap - l)):=by
 rcases h.sl_inv with ⟨rfl,rfl,rfl,hn⟩ | ⟨b,o,sp,cap,us,rfl,hc,hn,hG,hR,hs⟩
 ·obtain rfl:k=0:=by omega
  obtain rfl:l=0:=by omega
  exact ⟨none,0,rfl,Nat.le_refl _,by simpa using RP.nil nl hn⟩
 ·refine ⟨_,_,rfl,by omega,?_⟩
  have hlen:((cells.take (k*size)).drop (l*size)).length=k*size - l*size:=by
   have:=Nat.mul_le_mul_right size h2
   simp;omega
  by_cases he:cap=l
  ·rw[if_pos he]
   have e1:k=l:=by omega
   subst e1
   have hnil:((cells.take (k*size)).drop (k*size))=[]:=List.eq_nil_of_length_eq_zero (by rw[hlen];omega)
   rw[hnil]
   exact .sl' _ _ _ b o _ us sp hn (by omega) (fun i hi=>absurd hi (Nat.not_lt_zero _)) (fun i hi=>absurd hi (Nat.not_lt_zero _)) (.inr (by omega))
  ·rw[if_neg he]
   rcases hs with rfl | rfl
   case' inr=>
    obtain rfl:k=0:=by omega
    obtain rfl:l=0:=by omega
    have hnil:((cells.take (0*size)).drop (0*size))=[]:=by simp
    rw[hnil]
    have ha:(some (⟨b,o,sp⟩:Addr)).map (·.add (0*size))=some ⟨b,o,sp⟩:=by simp[Addr.add]
    rw[ha]
    exact .sl' _ _ _ b o _ us sp hn (by omega) (fun i hi=>absurd hi (Nat.not_lt_zero _)) (fun i hi=>absurd hi (Nat.not_lt_zero _)) (.inr (by omega))
   simp only[Option.map_some,Addr.add_none]
   have hle:=Nat.mul_le_mul_right size h2
   refine .sl _ _ _ b (o+l*size) _ (fun i=>us (l*size+i)) hn (by omega) (fun i hi=>?_) (fun i hi=>?_)
   ·rw[hlen]at hi
    rw[Nat.add_assoc];exact hG _ (by omega)
   ·rw[hlen]at hi
    rw[getD_drop,getD_take _ _ _ (by omega)]
    exact hR _ (by omega)
theorem quiet_slice (C:CallW) (t e:TypeId) (inf:TypeInfo) (x:Operand) (lo hi':Option Operand) (ho:o.op=.slice t x lo hi' none) (ht:P.underlying t=some (.slice e)) (hi:P.info? e=some inf)
  (h:wpOp C ρ st K (.slice inf.size x lo hi')):QuietK P c n o ρ st (fun _=>False) K:=by
 refine .val fun E a w hw ha=>?_
 have hx:=ha.ev x
 have hexec:∀ (u r:Value),a.eval x=u→(∀ w,(Instr.sliceAt t u (lo.map a.eval) (hi'.map a.eval) none).run P w=.ok r w)→∀ w,(execOp a.eval o).run P w=.ok (.value r) w:=fun u r e1 hr w=>by
  simp only[execOp,ho,e1,Option.map_none,Sem.run_bind,hr w,Result.andThen_ok,Sem.run_pure]
 have hlov:∀ q,lo=some q→RD E (ev ρ q) (a.eval q):=fun q _=>ha.ev q
 -- the common case
 have key:∀ (nl:Option Bool) (m:Nat) (cells:List PD) (l k:Nat),RP E.G (.sl nl m cells) (a.eval x)→cells.length=m*inf.size →
   ((lo.map a.eval=none∧l=0)∨∃ k i,lo.map a.eval=some (.int k i)∧0≤i∧l=i.toNat)→((hi'.map a.eval=none∧k=m)∨∃ k' i,hi'.map a.eval=some (.int k' i)∧0≤i∧k=i.toNat)→l≤k→k≤m →
   K (.p (.sl nl (k - l) ((cells.take (k*inf.size)).drop (l*inf.size)))) st→∃ v d,(∀ w,(execOp a.eval o).run P w=.ok (.value v) w)∧RD E d v∧K d st:=fun nl m cells l k hr hl h1 h2 h3 h4 hk=>by
  obtain ⟨b,cap,e1,hc,hr'⟩:=hr.slice inf.size l k hl h3 h4
  exact ⟨_,_,hexec _ _ e1 (fun w=>run_sliceAt t e inf ht hi b m cap _ _ l k h1 h2 h3 hc),.p _ _ hr',hk⟩
 have same:∀ (d:D) (nl:Option Bool) (m:Nat) (cells:List PD),RD E d (a.eval x)→RP E.G (.sl nl m cells) (a.eval x)→lo=none→hi'=none→K d st→∃ v d,(∀ w,(execOp a.eval o).run P w=.ok (.value v) w)∧RD E d v∧K d st:=fun d nl m cells hd hr e1 e2 hk=>by
  subst e1;subst e2
  rcases hr.sl_inv with ⟨e3,rfl,_,_⟩ | ⟨b,o',sp,cap,us,e3,hc,_⟩
  ·refine ⟨_,_,hexec _ _ e3 (fun w=>run_sliceAt t e inf ht hi none 0 0 none none 0 0 (.inl ⟨rfl,rfl⟩) (.inl ⟨rfl,rfl⟩) (Nat.le_refl _) (Nat.le_refl _)),?_,hk⟩
   rw[e3]at hd;simpa using hd
  ·refine ⟨_,_,hexec _ _ e3 (fun w=>run_sliceAt t e inf ht hi (some ⟨b,o',sp⟩) m cap none none 0 m (.inl ⟨rfl,rfl⟩) (.inl ⟨rfl,rfl⟩) (Nat.zero_le _) hc),?_,hk⟩
   rw[e3]at hd
   have e4:(if cap=0 then some (⟨b,o',sp⟩:Addr) else Option.map (fun a:Addr=>a.add (0*inf.size)) (some ⟨b,o',sp⟩))=some ⟨b,o',sp⟩:=by split <;> simp[Addr.add]
   rw[e4];simpa using hd
 have sub:∀ (d:D) (nl:Option Bool) (m:Nat) (cells:List PD),RP E.G (.sl nl m cells) (a.eval x)→RD E d (a.eval x) →
   (match lo.map (ev ρ),hi'.map (ev ρ) with
   | none,none=>K d st
   | some (.p (.v (.int _ a))),none=>0≤a∧a≤m∧cells.length=m*inf.size∧K (.p (.sl nl (m - a.toNat) (cells.drop (a.toNat*inf.size)))) st
   | none,some (.p (.v (.int _ b)))=>0≤b∧b≤m∧cells.length=m*inf.size∧K (.p (.sl nl b.toNat (cells.take (b.toNat*inf.size)))) st
   | some (.p (.v (.int _ a))),some (.p (.v (.int _ b)))=>0≤a∧a≤b∧b≤m∧cells.length=m*inf.size ∧
     K (.p (.sl nl (b.toNat - a.toNat) ((cells.take (b.toNat*inf.size)).drop (a.toNat*inf.size)))) st
   | _,_=>False)→∃ v d,(∀ w,(execOp a.eval o).run P w=.ok (.value v) w)∧RD E d v∧K d st:=fun d nl m cells hr hd h=>by
  split at h
  ·rename_i h1 h2
   exact same d nl m cells hd hr (by simpa using h1) (by simpa using h2) h
  ·rename_i k1 i h1 h2
   obtain ⟨q,hq,he⟩:=Option.map_eq_some_iff.1 h1
   have hv:=ha.ev q
   rw[he]at hv
   obtain ⟨g0,g1,g2,g3⟩:=h
   refine key nl m cells i.toNat m hr g2 (.inr ⟨k1,i,by rw[hq];simp[hv.v_inv],g0,rfl⟩) (.inl ⟨by simp at h2;simp[h2],rfl⟩) (by omega) (Nat.le_refl _) ?_
   rw[List.take_of_length_le (by omega)];exact g3
  ·rename_i k1 i h1 h2
   obtain ⟨q,hq,he⟩:=Option.map_eq_some_iff.1 h2
   have hv:=ha.ev q
   rw[he]at hv
   obtain ⟨g0,g1,g2,g3⟩:=h
   refine key nl m cells 0 i.toNat hr g2 (.inl ⟨by simp at h1;simp[h1],rfl⟩) (.inr ⟨k1,i,by rw[hq];simp[hv.v_inv],g0,rfl⟩) (by omega) (by omega) ?_
   simpa using g3
  ·rename_i k1 i k2 j h1 h2
   obtain ⟨q,hq,he⟩:=Option.map_eq_some_iff.1 h1
   have hv:=ha.ev q
   rw[he]at hv
   obtain ⟨q',hq',he'⟩:=Option.map_eq_some_iff.1 h2
   have hv':=ha.ev q'
   rw[he']at hv'
   obtain ⟨g0,g1,g2,g3,g4⟩:=h
   exact key nl m cells i.toNat j.toNat hr g3 (.inr ⟨k1,i,by rw[hq];simp[hv.v_inv],g0,rfl⟩) (.inr ⟨k2,j,by rw[hq'];simp[hv'.v_inv],by omega,rfl⟩) (by omega) (by omega) g4
  ·exact h.elim
 simp only[wpOp]at h
 split at h
 ·rename_i nl m cells hb
  rw[hb]at hx
  exact sub _ nl m cells hx.p_inv hx h
 ·rename_i g m cells hb
  rw[hb]at hx
  exact sub _ (some false) m cells hx.grp_sl hx h
 ·rename_i i off m hb
  rw[hb]at hx
  obtain ⟨b,cap,hN,hc,hkap,e1⟩:=hx.ms_inv
  have hadd:∀ l,Option.map (fun a:Addr=>a.add (l*inf.size)) (some ⟨b,off,none⟩)=some ⟨b,off+l*inf.size,none⟩:=fun l=>by simp only[Option.map_some,Addr.add_none]
  split at h
  ·rename_i h1 h2
   have r:=fun w=>run_sliceAt (P:=P) (w:=w) t e inf ht hi (some ⟨b,off,none⟩) m cap (lo.map a.eval) (hi'.map a.eval) 0 m (.inl ⟨by simp at h1;simp[h1],rfl⟩) (.inl ⟨by simp at h2;simp[h2],rfl⟩) (Nat.zero_le _) hc
   refine ⟨_,_,hexec _ _ e1 r,?_,h⟩
   have e4:(if cap=0 then some (⟨b,off,none⟩:Addr) else Option.map (fun a:Addr=>a.add (0*inf.size)) (some ⟨b,off,none⟩))=some ⟨b,off,none⟩:=by split <;> simp[Addr.add]
   rw[e4]
   exact .ms _ _ _ b _ hN (by omega) (by simpa using hkap)
  ·rename_i k1 i' h1 h2
   obtain ⟨q,hq,he⟩:=Option.map_eq_some_iff.1 h1
   have hv:=ha.ev q
   rw[he]at hv
   obtain ⟨g0,g1,g2,g3⟩:=h
   have r:=fun w=>run_sliceAt (P:=P) (w:=w) t e inf ht hi (some ⟨b,off,none⟩) m cap (lo.map a.eval) (hi'.map a.eval) i'.toNat m (.inr ⟨k1,i',by rw[hq];simp[hv.v_inv],g0,rfl⟩) (.inl ⟨by simp at h2;simp[h2],rfl⟩) (by omega) hc
   refine ⟨_,_,hexec _ _ e1 r,?_,g3⟩
   rw[if_neg (by omega),hadd]
   refine .ms _ _ _ b _ hN (by omega) (fun c0 h0 hz=>?_)
   have hz1:off=0:=by omega
   have hz2:i'.toNat*inf.size=0:=by omega
   have hz3:i'.toNat=0:=by rcases Nat.mul_eq_zero.1 hz2 with h | h <;> omega
   rw[hz3];simpa using hkap c0 h0 hz1
  ·rename_i k1 i' h1 h2
   obtain ⟨q,hq,he⟩:=Option.map_eq_some_iff.1 h2
   have hv:=ha.ev q
   rw[he]at hv
   obtain ⟨g0,g1,g3⟩:=h
   have r:=fun w=>run_sliceAt (P:=P) (w:=w) t e inf ht hi (some ⟨b,off,none⟩) m cap (lo.map a.eval) (hi'.map a.eval) 0 i'.toNat (.inl ⟨by simp at h1;simp[h1],rfl⟩) (.inr ⟨k1,i',by rw[hq];simp[hv.v_inv],g0,rfl⟩) (Nat.zero_le _) (by omega)
   refine ⟨_,_,hexec _ _ e1 r,?_,g3⟩
   have e4:(if cap=0 then some (⟨b,off,none⟩:Addr) else Option.map (fun a:Addr=>a.add (0*inf.size)) (some ⟨b,off,none⟩))=some ⟨b,off,none⟩:=by split <;> simp[Addr.add]
   rw[e4]
   exact .ms _ _ _ b _ hN (by omega) (by simpa using hkap)
  ·rename_i k1 i' k2 j h1 h2
   obtain ⟨q,hq,he⟩:=Option.map_eq_some_iff.1 h1
   have hv:=ha.ev q
   rw[he]at hv
   obtain ⟨q',hq',he'⟩:=Option.map_eq_some_iff.1 h2
   have hv':=ha.ev q'
   rw[he']at hv'
   obtain ⟨g0,g1,g2,g3,g4⟩:=h
   have r:=fun w=>run_sliceAt (P:=P) (w:=w) t e inf ht hi (some ⟨b,off,none⟩) m cap (lo.map a.eval) (hi'.map a.eval) i'.toNat j.toNat (.inr ⟨k1,i',by rw[hq];simp[hv.v_inv],g0,rfl⟩) (.inr ⟨k2,j,by rw[hq'];simp[hv'.v_inv],by omega,rfl⟩) (by omega) (by omega)
   refine ⟨_,_,hexec _ _ e1 r,?_,g4⟩
   rw[if_neg (by omega),hadd]
   refine .ms _ _ _ b _ hN (by omega) (fun c0 h0 hz=>?_)
   have hz1:off=0:=by omega
   have hz2:i'.toNat*inf.size=0:=by omega
   have hz3:i'.toNat=0:=by rcases Nat.mul_eq_zero.1 hz2 with h | h <;> omega
   rw[hz3];simpa using hkap c0 h0 hz1
  ·exact h.elim
 ·exact h.elim
end
end Go.Ab
namespace Go.Ab
open Go.RowKit
def vsEq:List Bool→List Value→List Value→Option Bool
 | [],[],[]=>some true
 | k :: ks,x :: xs,y :: ys=>match sEqK k x y,vsEq ks xs ys with | some a,some b=>some (a && b) | _,_=>none
 | _,_,_=>none
theorem psEq_inv:∀ {ks:List Bool} {xs ys:List PD} {b:Bool},psEq ks xs ys=some b→∃ us vs,xs=us.map .v∧ys=vs.map .v∧vsEq ks us vs=some b
 | [],[],[],b,h=>⟨[],[],rfl,rfl,h⟩
 | k :: ks,.v x :: xs,.v y :: ys,b,h=>by
  simp only[psEq]at h
  split at h
  ·rename_i a b' h1 h2
   obtain ⟨us,vs,rfl,rfl,h3⟩:=psEq_inv h2
   exact ⟨x :: us,y :: vs,rfl,rfl,by simp only[vsEq,h1,h3];exact h⟩
  ·cases h
 | [],[],_ :: _,b,h | [],_ :: _,_,b,h | _ :: _,[],_,b,h | _ :: _,_ :: _,[],b,h=>by simp[psEq]at h
 | _ :: _,.sl .. :: _,_ :: _,b,h | _ :: _,.agg .. :: _,_ :: _,b,h | _ :: _,.tup .. :: _,_ :: _,b,h=>by simp[psEq]at h
 | _ :: _,.v _ :: _,.sl .. :: _,b,h | _ :: _,.v _ :: _,.agg .. :: _,b,h | _ :: _,.v _ :: _,.tup .. :: _,b,h=>by simp[psEq]at h
theorem vsEq_length:∀ {ks:List Bool} {xs ys:List Value} {b:Bool},vsEq ks xs ys=some b→xs.length=ks.length∧ys.length=ks.length
 | [],[],[],_,_=>⟨rfl,rfl⟩
 | k :: ks,x :: xs,y :: ys,b,h=>by
  simp only[vsEq]at h
  split at h
  ·rename_i h1 h2;have:=vsEq_length h2;simp[this]
  ·cases h
 | [],[],_ :: _,_,h | [],_ :: _,_,_,h | _ :: _,[],_,_,h | _ :: _,_ :: _,[],_,h=>by simp[vsEq]at h
theorem vsEq_split:∀ {ks kt:List Bool} {xs ys:List Value} {b:Bool},vsEq (ks ++ kt) xs ys=some b →
  ∃ b1 b2,vsEq ks (xs.take ks.length) (ys.take ks.length)=some b1∧vsEq kt (xs.drop ks.length) (ys.drop ks.length)=some b2∧b=(b1 && b2)
 | [],kt,xs,ys,b,h=>⟨true,b,rfl,h,rfl⟩
 | k :: ks,kt,x :: xs,y :: ys,b,h=>by
  simp only[List.cons_append,vsEq]at h
  split at h
  ·rename_i a b' h1 h2
   obtain ⟨b1,b2,h3,h4,rfl⟩:=vsEq_split h2
   simp only[Option.some.injEq]at h
   exact ⟨a && b1,b2,by simp only[List.length_cons,List.take_succ_cons,vsEq,h1,h3],h4,by rw[←h,Bool.and_assoc]⟩
  ·cases h
 | _ :: _,_,[],_,_,h | _ :: _,_,_ :: _,[],_,h=>by simp[vsEq]at h
def fieldsK (fk:TypeId→Option (List Bool)):Nat→List Field→Option (List Bool)
 | _,[]=>some []
 | off, f :: fs => if f.name ≠ "_" ∧ f.offset = off then (fk f.type).bind fun ks => if 0 < ks.length then (fieldsK fk (off + ks.length) fs).map (ks ++ ·) else none else none
def flatK (P:Program):Nat→TypeId→Option (List Bool)
 | 0,_=>none
 | d+1,t=>match P.underlying t,P.info? t with
  | some (.int _),some i=>if i.size=1 then some [false] else none
  | some .bool,some i=>if i.size=1 then some [true] else none
  | some (.struct fs),some i=>if P.stoodInHeld t=false then (fieldsK (flatK P d) 0 fs.toList).bind fun ks=>if ks.length=i.size then some ks else none else none
  | some (.array n e),some i=>(flatK P d e).bind fun ks=>if 0<ks.length∧n*ks.length=i.size then some (List.replicate n ks).flatten else none
  | _,_=>none
def valT (P:Program) (t:TypeId) (xs:List Value):Value:=match P.underlying t with
 | some d=>if aggT d then .agg xs.toArray else xs.headD undef
 | none=>undef
section
variable {P:Program}
theorem run_part_valT (w:World) {t:TypeId} {d:TypeDesc} {i:TypeInfo} (ht:P.underlying t=some d) (hi:P.info? t=some i) (us:Array Value) (off:Nat) (h:off+i.size≤us.size) (h1:aggT d=false→i.size=1) :
  (part t us off).run P w=.ok (valT P t ((us.toList.drop off).take i.size)) w:=by
 cases hd:aggT d with
 | true=>
  rw[run_part_agg ht hd hi]
  simp only[valT,ht,hd,if_true]
  congr 2
  apply Array.ext'
  simp
 | false=>
  have h1:=h1 hd
  rw[run_part_cell ht hd us off (by omega)]
  simp only[valT,ht,hd,Bool.false_eq_true,if_false,h1]
  have hlt:off<us.size:=by omega
  congr 1
  rw[List.headD_eq_head?_getD,List.head?_take,if_neg (by omega),List.head?_drop]
  simp
theorem flatK_info {d:Nat} {t:TypeId} {ks:List Bool} (h:flatK P (d+1) t=some ks):∃ k i,P.underlying t=some k∧P.info? t=some i∧(aggT k=false→i.size=1)∧(aggT k=false→ks.length=1)∧(aggT k=true∨aggT k=false):=by
 unfold flatK at h
 split at h
 ·rename_i i hu hi
  split at h
  ·rename_i hs;simp only[Option.some.injEq]at h;subst h;exact ⟨_,_,hu,hi,fun _=>hs,fun _=>rfl,.inr rfl⟩
  ·cases h
 ·rename_i i hu hi
  split at h
  ·rename_i hs;simp only[Option.some.injEq]at h;subst h;exact ⟨_,_,hu,hi,fun _=>hs,fun _=>rfl,.inr rfl⟩
  ·cases h
 ·rename_i i hu hi;exact ⟨_,_,hu,hi,fun h=>by simp[aggT]at h,fun h=>by simp[aggT]at h,.inl rfl⟩
 ·rename_i i hu hi;exact ⟨_,_,hu,hi,fun h=>by simp[aggT]at h,fun h=>by simp[aggT]at h,.inl rfl⟩
 ·cases h
theorem flatK_length:∀ {d:Nat} {t:TypeId} {ks:List Bool} {i:TypeInfo},flatK P d t=some ks→P.info? t=some i→ks.length=i.size
 | 0,_,_,_,h,_=>by simp[flatK]at h
 | d+1,t,ks,i,h,hi=>by
  unfold flatK at h
  split at h <;> rename_i hu hi'
  ·rw[hi]at hi';simp only[Option.some.injEq]at hi';subst hi'
   split at h
   ·simp only[Option.some.injEq]at h;subst h;simp_all
   ·cases h
  ·rw[hi]at hi';simp only[Option.some.injEq]at hi';subst hi'
   split at h
   ·simp only[Option.some.injEq]at h;subst h;simp_all
   ·cases h
  ·rw[hi]at hi';simp only[Option.some.injEq]at hi';subst hi'
   split at h
   ·simp only[Option.bind_eq_some_iff]at h
    obtain ⟨k2,_,h⟩:=h
    split at h
    ·simp only[Option.some.injEq]at h;subst h;assumption
    ·cases h
   ·cases h
  ·rw[hi]at hi';simp only[Option.some.injEq]at hi';subst hi'
   simp only[Option.bind_eq_some_iff]at h
   obtain ⟨k2,_,h⟩:=h
   split at h
   ·simp only[Option.some.injEq]at h;subst h;rename_i hn;rw[←hn.2];simp
   ·cases h
  ·cases h
theorem vsEq_one {k:Bool} {x y:List Value} {b:Bool} (h:vsEq [k] x y=some b):sEqK k (x.headD undef) (y.headD undef)=some b:=by
 have:=vsEq_length h
 match x,y,this with
 | [u],[v],_=>
  simp only[vsEq]at h
  split at h
  ·rename_i a b' h1 h2
   simp only[Option.some.injEq]at h2 h
   subst h2
   simp only[List.headD_cons,h1,←h,Bool.and_true]
  ·cases h
theorem drop_take_drop {α:Type} (l:List α) (a b:Nat):(l.drop a).drop b=l.drop (a+b):=by rw[List.drop_drop]
theorem equalIn_flat:∀ (d D:Nat) (t:TypeId) (ks:List Bool) (xs ys:List Value) (b:Bool) (w:World),d≤D→flatK P d t=some ks→vsEq ks xs ys=some b →
  (Op.equalIn D t (valT P t xs) (valT P t ys)).run P w=.ok b w:=by
 intro d
 induction d with
 | zero=>intro D t ks xs ys b w _ h;simp[flatK]at h
 | succ d ih=>
  intro D t ks xs ys b w hD h hv
  obtain ⟨D,rfl⟩:∃ D',D=D'+1:=⟨D - 1,by omega⟩
  have hD:d≤D:=by omega
  -- one part of a struct or array
  have step:∀ (e:TypeId) (ke:List Bool) (off:Nat) (us vs:List Value) (b:Bool),flatK P d e=some ke→off+ke.length≤us.length→off+ke.length≤vs.length→vsEq ke ((us.drop off).take ke.length) ((vs.drop off).take ke.length)=some b →
    ∃ a c,(∀ w,(part e us.toArray off).run P w=.ok a w)∧(∀ w,(part e vs.toArray off).run P w=.ok c w)∧∀ w,(Op.equalIn D e a c).run P w=.ok b w:=fun e ke off us vs b he h1 h2 hb=>by
   obtain ⟨d',rfl⟩:∃ d',d=d'+1:=by cases d with | zero=>simp[flatK]at he | succ d'=>exact ⟨d',rfl⟩
   obtain ⟨k,j,hk,hj,h3,_⟩:=flatK_info he
   have hl:=flatK_length he hj
   refine ⟨_,_,fun w=>run_part_valT w hk hj _ off (by simpa [←hl] using h1) h3,fun w=>run_part_valT w hk hj _ off (by simpa [←hl] using h2) h3,fun w=>?_⟩
   simp only[←hl]
   exact ih D e ke _ _ b w hD he hb
  obtain ⟨hx,hy⟩:=vsEq_length hv
  unfold flatK at h
  split at h
  ·rename_i k i hu hi'
   split at h
   ·simp only[Option.some.injEq]at h
    subst h
    have h1:=vsEq_one hv
    simp only[valT,hu,aggT,Bool.false_eq_true,if_false]
    revert h1
    generalize xs.headD undef=u
    generalize ys.headD undef=v
    intro h1
    cases u <;> cases v <;> simp only[sEqK,reduceCtorEq]at h1
    rename_i k1 a k2 c
    split at h1
    ·rename_i hk
     subst hk
     simp only[Option.some.injEq]at h1
     subst h1
     simp[Op.equalIn,run_underlying hu]
    ·cases h1
   ·cases h
  ·rename_i i hu hi'
   split at h
   ·simp only[Option.some.injEq]at h
    subst h
    have h1:=vsEq_one hv
    simp only[valT,hu,aggT,Bool.false_eq_true,if_false]
    revert h1
    generalize xs.headD undef=u
    generalize ys.headD undef=v
    intro h1
    cases u <;> cases v <;> simp only[sEqK,reduceCtorEq,Option.some.injEq]at h1
    subst h1
    exact run_equalIn_bool' w _ t _ _ hu
   ·cases h
  ·rename_i fs i hu hi'
   split at h
   ·rename_i hp
    simp only[Option.bind_eq_some_iff]at h
    obtain ⟨k2,hk2,h⟩:=h
    split at h
    ·simp only[Option.some.injEq]at h
     subst h
     have hfs:P.fieldsOf t=fs:=by simp[Program.fieldsOf,hu]
     simp only[valT,hu,aggT,if_true]
     rw[run_equalIn_struct w D t _ _ (by rw[hfs];exact hu) hp,hfs]
     have key:∀ (fs:List Field) (off:Nat) (ks:List Bool) (b:Bool) (w:World),fieldsK (flatK P d) off fs=some ks→vsEq ks (xs.drop off) (ys.drop off)=some b→(Op.eqFields D xs.toArray ys.toArray fs).run P w=.ok b w:=by
      intro fs
      induction fs with
      | nil=>
       intro off ks b w hf he
       simp only[fieldsK,Option.some.injEq]at hf
       subst hf
       have:=vsEq_length he
       simp only[List.length_nil]at this
       rw[List.eq_nil_of_length_eq_zero this.1,List.eq_nil_of_length_eq_zero this.2]at he
       simp only[vsEq,Option.some.injEq]at he
       subst he
       simp[Op.eqFields]
      | cons f fs ihf=>
       intro off ks b w hf he
       simp only[fieldsK]at hf
       split at hf
       ·rename_i hc
        obtain ⟨hn,rfl⟩:=hc
        simp only[Option.bind_eq_some_iff]at hf
        obtain ⟨kf,h1,hf⟩:=hf
        split at hf
        case isFalse=>cases hf
        rename_i hpos
        obtain ⟨kr,h2,rfl⟩:=Option.map_eq_some_iff.1 hf
        obtain ⟨b1,b2,e1,e2,rfl⟩:=vsEq_split he
        have hl:=vsEq_length he
        simp only[List.length_drop,List.length_append]at hl
        have hl1:=vsEq_length e1
        simp only[List.length_take,List.length_drop]at hl1
        obtain ⟨a,c,p1,p2,p3⟩:=step f.type kf f.offset xs ys b1 h1 (by omega) (by omega) e1
        rw[drop_take_drop,drop_take_drop]at e2
        have:=ihf _ _ b2 w h2 e2
        simp only[Op.eqFields,hn,ne_eq,not_false_eq_true,if_true,Sem.run_bind,p1,p2,p3,Result.andThen_ok]
        cases b1
        ·simp
        ·simpa using this
       ·cases hf
     exact key fs.toList 0 _ b w hk2 (by simpa using hv)
    ·cases h
   ·cases h
  ·rename_i n e i hu hi'
   simp only[Option.bind_eq_some_iff]at h
   obtain ⟨ke,hke,h⟩:=h
   split at h
   ·rename_i hpos
    simp only[Option.some.injEq]at h
    subst h
    obtain ⟨d',rfl⟩:∃ d',d=d'+1:=by cases d with | zero=>simp[flatK]at hke | succ d'=>exact ⟨d',rfl⟩
    obtain ⟨kd,j,hk,hj,_⟩:=flatK_info hke
    have hl:=flatK_length hke hj
    have hc:P.cellsOf e=ke.length:=by rw[hl];simp[Program.cellsOf,hj]
    simp only[valT,hu,aggT,if_true]
    rw[run_equalIn_array w D _ _ hu hj,hc]
    have key:∀ (m s:Nat) (b:Bool) (w:World),vsEq (List.replicate m ke).flatten (xs.drop (s*ke.length)) (ys.drop (s*ke.length))=some b →
      (Op.eqItems D e ke.length xs.toArray ys.toArray (List.range' s m)).run P w=.ok b w:=by
     intro m
     induction m with
     | zero=>
      intro s b w he
      simp only[List.replicate_zero,List.flatten_nil]at he
      have:=vsEq_length he
      simp only[List.length_nil]at this
      rw[List.eq_nil_of_length_eq_zero this.1,List.eq_nil_of_length_eq_zero this.2]at he
      simp only[vsEq,Option.some.injEq]at he
      subst he
      simp[Op.eqItems]
     | succ m ihm=>
      intro s b w he
      simp only[List.replicate_succ,List.flatten_cons]at he
      obtain ⟨b1,b2,e1,e2,rfl⟩:=vsEq_split he
      have hl1:=vsEq_length e1
      simp only[List.length_take,List.length_drop]at hl1
      obtain ⟨a,c,p1,p2,p3⟩:=step e ke (s*ke.length) xs ys b1 hke (by omega) (by omega) e1
      rw[drop_take_drop,drop_take_drop,show s*ke.length+ke.length=(s+1)*ke.length by rw[Nat.succ_mul]]at e2
      have:=ihm (s+1) b2 w e2
      simp only[List.range'_succ,Op.eqItems,Sem.run_bind,p1,p2,p3,Result.andThen_ok]
      cases b1
      ·simp
      ·simpa using this
    have:=key n 0 b w (by simpa using hv)
    rwa [←List.range_eq_range']at this
   ·cases h
  ·cases h
theorem quiet_eqA {c:Ctx} {n:Nat} {o:Oper} {ρ:Env} {st:St} {K:D→St→Prop} (C:CallW) (neg:Bool) (t t':TypeId) (d:TypeDesc) (x y:Operand) (ks:List Bool) (D:Nat) (hD:D≤10000) (ho:o.op=.binOp (if neg then .neq else .eql) t x y t')
  (ht:P.underlying t=some d) (hd:aggT d=true) (hf:flatK P D t=some ks) (hg:P.eqGuardType P.depth t=false) (h:wpOp C ρ st K (.eqA ks neg x y)):QuietK P c n o ρ st (fun _=>False) K:=by
 refine .val fun E a w hw ha=>?_
 have hx:=ha.ev x
 have hy:=ha.ev y
 simp only[wpOp]at h
 split at h
 ·rename_i xs ys h1 h2
  obtain ⟨b,hb,hk⟩:=h
  obtain ⟨us,vs,rfl,rfl,he⟩:=psEq_inv hb
  have hx':=toP_RP hx h1
  have hy':=toP_RP hy h2
  have val:∀ {u:Value} {l:List Value},RP E.G (.agg (l.map .v)) u→u=.agg l.toArray:=fun {u l} hr=>by
   obtain ⟨as,rfl,hs,hR⟩:=hr.agg_inv
   congr 1
   apply Array.ext'
   apply List.ext_getElem?
   intro i
   simp only[List.length_map]at hs hR
   by_cases hi:i<l.length
   ·have:=hR i hi
    simp only[List.getD,List.getElem?_map,List.getElem?_eq_getElem hi,Option.map_some,Option.getD_some]at this
    have:=this.v_inv
    have hi':i<as.size:=by omega
    simp only[Array.getElem?_toList,Array.getElem?_eq_getElem hi',List.getElem?_eq_getElem hi]
    simp[hi']at this
    rw[this]
   ·rw[Array.getElem?_toList,Array.getElem?_eq_none (by omega)];simp;omega
  have e1:=val hx'
  have e2:=val hy'
  have hval:∀ l:List Value,valT P t l=.agg l.toArray:=fun l=>by simp[valT,ht,hd]
  have heq:=fun w=>equalIn_flat D 10000 t ks us vs b w hD hf he
  simp only[hval]at heq
  refine ⟨.bool (b ^^ neg),_,fun w'=>?_,.p _ _ (.v _),hk⟩
  cases neg
  ·simp only[execOp,ho,Bool.false_eq_true,if_false,e1,e2,Sem.run_bind,run_eqGuard_agg w' .eql t x y _ _ hg,Result.andThen_ok,run_eql_struct,heq,Sem.run_pure,Bool.xor_false]
  ·simp only[execOp,ho,if_true,e1,e2,Sem.run_bind,run_eqGuard_agg w' .neq t x y _ _ hg,Result.andThen_ok,run_neq_struct,heq,Sem.run_pure,Bool.xor_true]
 ·exact h.elim
end
end Go.Ab
namespace Go.Ab
open Go.RowKit
section
variable {P:Program} {c:Ctx} {n:Nat} {o:Oper} {ρ:Env} {st:St} {T:Nat→Prop} {K:D→St→Prop}
theorem does_bsliceM (C:CallW) (t e:TypeId) (einf:TypeInfo) (z:Value) (len:Nat) (parts:List (Nat×Operand)) (ho:o.op=.buildSlice t len parts.toArray) (ht:P.underlying t=some (.slice e))
   (he:P.info? e=some einf) (hz:einf.zero=some z) (hzs:z.cells.size=einf.size) (hpos:0<einf.size) (h1:∀ v∈z.cells.toList,v.oneCell'=true) (hbig:len*einf.size≤16777216)
   (h:wpOp C ρ st K (.bsliceM e len einf.size (z.cells.toList.map fun v=>.p (cstP v)) (parts.map fun q=>(q.1*einf.size,einf.size,q.2)))):DoesK P c n o ρ st T K:=by
 refine .gen fun E a w hw ha=>?_
 simp only[wpOp]at h
 split at h
 · rename_i cs hf
   have hrc:=RC.zeros E z.cells len einf.size hzs hpos h1
   obtain ⟨us',hfill,hr⟩:=fill_RC ha (fun i=>some (i*einf.size,einf.size)) parts _ _ _ _ (by simp[Function.comp_def]) hf hrc
   have hlen:us'.size=len*einf.size:=by
     have h2:=fillD_length _ _ _ hf
     rw[flat_length]at h2
     rw[hr.1,h2];simp[hzs]
   have hrun:(Instr.buildSlice t len (parts.map fun (i,x)=>(i,a.eval x)).toArray).run P w=.ok (.slice (some ⟨w.heap.size,0,none⟩) len len) (w.alloc (.cells us' e)):=by
     simp only[Instr.buildSlice,Sem.run_bind,run_underlying ht,Result.andThen_ok,sizeOf,typeInfo,run_program,he,Sem.run_pure]
     rw[if_neg (by omega)]
     by_cases h0:len*einf.size=0
     · have hl0:len=0:=by rcases Nat.mul_eq_zero.1 h0 with h | h <;> omega
       subst hl0
       simp only[Nat.zero_mul,if_true,Sem.run_bind,Sem.run_pure,Result.andThen_ok]
       simp only[Nat.zero_mul]at hfill
       have hr0:Array.range 0=#[]:=rfl
       have hfill':Instr.fill (fun i=>some (i*einf.size,einf.size)) #[] (parts.map fun (i,x)=>(i,a.eval x))=some us':=by
         rw[hr0,Array.map_empty]at hfill;exact hfill
       simp[hr0,hfill',newRow]
     · rw[if_neg h0]
       simp only[Sem.run_bind,zeroValue,typeInfo,run_program,Result.andThen_ok,he,hz,Sem.run_pure,hzs,hfill,newRow,run_newObj,World.alloc_eq]
   have hexec:(execOp a.eval o).run P w=.ok (.value (.slice (some ⟨w.heap.size,0,none⟩) len len)) (w.alloc (.cells us' e)):=by
     simp only[execOp,ho,List.map_toArray,Sem.run_bind,hrun,Result.andThen_ok,Sem.run_pure]
   have hw2:=hw.garbage us' e
   obtain ⟨hle,hw3⟩:=hw2.adopt (b:=w.heap.size) (fun j h=>by have:=hw.ι_lt h;omega) (fun g cap cur h=>by have:=hw.γ_lt h;omega) (fun o=>hw.G_none (Nat.le_refl _) o) (.inl hw.size)
     { cells:=cs,e:=e,fz:=false,ap:=true } us' (some len) (heap_alloc_new w _) rfl
     ⟨rfl, fun c1 h1 => by obtain rfl : len = c1 := by simpa using h1
                           exact ⟨einf,he,hlen,by unfold maxLen;have:=Nat.le_mul_of_pos_right len hpos;omega⟩⟩ hr.rle.1 hr.rle.2
   refine ⟨_,_,_,_,_,.inl hexec,hle,hw3,.ms _ _ _ w.heap.size len (.inl (by simp[Em.addκ])) (Nat.le_refl _) (fun c1 h1 _=>by simp[Em.addκ]at h1;exact h1),fun j b' hj hnT=>?_,h⟩
   refine ⟨?_,(hw.kept_alloc (fun _=>False) _ _ _ hj (fun h=>h)).2⟩
   have:=hw.ι_box hj
   simp only[Em.addκ]
   rw[if_neg (by omega)];exact hj
 · exact h.elim
theorem quiet_sliceA (C:CallW) (t e:TypeId) (len:Nat) (inf:TypeInfo) (x:Operand) (ho:o.op=.slice t x none none none) (ht:P.underlying t=some (.array len e)) (hi:P.info? e=some inf)
  (h:wpOp C ρ st K (.sliceA len inf.size x)):QuietK P c n o ρ st (fun _=>False) K:=by
 refine .val fun E a w hw ha=>?_
 have hx:=ha.ev x
 have hexec:∀ (b off:Nat),a.eval x=.pointer (some ⟨b,off,none⟩)→∀ w,(execOp a.eval o).run P w=.ok (.value (.slice (some ⟨b,off,none⟩) len len)) w:=fun b off e1 w=>by
  simp only[execOp,ho,e1,Option.map_none,Instr.sliceAt,Sem.run_bind,run_underlying ht,Result.andThen_ok,Instr.sureAddr,Sem.run_pure]
  have hbd:(Instr.sliceBounds true len len none none none).run P w=.ok (0,len,len) w:=by simp[Instr.sliceBounds]
  have hbd':(Instr.sliceBounds false len len none none none).run P w=.ok (0,len,len) w:=by simp[Instr.sliceBounds]
  simp[hbd',sizeOf,typeInfo,hi,Addr.add]
 simp only[wpOp]at h
 split at h
 ·rename_i i off hb
  rw[hb]at hx
  obtain ⟨b,hN,e1⟩:=hx.ptr_inv
  split at h
  ·rename_i B hB
   obtain ⟨g1,g2,g3⟩:=h
   have hib:=hw.live hN hB g1
   obtain ⟨B',vs,q1,q2,q3,q4,q5,⟨q6,q7⟩,q8⟩:=hw.box i b hib
   rw[hB]at q1
   obtain rfl:B=B':=by simpa using q1
   refine ⟨_,_,hexec _ _ e1,.ms _ _ _ b len hN (Nat.le_refl _) (fun c0 h0 _=>?_),g3⟩
   have:=q7.1
   rw[g2,h0]at this;cases this
  ·exact h.elim
 ·rename_i cells hb
  rw[hb]at hx
  obtain ⟨b,off,us,e1,hG,hR⟩:=hx.el_inv
  refine ⟨_,_,hexec _ _ e1,.p _ _ (.sl _ _ _ b off len us (by simp) (Nat.le_refl _) (fun i hi=>?_) (fun i hi=>?_)),h.2⟩
  ·simp at hi;exact hG i (by omega)
  ·simp at hi;rw[getD_take _ _ _ (by omega)];exact hR i (by omega)
 ·exact h.elim
theorem quiet_tassert (C:CallW) (t t0:TypeId) (d:TypeDesc) (ok:Bool) (x:Operand) (ho:o.op=.typeAssert x t0 t ok) (ht:P.underlying t=some d) (hd:ifcT d=false)
  (h:wpOp C ρ st K (.tassert t ok x)):QuietK P c n o ρ st (fun _=>False) K:=by
 refine .val fun E a w hw ha=>?_
 have hx:=ha.ev x
 simp only[wpOp]at h
 split at h
 ·rename_i u y hb
  obtain ⟨rfl,hk⟩:=h
  rw[hb]at hx
  obtain ⟨v,hev,hv⟩:=hx.ifc_inv
  have hrun:∀ w,(Instr.typeAssert (.iface u v) t0 u ok).run P w=.ok (if ok then .tuple #[v,.bool true] else v) w:=fun w=>by
   cases d <;> simp_all [ifcT,Instr.typeAssert,run_underlying]
  refine ⟨_,_,fun w=>by simp only[execOp,ho,hev,Sem.run_bind,hrun,Result.andThen_ok,Sem.run_pure];rfl,?_,hk⟩
  cases ok
  ·exact hv
  ·simp only[if_true]
   refine RD.mkTup (.tup _ _ rfl (fun i hi=>?_))
   simp only[List.length_cons,List.length_nil]at hi
   match i,hi with
   | 0,_=>exact hv
   | 1,_=>exact .p _ _ (.v _)
 ·exact h.elim
theorem run_copy_row (w:World) (dT sT ty e:TypeId) (inf:TypeInfo) (ht:P.underlying dT=some (.slice e)) (hi:P.info? e=some inf) (b off m dCap:Nat) (a:Addr) (k sCap:Nat) (row:Array Value) (el:TypeId) (hrow:w.heap[b]? = some (.cells row el (0,0)))
  (cs:List Value) (hl:cs.length=Nat.min k m*inf.size) (hsrc:∀ j v,cs[j]? = some v→w.cell? (a.add j)=some v) (h1:∀ v∈cs,v.oneCell'=true) (hfit:off+cs.length≤row.size) :
  (Builtin.copy_ #[dT,sT] ty #[.slice (some ⟨b,off,none⟩) m dCap,.slice (some a) k sCap]).run P w=.ok (goInt (Nat.min k m)) (w.setRow b (putVals row off cs)):=by
 have hf:=run_firstCells_some (P:=P) w inf.size (Nat.min k m) a k sCap cs hl hsrc
 have hst:=run_storeCells_at P b off el cs 0 row w hrow (by simpa using hfit) h1
 simp only[Nat.add_zero]at hst
 simp only[Builtin.copy_,Sem.run_bind,Sem.run_pure,Result.andThen_ok,run_underlying ht,Builtin.lenOf,sizeOf,typeInfo,run_program,hi,hf,List.getElem?_toArray,List.getElem?_cons_zero,List.getElem?_cons_succ,hst,putVals]
theorem does_copy (C:CallW) (t t2 e:TypeId) (inf:TypeInfo) (x y:Operand) (ho:o.op=.call { callee:=.builtin .copy,args:=#[x,y],argTypes:=#[t,t2] }) (ht:P.underlying t=some (.slice e)) (hi:P.info? e=some inf)
  (hT:∀ i,readsMs ρ x i→T i) (h:wpOp C ρ st K (.copy inf.size x y)):DoesK P c n o ρ st T K:=by
 refine .gen fun E a w hw ha=>?_
 have hx:=ha.ev x
 have hy:=ha.ev y
 have hexec:∀ (u v r:Value) (w':World),a.eval x=u→a.eval y=v→(Builtin.copy_ #[t,t2] o.type #[u,v]).run P w=.ok r w'→(execOp a.eval o).run P w=.ok (.value r) w':=fun u v r w' e1 e2 hr=>by
  unfold execOp
  simp only[ho,resolve,invoke,builtin,Sem.run_bind,Sem.run_pure,Result.andThen_ok,List.map_toArray,List.map_cons,List.map_nil,e1,e2,hr]
 simp only[wpOp]at h
 split at h
 ·rename_i nl k cells i off m hb hb2
  rw[hb2]at hx
  have hnews:=srcP_news hw hy hb
  obtain ⟨b,cap,hN,hc,hkap,e1⟩:=hx.ms_inv
  split at h
  ·rename_i B hB
   obtain ⟨hf,hl,hfit,hk⟩:=h
   have hib:=hw.live hN hB hf
   obtain ⟨vs,hv,hs,hR,_⟩:=hw.boxcell hib hB hf
   have hmin:(cells.take (min k m*inf.size)).length=min k m*inf.size:=by
    rw[List.length_take,hl]
    exact Nat.min_eq_left (Nat.mul_le_mul_right _ (Nat.min_le_left _ _))
   have fin:∀ (us:Nat→Value) (a0:Option Addr) (sc:Nat),a.eval y=.slice a0 k sc→(Builtin.copy_ #[t,t2] o.type #[a.eval x,a.eval y]).run P w=.ok (goInt (Nat.min k m)) (w.setRow b (putVals vs off ((List.range (min k m*inf.size)).map us))) →
     (∀ j,j<min k m*inf.size→RP E.G (cells.getD j default) (us j)∧(us j).oneCell'=true) →
     ∃ v w' E' d st',((execOp a.eval o).run P w=.ok (.value v) w'∨((execOp a.eval o).run P w=.ok .skip w'∧v=undef))∧E.le E'∧HR P c E' st' w'∧RD E' d v∧Kept E T w E' w'∧K d st':=fun us a0 sc e2 hrun hus=>by
    have hold:RCle E B.cells vs:=⟨hs,hR⟩
    have hn:RC E ((cells.take (min k m*inf.size)).map .p) ((List.range (min k m*inf.size)).map us).toArray:=by
     refine ⟨by simp[hl];try exact (Nat.min_eq_left (Nat.mul_le_mul_right _ (Nat.min_le_left _ _))).symm,fun j hj=>?_⟩
     simp only[List.size_toArray,List.length_map,List.length_range]at hj
     have e3:((List.range (min k m*inf.size)).map us).toArray.getD j undef=us j:=by simp[hj]
     rw[e3]
     refine ⟨?_,(hus j hj).2⟩
     have:=(hus j hj).1
     have hjl:j<cells.length:=by rw[List.length_take]at hmin;omega
     simp only[List.getD,List.getElem?_eq_getElem hjl,Option.getD_some]at this
     simp only[List.getD,List.getElem?_map,List.getElem?_take,if_pos hj,List.getElem?_eq_getElem hjl,Option.map_some,Option.getD_some]
     exact .p _ _ this
    have hnew:=hold.put hn off (by simp[hmin]at hfit ⊢;omega)
    refine ⟨_,_,E,_,_,.inl (hexec _ _ _ _ rfl rfl hrun),Em.le.refl E,hw.setbox hib hB hf _ vs _ hv (putVals_size _ _ _ (by simp;omega)) (by simpa using hnew.1) (by simpa using hnew.2),.p _ _ (.v _),fun j b' hj hnT=>⟨hj,setRow_other w b b' _ (fun e=>by subst e;exact hnT (by rw[hw.inj j i b' hj hib];exact hT i ⟨_,_,hb2⟩))⟩,?_⟩
    simpa [goInt] using hk
   rcases hnews with ⟨rfl,a0,sc,e2⟩ | ⟨hk0,bs,os,sc,us,e2,hG,hRs⟩
   ·refine fin (fun _=>undef) a0 sc e2 ?_ (fun j hj=>by simp at hj)
    rw[e1,e2]
    have hst:∀ w:World,(storeCells ⟨b,off,none⟩ [] 0).run P w=.ok () w:=fun w=>by simp[storeCells]
    have hpv:putVals vs off []=vs:=by simp[putVals]
    have hsr:w.setRow b vs=w:=setRow_self w b vs B.e (0,0) hv
    cases a0 <;> simp[Builtin.copy_,run_underlying ht,Builtin.lenOf,sizeOf,typeInfo,hi,Builtin.firstCells,loadCells,loadCellsFrom,hst,hpv,hsr]
   ·skip
    refine fin us (some ⟨bs,os,none⟩) sc e2 ?_ (fun j hj=>?_)
    ·rw[e1,e2]
     refine run_copy_row w t t2 o.type e inf ht hi b off m cap ⟨bs,os,none⟩ k sc vs B.e hv _ (by simp) (fun j v hv=>?_) (fun v hv=>?_) (by simp;omega)
     ·rw[getElem?_range_map]at hv
      split at hv
      ·rename_i hj
       obtain rfl:us j=v:=by simpa using hv
       rw[Addr.add_none]
       exact (hG j (by rw[List.length_take]at hmin;omega)).1
      ·cases hv
     ·obtain ⟨j,hj,rfl⟩:=List.mem_map.1 hv
      exact (hG j (by rw[List.length_take]at hmin;simp at hj;omega)).2
    ·have hjl:j<cells.length:=by rw[List.length_take]at hmin;omega
     exact ⟨hRs j hjl,(hG j hjl).2⟩
  ·exact h.elim
 ·exact h.elim
theorem quiet_eqN (C:CallW) (neg:Bool) (t t' e:TypeId) (x y:Operand) (ho:o.op=.binOp (if neg then .neq else .eql) t x y t') (ht:P.underlying t=some (.slice e)) (h:wpOp C ρ st K (.eqN neg x y)):QuietK P c n o ρ st (fun _=>False) K:=by
 refine .val fun E a w hw ha=>?_
 have hx:=ha.ev x
 have hy:=ha.ev y
 have key:∀ (ad:Option Addr) (m cap:Nat),a.eval x=.slice ad m cap→a.eval y=.slice none 0 0→∀ w:World,(execOp a.eval o).run P w=.ok (.value (.bool (ad.isNone ^^ neg))) w:=fun ad m cap e1 e2 w=>by
  have he:(Op.equalIn (Op.maxDepth - 1+1) t (.slice ad m cap) (.slice none 0 0)).run P w=.ok ad.isNone w:=by
   cases ad <;> simp only[Op.equalIn,Sem.run_bind,run_underlying ht,Result.andThen_ok,Sem.run_pure,Option.isNone]
  cases neg <;> simp[execOp,ho,e1,e2,eqGuard,binOp,Op.equal] <;> (rw[show Op.maxDepth=Op.maxDepth - 1+1 from rfl,he];simp)
 have nil:∀ {m:Nat} {l:List PD} {u:Value},RP E.G (.sl (some true) m l) u→u=.slice none 0 0:=fun hr=>by
  rcases hr.sl_inv with ⟨e1,_⟩ | ⟨_,_,_,_,_,_,_,h',_⟩
  ·exact e1
  ·exact absurd rfl h'
 simp only[wpOp]at h
 split at h
 ·rename_i nl m1 l1 m2 l2 hb hb2
  rw[hb]at hx;rw[hb2]at hy
  have e2:=nil hy.p_inv
  rcases hx.p_inv.sl_inv with ⟨e1,_,_,hn⟩ | ⟨b,off,_,cap,us,e1,_,hn,_⟩
  ·cases nl
   ·exact absurd rfl hn
   ·exact ⟨_,_,key _ _ _ e1 e2,.p _ _ (.v _),h⟩
  ·cases nl
   ·exact ⟨_,_,key _ _ _ e1 e2,.p _ _ (.v _),h⟩
   ·exact absurd rfl hn
 ·rename_i g m1 l1 m2 l2 hb hb2
  rw[hb]at hx;rw[hb2]at hy
  have e2:=nil hy.p_inv
  rcases hx.grp_sl.sl_inv with ⟨e1,_,_,hn⟩ | ⟨b,off,_,cap,us,e1,_⟩
  ·exact absurd rfl hn
  ·exact ⟨_,_,key _ _ _ e1 e2,.p _ _ (.v _),by simpa using h⟩
 ·rename_i i off m m2 l2 hb hb2
  rw[hb]at hx;rw[hb2]at hy
  have e2:=nil hy.p_inv
  obtain ⟨b,cap,_,_,_,e1⟩:=hx.ms_inv
  exact ⟨_,_,key _ _ _ e1 e2,.p _ _ (.v _),by simpa using h⟩
 ·exact h.elim
theorem quiet_eqP (C:CallW) (neg:Bool) (t t' e:TypeId) (x y:Operand) (ho:o.op=.binOp (if neg then .neq else .eql) t x y t') (ht:P.underlying t=some (.pointer e)) (h:wpOp C ρ st K (.eqP neg x y)):QuietK P c n o ρ st (fun _=>False) K:=by
 refine .val fun E a w hw ha=>?_
 have hx:=ha.ev x
 have hy:=ha.ev y
 have key:∀ (ad:Option Addr),a.eval x=.pointer ad→a.eval y=.pointer none→∀ w:World,(execOp a.eval o).run P w=.ok (.value (.bool (ad.isNone ^^ neg))) w:=fun ad e1 e2 w=>by
  have he:(Op.equalIn (Op.maxDepth - 1+1) t (.pointer ad) (.pointer none)).run P w=.ok ad.isNone w:=by
   cases ad <;> simp only[Op.equalIn,Sem.run_bind,run_underlying ht,Result.andThen_ok,Sem.run_pure,Option.isNone]
  cases neg <;> simp[execOp,ho,e1,e2,eqGuard,binOp,Op.equal] <;> (rw[show Op.maxDepth=Op.maxDepth - 1+1 from rfl,he];simp)
 simp only[wpOp]at h
 split at h
 ·rename_i i off hb hb2
  rw[hb]at hx;rw[hb2]at hy
  obtain ⟨b,_,e1⟩:=hx.ptr_inv
  exact ⟨_,_,key _ e1 hy.v_inv,.p _ _ (.v _),by simpa using h⟩
 ·rename_i cells hb hb2
  rw[hb]at hx;rw[hb2]at hy
  obtain ⟨b,off,us,e1,_⟩:=hx.el_inv
  exact ⟨_,_,key _ e1 hy.v_inv,.p _ _ (.v _),by simpa using h⟩
 ·rename_i hb hb2
  rw[hb]at hx;rw[hb2]at hy
  exact ⟨_,_,key _ hx.v_inv hy.v_inv,.p _ _ (.v _),by simpa using h⟩
 ·exact h.elim
end
end Go.Ab
namespace Go.Ab
open Go.RowKit
inductive RL (E:Em):List D→List Value→Prop
 | nil:RL E [] []
 | cons {d:D} {u:Value} {ds:List D} {us:List Value} (h:RD E d u) (h1:u.oneCell'=true) (t:RL E ds us):RL E (d :: ds) (u :: us)
theorem RL.cons_inv {E:Em} {d:D} {ds:List D} {us:List Value} (h:RL E (d :: ds) us):∃ u us',us=u :: us'∧RD E d u∧u.oneCell'=true∧RL E ds us':=by
 cases h with
 | cons h h1 t=>exact ⟨_,_,rfl,h,h1,t⟩
theorem RL.length {E:Em} {ds:List D} {us:List Value} (h:RL E ds us):us.length=ds.length:=by induction h with | nil=>rfl | cons _ _ _ ih=>simp[ih]
theorem RL.drop {E:Em} {ds:List D} {us:List Value} (h:RL E ds us):∀ n,RL E (ds.drop n) (us.drop n):=by
 induction h with
 | nil=>intro n;simp;exact .nil
 | cons h h1 t ih=>intro n;cases n with
  | zero=>exact .cons h h1 t
  | succ n=>simpa using ih n
theorem RL.take {E:Em} {ds:List D} {us:List Value} (h:RL E ds us):∀ n,RL E (ds.take n) (us.take n):=by
 induction h with
 | nil=>intro n;simp;exact .nil
 | cons h h1 t ih=>intro n;cases n with
  | zero=>simp;exact .nil
  | succ n=>simpa using .cons h h1 (ih n)
theorem RL.app {E:Em} {ds es:List D} {us vs:List Value} (h:RL E ds us) (k:RL E es vs):RL E (ds ++ es) (us ++ vs):=by
 induction h with
 | nil=>exact k
 | cons h h1 _ ih=>exact .cons h h1 ih
theorem RL.get {E:Em} {ds:List D} {us:List Value} (h:RL E ds us):∀ j,j<ds.length→RD E (ds.getD j default) (us.getD j undef)∧(us.getD j undef).oneCell'=true:=by
 induction h with
 | nil=>intro j hj;simp at hj
 | cons h h1 _ ih=>intro j hj;cases j with
  | zero=>exact ⟨h,h1⟩
  | succ j=>simpa using ih j (by simpa using hj)
theorem RL.of {E:Em}:∀ {ds:List D} {us:List Value},us.length=ds.length→(∀ j,j<ds.length→RD E (ds.getD j default) (us.getD j undef)∧(us.getD j undef).oneCell'=true)→RL E ds us
 | [],[],_,_=>.nil
 | [],_ :: _,h,_=>by simp at h
 | _ :: _,[],h,_=>by simp at h
 | d :: ds,u :: us,h,k=>.cons (k 0 (by simp)).1 (k 0 (by simp)).2 (RL.of (by simpa using h) fun j hj=>by simpa using k (j+1) (by simpa using hj))
theorem RL.put {E:Em} {ds new:List D} {us vs:List Value} (h:RL E ds us) (k:RL E new vs) (off:Nat):RL E (putCells ds off new) (us.take off ++ vs ++ us.drop (off+vs.length)):=by
 unfold putCells
 rw[k.length]
 exact ((h.take off).app k).app (h.drop _)
theorem RL.headInt {E:Em} {ds:List D} {us:List Value} (h:RL E ds us) {n:Nat} (hn:natD (ds.headD .bad)=some n):natV (us.headD undef)=n∧us.headD undef=.int .i64 n:=by
 cases h with
 | nil=>simp[natD]at hn
 | cons h _ _=>
  simp only[List.headD_cons]at hn ⊢
  unfold natD at hn
  split at hn
  ·rename_i m
   split at hn
   ·rename_i h0
    simp only[Option.some.injEq]at hn
    subst hn
    have:=h.v_inv
    subst this
    simp[natV];omega
   ·cases hn
  ·cases hn
theorem intD_RD (E:Em) (n:Nat):RD E (intD n) (.int .i64 n):=.p _ _ (.v _)
theorem sEqK_int {k x:Value} {b:Bool} (h:sEqK false k x=some b):∃ q a a',k=.int q a∧x=.int q a'∧b=(a == a'):=by
 unfold sEqK at h
 split at h
 ·split at h
  ·rename_i e;subst e;simp only[Option.some.injEq]at h;exact ⟨_,_,_,rfl,rfl,h.symm⟩
  ·cases h
 ·rename_i e;cases e
 ·cases h
theorem findD_spec {E:Em} {q:IntKind} {V:Nat} {k:Value}:∀ (n:Nat) (ds:List D) (us:List Value) (i:Nat) (r:Option (Nat×List D)),findD (kw V+1) k n ds i=some r→RL E ds us →
  (r=none∧Instr.findNow (.int q) k (entsOf 0 V n us) i=some none) ∨
  ∃ j ds' us' bn,(∃ q' a,k=.int q' a)∧r=some (j,ds')∧i≤j∧j<i+n∧RL E ds' us'∧Instr.findNow (.int q) k (entsOf 0 V n us) i=some (some (j,valOf V us'))∧(entsOf 0 V n us)[j - i]? = some ⟨k,valOf V us',bn⟩
 | 0,ds,us,i,r,h,_=>by simp only[findD,Option.some.injEq]at h;exact .inl ⟨h.symm,rfl⟩
 | n+1,ds,us,i,r,h,hr=>by
  unfold findD at h
  split at h
  ·rename_i _ k' ds'
   cases hr with
   | cons h0 h1 ht=>
    rename_i u us'
    obtain rfl:=h0.v_inv
    split at h
    ·rename_i he
     simp only[Option.some.injEq]at h
     subst h
     obtain ⟨q',a,a',rfl,rfl,hb⟩:=sEqK_int he
     have haa:a=a':=by simpa using hb.symm
     subst haa
     refine .inr ⟨i,ds',us',natV ((us'.drop (kw V)).headD undef),⟨_,_,rfl⟩,rfl,Nat.le_refl _,by omega,ht,?_,?_⟩
     ·simp[entsOf,Instr.findNow,entOf,valOf,Instr.sameNow,kw]
     ·simp[entsOf,entOf,valOf,kw,Nat.add_comm 1]
    ·rename_i he
     obtain ⟨q',a,a',rfl,rfl,hb⟩:=sEqK_int he
     have hne:(a == a')=false:=hb.symm
     have hd:RL E (ds'.drop (kw V+1)) (us'.drop (kw V+1)):=ht.drop _
     have hdrop:(Value.int q' a' :: us').drop (kw 0+kw V+1)=us'.drop (kw V+1):=by
      rw[show kw 0+kw V+1=(kw V+1)+1 by simp[kw];omega];rfl
     have hnow:∀ l,Instr.findNow (.int q) (.int q' a) (entsOf 0 V (n+1) (.int q' a' :: us')) i=Instr.findNow (.int q) (.int q' a) (entsOf 0 V n (us'.drop (kw V+1))) (i+1)∨l:=fun l=>.inl (by
      simp only[entsOf,Instr.findNow,entOf,valOf,List.headD_cons,Instr.sameNow,if_true,hne,hdrop])
     have hnow:=(hnow False).resolve_right id
     rcases findD_spec n _ _ (i+1) r h hd with ⟨rfl,h2⟩ | ⟨j,e,vs,bn,_,rfl,h2,h3,h4,h5,h6⟩
     ·exact .inl ⟨rfl,by rw[hnow];exact h2⟩
     ·refine .inr ⟨j,e,vs,bn,⟨_,_,rfl⟩,rfl,by omega,by omega,h4,by rw[hnow];exact h5,?_⟩
      simp only[entsOf,hdrop]
      rw[show j - i=(j - (i+1))+1 by omega,List.getElem?_cons_succ];exact h6
    ·cases h
  ·cases h
theorem entsOf_length (K V:Nat):∀ n l,(entsOf K V n l).length=n
 | 0,_=>rfl
 | n+1,l=>by simp[entsOf,entsOf_length K V n]
def putL (l:List Value) (off:Nat) (new:List Value):List Value:=l.take off ++ new ++ l.drop (off+new.length)
theorem valOf_app (V:Nat) (x y:List Value) (h:kw V≤x.length):valOf V (x ++ y)=valOf V x:=by
 cases V with
 | zero=>cases x with
  | nil=>simp[kw]at h
  | cons a x=>rfl
 | succ n=>simp only[valOf];rw[List.take_append_of_le_length (show n≤x.length from h)]
theorem entOf_app (K V:Nat) (x y:List Value) (h:x.length=kw K+kw V+1):entOf K V (x ++ y)=entOf K V x:=by
 simp only[entOf]
 rw[valOf_app K x y (by omega),List.drop_append_of_le_length (by omega),List.drop_append_of_le_length (by omega),valOf_app V _ y (by simp;omega)]
 congr 2
 have:(x.drop (kw K+kw V)).length=1:=by simp;omega
 match x.drop (kw K+kw V),this with
 | [a],_=>rfl
theorem blocks_of (w:Nat):∀ (n:Nat) (l:List Value),l.length=n*w→∃ Bs:List (List Value),Bs.length=n∧(∀ x∈Bs,x.length=w)∧l=Bs.flatten
 | 0,l,h=>⟨[],rfl,by simp,by simpa using List.eq_nil_of_length_eq_zero (by simpa using h)⟩
 | n+1,l,h=>by
  obtain ⟨Bs,h1,h2,h3⟩:=blocks_of w n (l.drop w) (by simp[h,Nat.add_mul])
  refine ⟨l.take w :: Bs,by simp[h1],fun x hx=>?_,by rw[List.flatten_cons,←h3,List.take_append_drop]⟩
  rcases List.mem_cons.1 hx with rfl | hx
  ·simp[h,Nat.add_mul]
  ·exact h2 x hx
theorem entsOf_flatten (K V:Nat):∀ (Bs:List (List Value)),(∀ x∈Bs,x.length=kw K+kw V+1)→entsOf K V Bs.length Bs.flatten=Bs.map (entOf K V)
 | [],_=>rfl
 | x :: Bs,h=>by
  have hx:=h x (by simp)
  simp only[List.length_cons,entsOf,List.flatten_cons,List.map_cons]
  rw[entOf_app K V x _ hx,List.drop_append_of_le_length (by omega),List.drop_eq_nil_of_le (by omega),List.nil_append,entsOf_flatten K V Bs (fun y hy=>h y (by simp[hy]))]
theorem putL_skip (x F new:List Value) (o:Nat):putL (x ++ F) (x.length+o) new=x ++ putL F o new:=by
 unfold putL
 rw[List.take_length_add_append,show x.length+o+new.length=x.length+(o+new.length) by omega,List.drop_length_add_append,List.append_assoc,List.append_assoc,List.append_assoc]
theorem put_flatten (w o:Nat) (new:List Value) (ho:o+new.length≤w):∀ (Bs:List (List Value)) (i:Nat),(∀ x∈Bs,x.length=w)→i<Bs.length →
  putL Bs.flatten (i*w+o) new=(Bs.modify i fun x=>putL x o new).flatten
 | [],i,_,h=>by simp at h
 | x :: Bs,0,h,_=>by
  have hx:=h x (by simp)
  simp only[Nat.zero_mul,Nat.zero_add,List.modify_zero_cons,List.flatten_cons,putL]
  rw[List.take_append_of_le_length (by omega),List.drop_append_of_le_length (by omega)]
  simp[List.append_assoc]
 | x :: Bs,i+1,h,hi=>by
  have hx:=h x (by simp)
  have ih:=put_flatten w o new ho Bs i (fun y hy=>h y (by simp[hy])) (by simpa using hi)
  simp only[List.modify_succ_cons,List.flatten_cons]
  rw[←ih,show (i+1)*w+o=x.length+(i*w+o) by rw[hx,Nat.add_mul];omega,putL_skip]
theorem erase_flatten (w:Nat):∀ (Bs:List (List Value)) (i:Nat),(∀ x∈Bs,x.length=w)→i<Bs.length →
  Bs.flatten.take (i*w) ++ Bs.flatten.drop ((i+1)*w)=(Bs.eraseIdx i).flatten
 | [],i,_,h=>by simp at h
 | x :: Bs,0,h,_=>by
  have hx:=h x (by simp)
  simp only[Nat.zero_mul,List.take_zero,List.nil_append,Nat.zero_add,Nat.one_mul,List.flatten_cons,List.eraseIdx_cons_zero]
  rw[←hx,List.drop_left]
 | x :: Bs,i+1,h,hi=>by
  have hx:=h x (by simp)
  have ih:=erase_flatten w Bs i (fun y hy=>h y (by simp[hy])) (by simpa using hi)
  simp only[List.eraseIdx_cons_succ,List.flatten_cons,←ih]
  rw[show (i+1)*w=x.length+i*w by rw[hx,Nat.add_mul];omega,List.take_length_add_append,show (i+1+1)*w=x.length+(i+1)*w by rw[hx,Nat.add_mul (i+1)];omega,List.drop_length_add_append,List.append_assoc,show (i+1)*w=x.length+i*w by rw[hx,Nat.add_mul];omega]
theorem map_modify' {α β:Type} (f:α→β) (g:α→α) (g':β→β):∀ (l:List α) (i:Nat),(∀ x∈l,f (g x)=g' (f x))→(l.modify i g).map f=(l.map f).modify i g'
 | [],i,_=>by cases i <;> rfl
 | x :: l,0,h=>by simp[h x (by simp)]
 | x :: l,i+1,h=>by simp[map_modify' f g g' l i fun y hy=>h y (by simp[hy])]
theorem map_eraseIdx' {α β:Type} (f:α→β):∀ (l:List α) (i:Nat),(l.eraseIdx i).map f=(l.map f).eraseIdx i
 | [],i=>by cases i <;> rfl
 | x :: l,0=>by simp
 | x :: l,i+1=>by simp[map_eraseIdx' f l i]
theorem entOf_put (K V:Nat) (x new:List Value) (hx:x.length=kw K+kw V+1) (hn:new.length=kw V):entOf K V (putL x (kw K) new)={ entOf K V x with val:=valOf V new }:=by
 have hk:(x.take (kw K)).length=kw K:=by simp;omega
 simp only[entOf,putL,List.append_assoc,hn]
 rw[List.drop_append_of_le_length (by omega),List.drop_eq_nil_of_le (by omega:(x.take (kw K)).length≤kw K),List.nil_append,valOf_app V new _ (by omega),valOf_app K (x.take (kw K)) _ (by omega)]
 have e1:valOf K (x.take (kw K))=valOf K x:=by
  conv=>rhs;rw[←List.take_append_drop (kw K) x]
  rw[valOf_app K _ _ (by omega)]
 have e2:(x.take (kw K) ++ (new ++ x.drop (kw K+kw V))).drop (kw K+kw V)=x.drop (kw K+kw V):=by
  rw[←List.append_assoc]
  have:(x.take (kw K) ++ new).length=kw K+kw V:=by simp;omega
  rw[List.drop_append_of_le_length (by omega),List.drop_eq_nil_of_le (by omega),List.nil_append]
 rw[e1,e2]
theorem map_blocks (K V:Nat) (us:List Value) (h:us.length=1+(us.length - 1) / (kw K+kw V+1)*(kw K+kw V+1)):∃ (u:Value) (Bs:List (List Value)),us=u :: Bs.flatten ∧
  (∀ x∈Bs,x.length=kw K+kw V+1)∧(us.length - 1) / (kw K+kw V+1)=Bs.length∧mapObj K V us=.map (Bs.map (entOf K V)).toArray (natV u):=by
 cases us with
 | nil=>simp at h
 | cons u us=>
  obtain ⟨Bs,h1,h2,h3⟩:=blocks_of (kw K+kw V+1) (((u :: us).length - 1) / (kw K+kw V+1)) us (by simp at h ⊢;omega)
  refine ⟨u,Bs,by rw[h3],h2,h1.symm,?_⟩
  unfold mapObj
  rw[←h1]
  simp only[List.drop_one,List.tail_cons,h3,List.headD_cons]
  rw[entsOf_flatten K V Bs h2]
theorem flatten_length (w:Nat):∀ (Bs:List (List Value)),(∀ x∈Bs,x.length=w)→Bs.flatten.length=Bs.length*w
 | [],_=>by simp
 | x :: Bs,h=>by simp[flatten_length w Bs fun y hy=>h y (by simp[hy]),h x (by simp),Nat.add_mul];omega
theorem mapObj_blocks (K V:Nat) (u:Value) (Bs:List (List Value)) (h:∀ x∈Bs,x.length=kw K+kw V+1):mapObj K V (u :: Bs.flatten)=.map (Bs.map (entOf K V)).toArray (natV u):=by
 have hl:=flatten_length _ Bs h
 have e:((u :: Bs.flatten).length - 1) / (kw K+kw V+1)=Bs.length:=by simp only[List.length_cons,Nat.add_sub_cancel,hl];exact Nat.mul_div_cancel _ (by omega)
 unfold mapObj
 rw[e]
 simp only[List.drop_one,List.tail_cons,List.headD_cons]
 rw[entsOf_flatten K V Bs h]
section
variable {P:Program} {c:Ctx} {n:Nat} {o:Oper} {ρ:Env} {st:St} {T:Nat→Prop} {K:D→St→Prop}
theorem HR.mapcell {E:Em} {w:World} (hw:HR P c E st w) {i b:Nat} (hN:E.N i b) {B:Box} (hB:st.box[i]? = some B) (hm:B.m=true) {kk vv:Nat} (he:B.e=1+1000*kk+vv) (hv:vv<1000) :
  E.ι i=some b∧∃ us,RL E B.cells us∧w.heap[b]? = some (mapObj kk vv us):=by
 have hi:=hw.liveM hN hB hm
 obtain ⟨B',vs,hB',hh,hs,hR,_,⟨hfm,hbk⟩,_⟩:=hw.box i b hi
 rw[hB]at hB'
 obtain rfl:B=B':=by simpa using hB'
 refine ⟨hi,vs.toList.take B.cells.length,.of (by simp;omega) fun j hj=>?_,?_⟩
 ·have:=hR j hj
  have hj2:j<vs.size:=by omega
  simp only[List.getD,List.getElem?_take,if_pos hj]
  simpa [hj2] using this
 ·rw[hh]
  simp only[objOf,hm,if_true,he]
  rw[if_neg (show ¬ ((1+1000*kk+vv:Nat)=0) by omega),show (1+1000*kk+vv - 1) / 1000=kk by omega,show (1+1000*kk+vv - 1) % 1000=vv by omega]
theorem run_checkKeyI {w:World} {kt:TypeId} {q:IntKind} (hd:P.underlying kt=some (.int q)) (k:Value) (e:Bool) (n:Nat):(Instr.checkKey e (n+1) kt k).run P w=.ok () w:=by
 unfold Instr.checkKey
 simp only[Sem.run_bind,run_underlying hd,Result.andThen]
 cases k <;> simp
theorem run_keyStays {w:World} (q:IntKind) (a:Int):(Instr.keyThatStays (.int q a) (.int q a)).run P w=.ok (.int q a) w:=by
 simp[Instr.keyThatStays,Instr.sameBits]
theorem valD_RD {E:Em} {V:Nat} {ds:List D} {us:List Value} (h:RL E ds us) (hl:kw V≤ds.length):RD E (valD V ds) (valOf V us):=by
 cases V with
 | zero=>cases h with
  | nil=>simp[kw]at hl
  | cons h _ _=>exact h
 | succ n=>
  simp only[valD,valOf]
  have ht:=h.take n
  refine RD.mkAgg (.agg _ _ (by simpa using ht.length) fun i hi=>?_)
  have:=(ht.get i hi).1
  simpa [Array.getD_eq_getD_getElem?,List.getD] using this
theorem val_cells {E:Em} {V:Nat} {d:D} {u:Value} (h:RD E d u) (ho:(cellsD d).all oneD=true) (hl:(cellsD d).length=kw V) (hk:valOK V d=true):RL E (cellsD d) u.cells.toList∧valOf V u.cells.toList=u:=by
 have hrc:=RC.of_value h ho
 refine ⟨.of (by simpa using hrc.1) fun j hj=>by simpa [Array.getD_eq_getD_getElem?,List.getD] using hrc.2 j (by rw[hrc.1];exact hj),?_⟩
 cases V with
 | zero=>
  have h1:u.cells=#[u]:=by
   cases h <;> first | (simp[valOK,oneD]at hk;done) | skip
   case p x h=>cases h <;> first | (simp[valOK,oneD,oneP]at hk;done) | (simp[valOK,oneD,oneP,Value.oneCell']at hk;cases u <;> simp_all [Value.cells];done) | rfl
   all_goals first | rfl | skip
   case grp g n cells b cap cur hg h0 h1 h2=>cases h1 <;> rfl
  rw[h1];rfl
 | succ n=>
  have h1:∃ cs,u=.agg cs:=by
   cases d <;> simp[valOK]at hk
   case p x=>cases x <;> simp at hk;obtain ⟨us,rfl,_⟩:=h.p_inv.agg_inv;exact ⟨us,rfl⟩
   case agg ds=>obtain ⟨us,rfl,_⟩:=h.agg_inv;exact ⟨us,rfl⟩
  obtain ⟨cs,rfl⟩:=h1
  have h2:(Value.agg cs).cells=cs:=rfl
  have h3:cs.size=n:=by have:=hrc.1;rw[h2,hl]at this;exact this
  simp only[h2,valOf]
  rw[List.take_of_length_le (by simp;omega)]
open Go.ChangeMaps (setBlock)
theorem frozen_setBlock (w:World) (b:Nat) (o o':Obj) (hb:w.heap[b]? = some o') (h1:∀ x y z,o'≠.cells x y z) (h2:∀ x y z,o≠.cells x y z) (a:Addr):(setBlock w b o).frozen? a=w.frozen? a:=by
 have hlt:b<w.heap.size:=(Array.getElem?_eq_some_iff.1 hb).1
 unfold World.frozen? setBlock
 simp only
 by_cases h:a.block=b
 ·rw[h,hb]
  have:(w.heap.setIfInBounds b o)[b]? = some o:=by simp[hlt]
  rw[this]
  cases o <;> cases o' <;> simp_all
 ·have:(w.heap.setIfInBounds b o)[a.block]? = w.heap[a.block]?:=by simp[Ne.symm h]
  rw[this]
theorem HR.putmap {E:Em} {w:World} (hw:HR P c E st w) {i b:Nat} (hb:E.ι i=some b) {B:Box} (hB:st.box[i]? = some B) (hm:B.m=true) (hap:B.ap=false) (cells:List D) (us:List Value)
  (hR:RL E cells us) (o:Obj) (ho:objOf { B with cells:=cells } us.toArray=o) :
  HR P c E { st with box:=st.box.set i { B with cells:=cells } } (setBlock w b o):=by
 obtain ⟨B',vs,q1,q2,_⟩:=hw.box i b hb
 rw[hB]at q1
 obtain rfl:B=B':=by simpa using q1
 have hlt:b<w.heap.size:=(Array.getElem?_eq_some_iff.1 q2).1
 have hn:∀ (C:Box) (us:Array Value),C.m=true→∀ x y z,objOf C us≠.cells x y z:=fun C us hC x y z=>by
  unfold objOf
  rw[if_pos hC]
  split
  ·unfold iterObj;simp
  ·unfold mapObj;simp
 refine hw.putbox hb hB hm hap cells us.toArray rfl ⟨rfl,Nat.le_refl _⟩ rfl (by simp[setBlock]) (fun k hk=>by simp[setBlock,Ne.symm hk]) (fun a=>frozen_setBlock w b o _ q2 (hn _ _ hm) (by rw[←ho];exact hn _ _ hm) a) (by rw[ho];simp[setBlock,hlt]) (by simpa using Nat.le_of_eq hR.length.symm) (fun j hj=>by simpa [Array.getD_eq_getD_getElem?,List.getD] using hR.get j hj)
theorem objOf_map {B:Box} {kk vv:Nat} (us:List Value) (hm:B.m=true) (he:B.e=1+1000*kk+vv) (hv:vv<1000) (hl:us.length=B.cells.length):objOf B us.toArray=mapObj kk vv us:=by
 unfold objOf
 rw[if_pos hm,if_neg (show ¬ (B.e=0) by rw[he];exact (by omega:¬ ((1+1000*kk+vv:Nat)=0))),he,show (1+1000*kk+vv - 1) / 1000=kk by omega,show (1+1000*kk+vv - 1) % 1000=vv by omega,←hl]
 simp
theorem objOf_iter {B:Box} (us:List Value) (hm:B.m=true) (he:B.e=0) (hl:us.length=B.cells.length):objOf B us.toArray=iterObj us:=by
 unfold objOf
 rw[if_pos hm,if_pos he,←hl]
 simp
def readsMap (ρ:Env) (x:Operand) (i:Nat):Prop:=ev ρ x=.mref i
theorem mapBox_inv {kk vv:Nat} {d:D} {F:Nat→Box→Prop} (h:mapBox st kk vv d F):∃ i B,d=.mref i∧st.box[i]? = some B∧B.m=true∧B.ap=false∧B.e=1+1000*kk+vv∧vv<1000∧F i B:=by
 unfold mapBox at h
 split at h
 ·split at h
  ·rename_i i B hB
   exact ⟨_,_,rfl,hB,h⟩
  ·exact h.elim
 ·exact h.elim
theorem RD.mref_inv {E:Em} {i:Nat} {u:Value} (h:RD E (.mref i) u):∃ b,E.N i b∧u=.map (some b):=by cases h with | mref _ b h=>exact ⟨b,h,rfl⟩
theorem does_mk (C:CallW) (t:TypeId) (kk vv:Nat) (ho:o.op=.makeMap t none) (h:wpOp C ρ st K (.mop (.mk kk vv))):DoesK P c n o ρ st T K:=by
 refine .gen fun E a w hw ha=>?_
 simp only[wpOp,wpM]at h
 have hnb:=hw.newboxM { cells:=[intD 0],e:=1+1000*kk+vv,fz:=true,m:=true } #[.int .i64 0] rfl rfl (by simp) (fun j hj=>by
  have:j=0:=by simpa using hj
  subst this;exact ⟨intD_RD E 0,rfl⟩)
 have hobj:objOf { cells:=[intD 0],e:=1+1000*kk+vv,fz:=true,m:=true } #[.int .i64 0]=.map #[] 0:=by
  rw[objOf_map (kk:=kk) (vv:=vv) [.int .i64 0] rfl rfl h.1 rfl]
  simp[mapObj,entsOf,natV]
 rw[hobj]at hnb
 refine ⟨_,_,_,_,_,.inl ?_,hw.le_addι w.heap.size,hnb,.mref _ w.heap.size (.inl (by simp[Em.addι])),hw.kept_addι T _ _,h.2⟩
 simp[execOp,ho,Instr.makeMap,newObj,Sem.run]
theorem zero_RL {E:Em} {V:Nat} {z:Value} (h1:∀ v∈z.cells.toList,v.oneCell'=true):RL E (z.cells.toList.map fun v=>.p (cstP v)) z.cells.toList:=by
 have:=RC.consts E z.cells.toList h1
 exact .of (by simp) fun j hj=>by
  have h2:=this.2 j (by simpa using hj)
  simpa [Array.getD_eq_getD_getElem?,List.getD] using h2
theorem quiet_look (C:CallW) (t kt et:TypeId) (q:IntKind) (inf:TypeInfo) (z:Value) (ok:Bool) (V:Nat) (x y:Operand) (ho:o.op=.lookup t x y ok) (ht:P.underlying t=some (.map kt et)) (hk:P.underlying kt=some (.int q))
  (hi:P.info? et=some inf) (hz:inf.zero=some z) (h1:∀ v∈z.cells.toList,v.oneCell'=true) (hzl:z.cells.size=kw V) (hzv:valOf V z.cells.toList=z)
  (h:wpOp C ρ st K (.mop (.look ok V (z.cells.toList.map fun v=>.p (cstP v)) x y))):QuietK P c n o ρ st (readsMap ρ x) K:=by
 intro E a w hw ha
 have hx:=ha.ev x
 have hy:=ha.ev y
 have hzd:RD E (valD V (z.cells.toList.map fun v=>.p (cstP v))) z:=by
  have:=valD_RD (V:=V) (zero_RL (E:=E) (V:=V) h1) (by simp[hzl])
  rwa [hzv]at this
 have htup:∀ (d:D) (v:Value) (b:Bool),RD E d v→RD E (if ok=true then mkTup [d,.p (.v (.bool b))] else d) (if ok=true then .tuple #[v,.bool b] else v):=fun d v b hd=>by
  split
  ·exact RD.mkTup (.tup _ _ rfl fun i hi=>by
    match i,hi with
    | 0,_=>exact hd
    | 1,_=>exact .p _ _ (.v _))
  ·exact hd
 have hzero:∀ w':World,(zeroValue et).run P w'=.ok z w':=fun w'=>by simp[zeroValue,typeInfo,hi,hz]
 simp only[wpOp,wpM]at h
 split at h
 ·rename_i q' k hky
  rw[hky]at hy
  have ey:=hy.v_inv
  split at h
  ·rename_i hmx
   rw[hmx]at hx
   have ex:=hx.v_inv
   refine ⟨_,_,fun w' _ _=>?_,htup _ _ false hzd,h⟩
   simp[execOp,ho,ex,ey,Instr.lookup,run_underlying ht,Result.andThen,run_checkKeyI hk,Instr.findKey,run_underlying hk,Instr.findNow,hzero]
  ·obtain ⟨i,B,hd,hB,hm,hap,he,hv,h⟩:=mapBox_inv h
   rw[hd]at hx
   obtain ⟨b,hN,ex⟩:=hx.mref_inv
   obtain ⟨hib,us,hus,hobj⟩:=hw.mapcell hN hB hm he hv
   have hlen:=hus.length
   have key:∀ w':World,(∀ i b,E.ι i=some b→readsMap ρ x i→w'.heap[b]? = w.heap[b]?)→w'.heap[b]? = some (mapObj 0 V us):=fun w' hh=>by rw[hh i b hib hd];exact hobj
   have hw0:kw 0+kw V+1=kw V+2:=by simp[kw];omega
   split at h
   ·rename_i j r hf
    rcases findD_spec (q:=q) _ _ _ _ _ hf (hus.drop 1) with ⟨h0,_⟩ | ⟨j',ds',us',bn,_,hj,_,_,hr,h2,h3⟩
    ·cases h0
    ·obtain ⟨rfl,rfl⟩:j=j'∧r=ds':=by simpa using hj
     refine ⟨_,_,fun w' _ hh=>?_,htup _ _ true (valD_RD hr h.1),h.2⟩
     have hb':=key w' hh
     unfold mapObj at hb'
     rw[hw0,hlen]at hb'
     generalize entsOf 0 V ((B.cells.length - 1) / (kw V+2)) (List.drop 1 us)=es at hb' h2
     simp[execOp,ho,ex,ey,Instr.lookup,run_underlying ht,Result.andThen,MapKept.run_getObj_map hb',run_checkKeyI hk,MapKept.run_findKey hk h2]
   ·rename_i hf
    rcases findD_spec (q:=q) _ _ _ _ _ hf (hus.drop 1) with ⟨_,h2⟩ | ⟨j',ds',us',bn,_,hj,_⟩
    ·refine ⟨_,_,fun w' _ hh=>?_,htup _ _ false hzd,h⟩
     have hb':=key w' hh
     unfold mapObj at hb'
     rw[hw0,hlen]at hb'
     generalize entsOf 0 V ((B.cells.length - 1) / (kw V+2)) (List.drop 1 us)=es at hb' h2
     simp[execOp,ho,ex,ey,Instr.lookup,run_underlying ht,Result.andThen,MapKept.run_getObj_map hb',run_checkKeyI hk,MapKept.run_findKey hk h2,hzero]
    ·cases hj
   ·exact h.elim
 ·exact h.elim
theorem quiet_mlen (C:CallW) (t kt et:TypeId) (kk vv:Nat) (x:Operand) (ho:o.op=.call { callee:=.builtin .len,args:=#[x],argTypes:=#[t] }) (ht:P.underlying t=some (.map kt et))
  (h:wpOp C ρ st K (.mop (.len kk vv x))):QuietK P c n o ρ st (readsMap ρ x) K:=by
 intro E a w hw ha
 have hx:=ha.ev x
 simp only[wpOp,wpM]at h
 split at h
 ·rename_i hmx
  rw[hmx]at hx
  have ex:=hx.v_inv
  refine ⟨_,_,fun w' _ _=>?_,intD_RD E 0,h⟩
  simp[execOp,ho,resolve,invoke,builtin,Builtin.len_,ex,run_underlying ht,goInt]
 ·obtain ⟨i,B,hd,hB,hm,hap,he,hv,h⟩:=mapBox_inv h
  rw[hd]at hx
  obtain ⟨b,hN,ex⟩:=hx.mref_inv
  obtain ⟨hib,us,hus,hobj⟩:=hw.mapcell hN hB hm he hv
  have hlen:=hus.length
  refine ⟨_,_,fun w' _ hh=>?_,intD_RD E _,h⟩
  have hb':w'.heap[b]? = some (mapObj kk vv us):=by rw[hh i b hib hd];exact hobj
  unfold mapObj at hb'
  rw[hlen]at hb'
  have hsz:=entsOf_length kk vv ((B.cells.length - 1) / (kw kk+kw vv+1)) (List.drop 1 us)
  generalize entsOf kk vv ((B.cells.length - 1) / (kw kk+kw vv+1)) (List.drop 1 us)=es at hb' hsz
  simp[execOp,ho,resolve,invoke,builtin,Builtin.len_,ex,run_underlying ht,MapKept.run_getObj_map hb',Result.andThen,goInt,hsz]
theorem quiet_eqM (C:CallW) (neg:Bool) (t t' k e:TypeId) (x y:Operand) (ho:o.op=.binOp (if neg then .neq else .eql) t x y t') (ht:P.underlying t=some (.map k e)) (h:wpOp C ρ st K (.mop (.eqN neg x y))):QuietK P c n o ρ st (fun _=>False) K:=by
 refine .val fun E a w hw ha=>?_
 have hx:=ha.ev x
 have hy:=ha.ev y
 have key:∀ (ad:Option Nat),a.eval x=.map ad→a.eval y=.map none→∀ w:World,(execOp a.eval o).run P w=.ok (.value (.bool (ad.isNone ^^ neg))) w:=fun ad e1 e2 w=>by
  have he:(Op.equalIn (Op.maxDepth - 1+1) t (.map ad) (.map none)).run P w=.ok ad.isNone w:=by
   cases ad <;> simp only[Op.equalIn,Sem.run_bind,run_underlying ht,Result.andThen_ok,Sem.run_pure,Option.isNone]
  cases neg <;> simp[execOp,ho,e1,e2,eqGuard,binOp,Op.equal] <;> (rw[show Op.maxDepth=Op.maxDepth - 1+1 from rfl,he];simp)
 simp only[wpOp,wpM]at h
 split at h
 ·rename_i i hb hb2
  rw[hb]at hx;rw[hb2]at hy
  obtain ⟨b,_,e1⟩:=hx.mref_inv
  exact ⟨_,_,key _ e1 hy.v_inv,.p _ _ (.v _),by simpa using h⟩
 ·rename_i hb hb2
  rw[hb]at hx;rw[hb2]at hy
  exact ⟨_,_,key _ hx.v_inv hy.v_inv,.p _ _ (.v _),by simpa using h⟩
 ·exact h.elim
theorem mem_modify' {α:Type} (p:α→Prop) (g:α→α) (hg:∀ x,p x→p (g x)):∀ (l:List α) (i:Nat),(∀ x∈l,p x)→∀ x∈l.modify i g,p x
 | [],i,_,x,hx=>by cases i <;> simp at hx
 | y :: l,0,h,x,hx=>by
  simp only[List.modify_zero_cons,List.mem_cons]at hx
  rcases hx with rfl | hx
  ·exact hg _ (h _ (by simp))
  ·exact h x (by simp[hx])
 | y :: l,i+1,h,x,hx=>by
  simp only[List.modify_succ_cons,List.mem_cons]at hx
  rcases hx with rfl | hx
  ·exact h _ (by simp)
  ·exact mem_modify' p g hg l i (fun z hz=>h z (by simp[hz])) x hx
theorem arr_modify (l:List MapEntry) (j:Nat) (f g:MapEntry→MapEntry) (h:∀ e,l[j]? = some e→f e=g e):l.toArray.modify j f=(l.modify j g).toArray:=by
 apply Array.ext_getElem?
 intro i
 rw[Array.getElem?_modify,List.getElem?_toArray,List.getElem?_toArray,List.getElem?_modify]
 split
 ·rename_i hij
  subst hij
  cases hl:l[j]? with
  | none=>rfl
  | some e=>simp[h e hl]
 ·rename_i hij
  simp
theorem putL_length (l:List Value) (off:Nat) (new:List Value) (h:off+new.length≤l.length):(putL l off new).length=l.length:=by
 unfold putL;simp;omega
theorem does_upd (C:CallW) (t kt et:TypeId) (q:IntKind) (V:Nat) (x y z:Operand) (ho:o.op=.mapUpdate t x y z∨o.op=.insert t x y z) (ht:P.underlying t=some (.map kt et)) (hk:P.underlying kt=some (.int q))
  (hT:∀ i,readsMap ρ x i→T i) (h:wpOp C ρ st K (.mop (.upd V x y z))):DoesK P c n o ρ st T K:=by
 refine .gen fun E a w hw ha=>?_
 have hx:=ha.ev x
 have hy:=ha.ev y
 have hz:=ha.ev z
 simp only[wpOp,wpM]at h
 split at h
 ·rename_i q' k hky
  rw[hky]at hy
  have ey:=hy.v_inv
  obtain ⟨i,B,hd,hB,hm,hap,he,hv,hvok,hcl,hco,hlen,h⟩:=mapBox_inv h
  rw[hd]at hx
  obtain ⟨b,hN,ex⟩:=hx.mref_inv
  obtain ⟨hib,us,hus,hobj⟩:=hw.mapcell hN hB hm he hv
  obtain ⟨hvr,hvv⟩:=val_cells hz hco hcl hvok
  have hw0:kw 0+kw V+1=kw V+2:=by simp[kw];omega
  have hul:=hus.length
  obtain ⟨u0,Bs,hus0,hBs,hBn,hobj0⟩:=map_blocks 0 V us (by rw[hw0,hul];exact hlen)
  have hus':=hus
  have hobj':=hobj
  rw[hobj0]at hobj'
  have hkeep:∀ (o:Obj) j b',E.ι j=some b'→¬ T j→E.ι j=some b'∧(setBlock w b o).heap[b']? = w.heap[b']?:=fun o j b' hj hnT=>by
   refine ⟨hj,?_⟩
   have hne:b'≠b:=fun e=>by subst e;exact hnT (by rw[hw.inj j i b' hj hib];exact hT i hd)
   simp[setBlock,Ne.symm hne]
  have hexec:∀ w':World,(Instr.mapUpdate t (.map (some b)) (.int q' k) (a.eval z)).run P w=.ok () w'→(execOp a.eval o).run P w=.ok .skip w':=fun w' hr=>by
   rcases ho with ho | ho <;> simp[execOp,ho,ex,ey,hr,Result.andThen]
  have hents:entsOf 0 V ((B.cells.length - 1) / (kw V+2)) (us.drop 1)=Bs.map (entOf 0 V):=by
   rw[←hul,←hw0,hBn,hus0]
   simp only[List.drop_one,List.tail_cons]
   exact entsOf_flatten 0 V Bs hBs
  have hnew:(a.eval z).cells.toList.length=kw V:=by rw[hvr.length,hcl]
  split at h
  ·rename_i j r hf
   rcases findD_spec (q:=q) _ _ _ _ _ hf (hus.drop 1) with ⟨h0,_⟩ | ⟨j',ds',us',bn,_,hj,_,hjn,hr,h2,h3⟩
   ·cases h0
   ·obtain ⟨rfl,rfl⟩:j=j'∧r=ds':=by simpa using hj
    rw[hents]at h2 h3
    have hjn:j<Bs.length:=by rw[←hBn,hw0,hul];omega
    have hput:=put_flatten (kw 0+kw V+1) 1 (a.eval z).cells.toList (by rw[hnew,hw0];omega) Bs j hBs hjn
    have hmod:(Bs.modify j fun x=>putL x 1 (a.eval z).cells.toList).map (entOf 0 V)=(Bs.map (entOf 0 V)).modify j fun e=>{ e with val:=a.eval z }:=
     map_modify' _ _ _ _ _ fun x hxm=>by
      have:=entOf_put 0 V x (a.eval z).cells.toList (hBs x hxm) hnew
      rw[hvv]at this
      exact this
    have hBs':∀ x∈Bs.modify j fun x=>putL x 1 (a.eval z).cells.toList,x.length=kw 0+kw V+1:=by
     exact mem_modify' (fun x=>x.length=kw 0+kw V+1) _ (fun x hx=>by
      have:=putL_length x 1 (a.eval z).cells.toList (by rw[hnew,show x.length=kw V+2 from hx.trans hw0];omega)
      exact this.trans hx) Bs j hBs
    have hR:=hus.put hvr (2+j*(kw V+2))
    have hcells:us.take (2+j*(kw V+2)) ++ (a.eval z).cells.toList ++ us.drop (2+j*(kw V+2)+(a.eval z).cells.toList.length)=u0 :: (Bs.modify j fun x=>putL x 1 (a.eval z).cells.toList).flatten:=by
     rw[←hput,hus0,show 2+j*(kw V+2)=(j*(kw 0+kw V+1)+1)+1 by rw[hw0];omega,List.take_succ_cons,show j*(kw 0+kw V+1)+1+1+(a.eval z).cells.toList.length=(j*(kw 0+kw V+1)+1+(a.eval z).cells.toList.length)+1 by omega,List.drop_succ_cons]
     rfl
    rw[hcells]at hR
    have hob:objOf { B with cells:=putCells B.cells (2+j*(kw V+2)) (cellsD (ev ρ z)) } (u0 :: (Bs.modify j fun x=>putL x 1 (a.eval z).cells.toList).flatten).toArray=.map ((Bs.map (entOf 0 V)).modify j fun e=>{ e with val:=a.eval z }).toArray (natV u0):=by
     refine (objOf_map (B:={ B with cells:=putCells B.cells (2+j*(kw V+2)) (cellsD (ev ρ z)) }) (kk:=0) (vv:=V) _ hm he hv hR.length).trans ?_
     rw[mapObj_blocks 0 V u0 _ hBs',hmod]
    have hp:=hw.putmap hib hB hm hap _ _ hR _ hob
    refine ⟨undef,_,E,_,_,.inr ⟨hexec _ ?_,rfl⟩,Em.le.refl E,hp,.p _ _ (.v _),hkeep _,h⟩
    simp only[Nat.sub_zero]at h3
    have harr:=arr_modify (Bs.map (entOf 0 V)) j (fun e=>{ e with key:=.int q' k,val:=a.eval z }) (fun e=>{ e with val:=a.eval z }) (fun e he=>by rw[h3]at he;simp only[Option.some.injEq]at he;subst he;rfl)
    generalize Bs.map (entOf 0 V)=es at h2 h3 hobj' harr
    rw[←harr]
    simp[Instr.mapUpdate,run_underlying ht,MapKept.run_getObj_map hobj',run_checkKeyI hk,MapKept.run_findKey hk h2,h3,run_keyStays,MapKept.run_setObj_map _ hobj',Result.andThen,setBlock]
  ·rename_i hf
   rcases findD_spec (q:=q) _ _ _ _ _ hf (hus.drop 1) with ⟨_,h2⟩ | ⟨j',ds',us',bn,_,hj,_⟩
   ·rw[hents]at h2
    split at h
    ·rename_i cl hcl0
     obtain ⟨hnv,hu0⟩:=hus.headInt hcl0
     rw[hus0,List.headD_cons]at hnv hu0
     have hx1:entOf 0 V (Value.int q' k :: (a.eval z).cells.toList ++ [Value.int .i64 cl])=⟨.int q' k,a.eval z,cl⟩:=by
      simp only[entOf]
      have e1:(Value.int q' k :: (a.eval z).cells.toList ++ [Value.int .i64 cl]).drop (kw 0)=(a.eval z).cells.toList ++ [Value.int .i64 cl]:=rfl
      have e2:(Value.int q' k :: (a.eval z).cells.toList ++ [Value.int .i64 cl]).drop (kw 0+kw V)=[Value.int .i64 cl]:=by
       rw[←List.drop_drop,e1,List.drop_append_of_le_length (by omega),List.drop_eq_nil_of_le (by omega)];rfl
      rw[e1,e2,valOf_app V _ _ (by omega),hvv]
      simp[valOf,natV]
     have hBs':∀ x∈Bs ++ [Value.int q' k :: (a.eval z).cells.toList ++ [Value.int .i64 cl]],x.length=kw 0+kw V+1:=fun x hx=>by
      rcases List.mem_append.1 hx with hx | hx
      ·exact hBs x hx
      ·rw[List.mem_singleton.1 hx,hw0];simp only[List.cons_append,List.length_cons,List.length_append,hnew,List.length_nil]
     have hR:RL E (intD (cl+1) :: B.cells.drop 1 ++ .p (.v (.int q' k)) :: cellsD (ev ρ z) ++ [intD cl]) (Value.int .i64 ((cl+1:Nat):Int) :: (Bs ++ [Value.int q' k :: (a.eval z).cells.toList ++ [Value.int .i64 cl]]).flatten):=by
      have hr1:RL E (B.cells.drop 1) Bs.flatten:=by have:=hus.drop 1;rw[hus0]at this;exact this
      have:=((RL.cons (intD_RD E (cl+1)) rfl hr1).app (.cons (.p _ _ (.v (.int q' k))) rfl hvr)).app (.cons (intD_RD E cl) rfl .nil)
      simpa [List.append_assoc] using this
     have hob:objOf { B with cells:=intD (cl+1) :: B.cells.drop 1 ++ .p (.v (.int q' k)) :: cellsD (ev ρ z) ++ [intD cl] } (Value.int .i64 ((cl+1:Nat):Int) :: (Bs ++ [Value.int q' k :: (a.eval z).cells.toList ++ [Value.int .i64 cl]]).flatten).toArray =
       .map ((Bs.map (entOf 0 V)).toArray.push ⟨.int q' k,a.eval z,natV u0⟩) (natV u0+1):=by
      refine (objOf_map (B:={ B with cells:=intD (cl+1) :: B.cells.drop 1 ++ .p (.v (.int q' k)) :: cellsD (ev ρ z) ++ [intD cl] }) (kk:=0) (vv:=V) _ hm he hv hR.length).trans ?_
      rw[mapObj_blocks 0 V _ _ hBs',hnv]
      have:natV (.int .i64 ((cl+1:Nat):Int))=cl+1:=by simp only[natV];omega
      rw[this]
      congr 1
      rw[List.map_append,List.map_singleton,hx1]
      simp
     have hp:=hw.putmap hib hB hm hap _ _ hR _ hob
     refine ⟨undef,_,E,_,_,.inr ⟨hexec _ ?_,rfl⟩,Em.le.refl E,hp,.p _ _ (.v _),hkeep _,h⟩
     generalize Bs.map (entOf 0 V)=es at h2 hobj'
     simp[Instr.mapUpdate,run_underlying ht,MapKept.run_getObj_map hobj',run_checkKeyI hk,MapKept.run_findKey hk h2,MapKept.run_setObj_map _ hobj',Result.andThen,setBlock]
    ·exact h.elim
   ·cases hj
  ·exact h.elim
 ·exact h.elim
theorem does_del (C:CallW) (t t2 kt et:TypeId) (q:IntKind) (V:Nat) (x y:Operand) (ho:o.op=.call { callee:=.builtin .delete,args:=#[x,y],argTypes:=#[t,t2] }) (ht:P.underlying t=some (.map kt et)) (hk:P.underlying kt=some (.int q))
  (hT:∀ i,readsMap ρ x i→T i) (h:wpOp C ρ st K (.mop (.del V x y))):DoesK P c n o ρ st T K:=by
 refine .gen fun E a w hw ha=>?_
 have hx:=ha.ev x
 have hy:=ha.ev y
 simp only[wpOp,wpM]at h
 split at h
 ·rename_i q' k hky
  rw[hky]at hy
  have ey:=hy.v_inv
  obtain ⟨i,B,hd,hB,hm,hap,he,hv,hlen,h⟩:=mapBox_inv h
  rw[hd]at hx
  obtain ⟨b,hN,ex⟩:=hx.mref_inv
  obtain ⟨hib,us,hus,hobj⟩:=hw.mapcell hN hB hm he hv
  have hw0:kw 0+kw V+1=kw V+2:=by simp[kw];omega
  have hul:=hus.length
  obtain ⟨u0,Bs,hus0,hBs,hBn,hobj0⟩:=map_blocks 0 V us (by rw[hw0,hul];exact hlen)
  have hobj':=hobj
  rw[hobj0]at hobj'
  have hkeep:∀ (o:Obj) j b',E.ι j=some b'→¬ T j→E.ι j=some b'∧(setBlock w b o).heap[b']? = w.heap[b']?:=fun o j b' hj hnT=>by
   refine ⟨hj,?_⟩
   have hne:b'≠b:=fun e=>by subst e;exact hnT (by rw[hw.inj j i b' hj hib];exact hT i hd)
   simp[setBlock,Ne.symm hne]
  have hexec:∀ w':World,(Builtin.delete_ #[t,t2] o.type #[.map (some b),.int q' k]).run P w=.ok (.tuple #[]) w'→(execOp a.eval o).run P w=.ok (.value (.tuple #[])) w':=fun w' hr=>by
   simp[execOp,ho,resolve,invoke,builtin,ex,ey,hr,Result.andThen]
  have hents:entsOf 0 V ((B.cells.length - 1) / (kw V+2)) (us.drop 1)=Bs.map (entOf 0 V):=by
   rw[←hul,←hw0,hBn,hus0]
   simp only[List.drop_one,List.tail_cons]
   exact entsOf_flatten 0 V Bs hBs
  have htup:RD E (.p (.tup [])) (.tuple #[]):=.p _ _ (.tup _ _ rfl fun i hi=>absurd hi (Nat.not_lt_zero _))
  split at h
  ·rename_i j r hf
   rcases findD_spec (q:=q) _ _ _ _ _ hf (hus.drop 1) with ⟨h0,_⟩ | ⟨j',ds',us',bn,_,hj,_,hjn,hr,h2,h3⟩
   ·cases h0
   ·obtain ⟨rfl,rfl⟩:j=j'∧r=ds':=by simpa using hj
    rw[hents]at h2
    have hjn:j<Bs.length:=by rw[←hBn,hw0,hul];omega
    have her:=erase_flatten (kw 0+kw V+1) Bs j hBs hjn
    have hBs':∀ x∈Bs.eraseIdx j,x.length=kw 0+kw V+1:=fun x hx=>hBs x ((List.eraseIdx_sublist _ _).subset hx)
    have hR:RL E (B.cells.take (1+j*(kw V+2)) ++ B.cells.drop (1+(j+1)*(kw V+2))) (u0 :: (Bs.eraseIdx j).flatten):=by
     have:=(hus.take (1+j*(kw V+2))).app (hus.drop (1+(j+1)*(kw V+2)))
     rw[hus0,Nat.add_comm 1,Nat.add_comm 1,List.take_succ_cons,List.drop_succ_cons,List.cons_append,←hw0,her]at this
     rw[←hw0,Nat.add_comm 1,Nat.add_comm 1];exact this
    have hob:objOf { B with cells:=B.cells.take (1+j*(kw V+2)) ++ B.cells.drop (1+(j+1)*(kw V+2)) } (u0 :: (Bs.eraseIdx j).flatten).toArray=.map ((Bs.map (entOf 0 V)).toArray.eraseIdxIfInBounds j) (natV u0):=by
     refine (objOf_map (B:={ B with cells:=B.cells.take (1+j*(kw V+2)) ++ B.cells.drop (1+(j+1)*(kw V+2)) }) (kk:=0) (vv:=V) _ hm he hv hR.length).trans ?_
     rw[mapObj_blocks 0 V u0 _ hBs',map_eraseIdx']
     congr 1
     unfold Array.eraseIdxIfInBounds
     rw[dif_pos (by simpa using hjn)]
     simp
    have hp:=hw.putmap hib hB hm hap _ _ hR _ hob
    refine ⟨_,_,E,_,_,.inl (hexec _ ?_),Em.le.refl E,hp,htup,hkeep _,h⟩
    generalize Bs.map (entOf 0 V)=es at h2 hobj'
    simp[Builtin.delete_,run_underlying ht,MapKept.run_getObj_map hobj',run_checkKeyI hk,MapKept.run_findKey hk h2,MapKept.run_setObj_map _ hobj',Result.andThen,setBlock]
  ·rename_i hf
   rcases findD_spec (q:=q) _ _ _ _ _ hf (hus.drop 1) with ⟨_,h2⟩ | ⟨j',ds',us',bn,_,hj,_⟩
   ·rw[hents]at h2
    have hlt:b<w.heap.size:=(Array.getElem?_eq_some_iff.1 hobj').1
    refine ⟨_,w,E,_,_,.inl (hexec _ ?_),Em.le.refl E,hw,htup,Kept.refl E T w,h⟩
    have hself:∀ cs cl,w.heap[b]? = some (.map cs cl)→w.heap.setIfInBounds b (.map cs cl)=w.heap:=fun cs cl h=>by
     apply Array.ext_getElem?
     intro i
     by_cases hi:b=i
     ·subst hi;obtain ⟨_,e⟩:=Array.getElem?_eq_some_iff.1 h;simp[hlt,e]
     ·simp[hi]
    have hself:=hself _ _ hobj'
    generalize Bs.map (entOf 0 V)=es at h2 hobj' hself
    simp[Builtin.delete_,run_underlying ht,MapKept.run_getObj_map hobj',run_checkKeyI hk,MapKept.run_findKey hk h2,MapKept.run_setObj_map _ hobj',Result.andThen,hself]
   ·cases hj
  ·exact h.elim
 ·exact h.elim
theorem does_rng (C:CallW) (t k e:TypeId) (kk vv:Nat) (x:Operand) (ho:o.op=.range t x) (ht:P.underlying t=some (.map k e)) (h:wpOp C ρ st K (.mop (.rng kk vv x))):DoesK P c n o ρ st T K:=by
 refine .gen fun E a w hw ha=>?_
 have hx:=ha.ev x
 simp only[wpOp,wpM]at h
 have mk:∀ (d:D) (u:Value) (m:Option Nat) (cl:Nat),RD E d u→u=.map m→u.oneCell'=true →
   HR P c (E.addι st.box.length w.heap.size) { st with box:=st.box ++ [{ cells:=[d,intD cl,intD cl],e:=0,fz:=true,m:=true }] } (w.alloc (.mapIter m cl #[] cl)):=fun d u m cl hd hu h1=>by
  have hr:RL E [d,intD cl,intD cl] [u,.int .i64 cl,.int .i64 cl]:=.cons hd h1 (.cons (intD_RD E cl) rfl (.cons (intD_RD E cl) rfl .nil))
  have hnb:=hw.newboxM { cells:=[d,intD cl,intD cl],e:=0,fz:=true,m:=true } #[u,.int .i64 cl,.int .i64 cl] rfl rfl (by simp) (fun j hj=>by simpa [Array.getD_eq_getD_getElem?,List.getD] using hr.get j hj)
  have hobj:objOf { cells:=[d,intD cl,intD cl],e:=0,fz:=true,m:=true } #[u,.int .i64 cl,.int .i64 cl]=.mapIter m cl #[] cl:=by
   have:=objOf_iter (B:={ cells:=[d,intD cl,intD cl],e:=0,fz:=true,m:=true }) [u,.int .i64 cl,.int .i64 cl] rfl rfl rfl
   refine this.trans ?_
   subst hu
   simp only[iterObj,List.headD_cons,List.drop_succ_cons,List.drop_zero,natV]
   simp
  rwa [hobj]at hnb
 split at h
 ·rename_i hmx
  rw[hmx]at hx
  have ex:=hx.v_inv
  refine ⟨_,_,_,_,_,.inl ?_,hw.le_addι w.heap.size,mk _ _ none 0 hx ex (by rw[ex];rfl),.ptr _ 0 w.heap.size (.inl (by simp[Em.addι])),hw.kept_addι T _ _,h⟩
  simp[execOp,ho,ex,Instr.range,run_underlying ht,newObj,Sem.run,Result.andThen]
 ·obtain ⟨i,B,hd,hB,hm,hap,he,hv,h⟩:=mapBox_inv h
  rw[hd]at hx h
  obtain ⟨b,hN,ex⟩:=hx.mref_inv
  obtain ⟨hib,us,hus,hobj⟩:=hw.mapcell hN hB hm he hv
  split at h
  ·rename_i cl hcl
   obtain ⟨hnv,_⟩:=hus.headInt hcl
   refine ⟨_,_,_,_,_,.inl ?_,hw.le_addι w.heap.size,mk _ _ (some b) cl hx ex (by rw[ex];rfl),.ptr _ 0 w.heap.size (.inl (by simp[Em.addι])),hw.kept_addι T _ _,h⟩
   unfold mapObj at hobj
   rw[hnv]at hobj
   simp[execOp,ho,ex,Instr.range,run_underlying ht,MapKept.run_getObj_map hobj,newObj,Sem.run,Result.andThen]
  ·exact h.elim
theorem HR.itercell {E:Em} {w:World} (hw:HR P c E st w) {i b:Nat} (hN:E.N i b) {B:Box} (hB:st.box[i]? = some B) (hm:B.m=true) (he:B.e=0) :
  E.ι i=some b∧∃ us,RL E B.cells us∧w.heap[b]? = some (iterObj us):=by
 have hi:=hw.liveM hN hB hm
 obtain ⟨B',vs,hB',hh,hs,hR,_,⟨hfm,hbk⟩,_⟩:=hw.box i b hi
 rw[hB]at hB'
 obtain rfl:B=B':=by simpa using hB'
 refine ⟨hi,vs.toList.take B.cells.length,.of (by simp;omega) fun j hj=>?_,?_⟩
 ·have:=hR j hj
  have hj2:j<vs.size:=by omega
  simp only[List.getD,List.getElem?_take,if_pos hj]
  simpa [hj2] using this
 ·rw[hh]
  simp only[objOf,hm,if_true,he]
theorem entsD_spec {E:Em} {kk vv:Nat}:∀ (n:Nat) (ds:List D) (us:List Value) (es:List (List D×Nat)),entsD (kw kk+kw vv) n ds=some es→RL E ds us →
  (∀ e∈entsOf kk vv n us,∃ q∈es,e.born=q.2∧RD E (valD kk q.1) e.key∧RD E (valD vv (q.1.drop (kw kk))) e.val)∧∀ q∈es,∃ e∈entsOf kk vv n us,e.born=q.2
 | 0,ds,us,es,h,_=>by simp only[entsD,Option.some.injEq]at h;subst h;simp[entsOf]
 | n+1,ds,us,es,h,hr=>by
  unfold entsD at h
  split at h
  ·rename_i bn r hb hrest
   simp only[Option.some.injEq]at h
   subst h
   obtain ⟨ih1,ih2⟩:=entsD_spec n _ _ _ hrest (hr.drop _)
   obtain ⟨hbv,_⟩:=(hr.drop (kw kk+kw vv)).headInt hb
   have hlen:kw kk+kw vv<ds.length:=by
    rcases Nat.lt_or_ge (kw kk+kw vv) ds.length with h' | h'
    ·exact h'
    ·rw[List.drop_eq_nil_of_le h']at hb;simp[natD]at hb
   have hul:=hr.length
   have ht:=hr.take (kw kk+kw vv)
   have e1:us=us.take (kw kk+kw vv) ++ us.drop (kw kk+kw vv):=(List.take_append_drop _ _).symm
   have htl:(us.take (kw kk+kw vv)).length=kw kk+kw vv:=by simp;omega
   have hent:entOf kk vv us=⟨valOf kk (us.take (kw kk+kw vv)),valOf vv ((us.take (kw kk+kw vv)).drop (kw kk)),bn⟩:=by
    simp only[entOf,hbv]
    conv=>lhs;rw[e1]
    rw[valOf_app kk _ _ (by omega),List.drop_append_of_le_length (by omega),valOf_app vv _ _ (by simp;omega)]
   have hdl:(ds.take (kw kk+kw vv)).length=kw kk+kw vv:=by simp;omega
   constructor
   ·intro e he
    simp only[entsOf,List.mem_cons]at he
    rcases he with rfl | he
    ·refine ⟨_,List.mem_cons_self,?_⟩
     rw[hent]
     exact ⟨rfl,valD_RD ht (by show _≤(ds.take (kw kk+kw vv)).length;omega),valD_RD (ht.drop _) (by show _≤((ds.take (kw kk+kw vv)).drop (kw kk)).length;rw[List.length_drop,hdl];omega)⟩
    ·obtain ⟨q,hq,h⟩:=ih1 e he
     exact ⟨q,List.mem_cons_of_mem _ hq,h⟩
   ·intro q hq
    rcases List.mem_cons.1 hq with rfl | hq
    ·exact ⟨entOf kk vv us,by simp[entsOf],by rw[hent]⟩
    ·obtain ⟨e,he,h⟩:=ih2 q hq
     exact ⟨e,by simp only[entsOf,List.mem_cons];exact .inr he,h⟩
  ·cases h
theorem entsD_find {E:Em} {kk vv:Nat} (β:Nat):∀ (n:Nat) (ds:List D) (us:List Value) (es:List (List D×Nat)),entsD (kw kk+kw vv) n ds=some es→RL E ds us →
  ∀ q,(es.find? fun q=>q.2 == β)=some q→∃ e,((entsOf kk vv n us).find? fun e=>e.born == β)=some e∧RD E (valD kk q.1) e.key∧RD E (valD vv (q.1.drop (kw kk))) e.val
 | 0,ds,us,es,h,_,q,hq=>by simp only[entsD,Option.some.injEq]at h;subst h;cases hq
 | n+1,ds,us,es,h,hr,q,hq=>by
  unfold entsD at h
  split at h
  ·rename_i bn r hb hrest
   simp only[Option.some.injEq]at h
   subst h
   have ih:=entsD_find β n _ _ _ hrest (hr.drop _)
   obtain ⟨hbv,_⟩:=(hr.drop (kw kk+kw vv)).headInt hb
   have hlen:kw kk+kw vv<ds.length:=by
    rcases Nat.lt_or_ge (kw kk+kw vv) ds.length with h' | h'
    ·exact h'
    ·rw[List.drop_eq_nil_of_le h']at hb;simp[natD]at hb
   have hul:=hr.length
   have ht:=hr.take (kw kk+kw vv)
   have e1:us=us.take (kw kk+kw vv) ++ us.drop (kw kk+kw vv):=(List.take_append_drop _ _).symm
   have htl:(us.take (kw kk+kw vv)).length=kw kk+kw vv:=by simp;omega
   have hent:entOf kk vv us=⟨valOf kk (us.take (kw kk+kw vv)),valOf vv ((us.take (kw kk+kw vv)).drop (kw kk)),bn⟩:=by
    simp only[entOf,hbv]
    conv=>lhs;rw[e1]
    rw[valOf_app kk _ _ (by omega),List.drop_append_of_le_length (by omega),valOf_app vv _ _ (by simp;omega)]
   have hdl:(ds.take (kw kk+kw vv)).length=kw kk+kw vv:=by simp;omega
   rw[entsOf,hent,List.find?_cons]
   rw[List.find?_cons]at hq
   cases hbb:(bn == β) with
   | true=>
    simp only[hbb,Option.some.injEq]at hq ⊢
    subst hq
    exact ⟨_,rfl,valD_RD ht (by show _≤(ds.take (kw kk+kw vv)).length;omega),valD_RD (ht.drop _) (by show _≤((ds.take (kw kk+kw vv)).drop (kw kk)).length;rw[List.length_drop,hdl];omega)⟩
   | false=>
    simp only[hbb]at hq ⊢
    exact ih q hq
  ·cases h
theorem natsD_spec {E:Em}:∀ (ds:List D) (us:List Value) (ns:List Nat),natsD ds=some ns→RL E ds us→us.map natV=ns
 | [],us,ns,h,hr=>by cases hr;simp only[natsD,Option.some.injEq]at h;subst h;rfl
 | d :: ds,us,ns,h,hr=>by
  cases hr with
  | cons h0 h1 ht=>
   unfold natsD at h
   split at h
   ·rename_i a r ha hrr
    simp only[Option.some.injEq]at h
    subst h
    have:=(RL.cons h0 h1 ht).headInt (n:=a) (by simpa using ha)
    simp only[List.headD_cons]at this
    rw[List.map_cons,this.1,natsD_spec ds _ r hrr ht]
   ·cases h
theorem does_ent (C:CallW) (kk vv:Nat) (x:Operand) (ho:o.op=.entry x) (h:wpOp C ρ st K (.mop (.ent kk vv x))):DoesK P c n o ρ st T K:=by
 refine .gen fun E a w hw ha=>?_
 have hx:=ha.ev x
 simp only[wpOp,wpM]at h
 split at h
 ·rename_i i hix
  rw[hix]at hx
  obtain ⟨b,hN,ex⟩:=hx.ptr_inv
  split at h
  ·rename_i I hI
   obtain ⟨hm,hap,heI,h⟩:=h
   obtain ⟨hib,us,hus,hobj⟩:=hw.itercell hN hI hm heI
   split at h
   ·rename_i d s l seen hc
    have hinv:=mapBox_inv h
    clear h
    obtain ⟨m,B,hd,hB,hBm,hBap,hBe,hv,h⟩:=hinv
    subst hd
    split at h
    ·rename_i cl es l' sn hcl hes hl hsn
     obtain ⟨hcl',h⟩:=h
     subst hcl'
     rw[hc]at hus
     obtain ⟨u0,us1,rfl,h0,h0o,t0⟩:=hus.cons_inv
     obtain ⟨u1,us2,rfl,h1,h1o,t1⟩:=t0.cons_inv
     obtain ⟨u2,us,rfl,h2,h2o,t2⟩:=t1.cons_inv
     obtain ⟨bm,hNm,rfl⟩:=h0.mref_inv
     obtain ⟨hmb,ums,hums,hmobj⟩:=hw.mapcell hNm hB hBm hBe hv
     have n2:=((RL.cons h2 h2o .nil).headInt (n:=cl) (by simpa using hl)).1
     simp only[List.headD_cons]at n2
     have n3:=natsD_spec _ _ _ hsn t2
     have nc:=(hums.headInt hcl).1
     have hobj1:w.heap[b]? = some (.mapIter (some bm) (natV u1) sn.toArray cl):=by
      rw[hobj]
      simp only[iterObj,List.headD_cons,List.drop_succ_cons,List.drop_zero,n2,n3]
     have hlen:=hums.length
     unfold mapObj at hmobj
     rw[nc,hlen]at hmobj
     split at h
     ·rename_i β hβ
      split at h
      ·rename_i q hq
       obtain ⟨e,he,hk1,hk2⟩:=entsD_find β _ _ _ _ hes (hums.drop 1) q hq
       generalize entsOf kk vv ((B.cells.length - 1) / (kw kk+kw vv+1)) (List.drop 1 ums)=ents at he hmobj
       refine ⟨.tuple #[e.key,e.val],w,E,_,_,.inl ?_,Em.le.refl E,hw,RD.mkTup (.tup _ _ rfl fun i hi=>?_),Kept.refl E T w,h⟩
       ·have hf:ents.toArray.find? (fun x=>x.born == β)=some e:=by rw[←Array.find?_toList];exact he
        have hbk:sn.toArray.back? = some β:=by simp[hβ]
        simp only[execOp,ho,ex,Instr.entry,getObj,Sem.run_bind,Sem.run,hobj1,hmobj,Result.andThen,hbk,bne_self_eq_false,Bool.false_eq_true,if_false,hf]
        rfl
       ·match i,hi with
        | 0,_=>exact hk1
        | 1,_=>exact hk2
      ·exact h.elim
     ·exact h.elim
    ·exact h.elim
   ·exact h.elim
  ·exact h.elim
 ·exact h.elim
theorem does_nxt (C:CallW) (kk vv:Nat) (x:Operand) (ho:o.op=.next x false) (hT:∀ i,readsBox ρ x i→T i) (h:wpOp C ρ st K (.mop (.nxt kk vv x))):DoesK P c n o ρ st T K:=by
 refine .gen fun E a w hw ha=>?_
 have hx:=ha.ev x
 simp only[wpOp,wpM]at h
 have hover:RD E (mkTup [.p (.v (.bool false))]) (.tuple #[.bool false]):=RD.mkTup (.tup _ _ rfl fun i hi=>by
  match i,hi with
  | 0,_=>exact .p _ _ (.v _))
 split at h
 ·rename_i i hix
  rw[hix]at hx
  obtain ⟨b,hN,ex⟩:=hx.ptr_inv
  split at h
  ·rename_i I hI
   obtain ⟨hm,hap,heI,h⟩:=h
   obtain ⟨hib,us,hus,hobj⟩:=hw.itercell hN hI hm heI
   split at h
   ·rename_i d1 d2 rest hc
    rw[hc]at hus
    cases hus with
    | cons h0 _ _=>
     have e0:=h0.v_inv
     subst e0
     refine ⟨_,w,E,_,_,.inl ?_,Em.le.refl E,hw,hover,Kept.refl E T w,h⟩
     simp only[iterObj,List.headD_cons]at hobj
     simp[execOp,ho,ex,Instr.next,getObj,Sem.run,hobj,Result.andThen]
   ·rename_i d s l seen hnn hc
    have hinv:=mapBox_inv h
    clear h
    obtain ⟨m,B,hd,hB,hBm,hBap,hBe,hv,h⟩:=hinv
    subst hd
    split at h
    ·rename_i cl es s' l' sn hcl hes hs hl hsn
     obtain ⟨hcl',hsc,hold,hov,hk⟩:=h
     subst hcl'
     have hus0:=hus
     rw[hc]at hus
     obtain ⟨u0,us1,rfl,h0,h0o,t0⟩:=hus.cons_inv
     obtain ⟨u1,us2,rfl,h1,h1o,t1⟩:=t0.cons_inv
     obtain ⟨u2,us,rfl,h2,h2o,t2⟩:=t1.cons_inv
     obtain ⟨bm,hNm,rfl⟩:=h0.mref_inv
     obtain ⟨hmb,ums,hums,hmobj⟩:=hw.mapcell hNm hB hBm hBe hv
     have n1:=((RL.cons h1 h1o .nil).headInt (n:=s') (by simpa using hs)).1
     have n2:=((RL.cons h2 h2o .nil).headInt (n:=cl) (by simpa using hl)).1
     simp only[List.headD_cons]at n1 n2
     have n3:=natsD_spec _ _ _ hsn t2
     have nc:=(hums.headInt hcl).1
     have hobj1:w.heap[b]? = some (.mapIter (some bm) s' sn.toArray cl):=by
      rw[hobj]
      simp only[iterObj,List.headD_cons,List.drop_succ_cons,List.drop_zero,n1,n2,n3]
     have hlen:=hums.length
     unfold mapObj at hmobj
     rw[nc,hlen]at hmobj
     obtain ⟨s1,s2⟩:=entsD_spec _ _ _ _ hes (hums.drop 1)
     generalize entsOf kk vv ((B.cells.length - 1) / (kw kk+kw vv+1)) (List.drop 1 ums)=ents at s1 s2 hmobj
     rcases Go.run_next_at (P:=P) w o.type b bm s' cl sn.toArray ents.toArray cl hobj1 hmobj (fun e he=>by
       obtain ⟨q,hq,hb,_⟩:=s1 e (by simpa using he)
       rw[hb];exact hold q hq) hsc with ⟨hz,hrun⟩ | ⟨e,he,w1,hw1,hrun⟩
     ·refine ⟨_,w,E,_,_,.inl ?_,Em.le.refl E,hw,hover,Kept.refl E T w,hov ?_⟩
      ·simp[execOp,ho,ex,hrun,Result.andThen]
      ·rw[List.all_eq_true]
       intro q hq
       obtain ⟨e,he,hb⟩:=s2 q hq
       unfold Go.leftOf at hz
       have h3:=Array.eq_empty_of_size_eq_zero hz
       rw[Array.filter_eq_empty_iff]at h3
       have:=h3 e (by simpa using he)
       rw[hb]at this
       simpa using this
     ·have he2:e∈ents∧sn.contains e.born=false:=by
       unfold Go.leftOf at he
       simpa using he
      obtain ⟨q,hq,hb,hk1,hk2⟩:=s1 e he2.1
      have hw1':HR P c E st w1:=by rcases hw1 with rfl | rfl;exact hw;exact hw.drew
      have hh1:w1.heap=w.heap:=by rcases hw1 with rfl | rfl <;> rfl
      have hq2:natV (Value.int .i64 (q.2:Nat))=q.2:=by simp[natV]
      have hRn:=hus0.app (.cons (intD_RD E q.2) rfl .nil)
      have hob:objOf { I with cells:=I.cells ++ [intD q.2] } (.map (some bm) :: u1 :: u2 :: us ++ [Value.int .i64 q.2]).toArray=.mapIter (some bm) s' (sn.toArray.push e.born) cl:=by
       refine (objOf_iter (B:={ I with cells:=I.cells ++ [intD q.2] }) _ hm heI hRn.length).trans ?_
       simp only[iterObj,List.cons_append,List.headD_cons,List.drop_succ_cons,List.drop_zero,n1,n2,List.map_append,n3,List.map_cons,List.map_nil,hq2,hb]
       simp
      have hp:=hw1'.putmap hib hI hm hap _ _ hRn _ hob
      refine ⟨.tuple #[.bool true,e.key,e.val],_,E,_,_,.inl ?_,Em.le.refl E,hp,RD.mkTup (.tup _ _ rfl fun i hi=>?_),fun j b' hj hnT=>?_,hk q hq (by rw[←hb];exact he2.2)⟩
      ·simp[execOp,ho,ex,hrun,Result.andThen]
      ·match i,hi with
       | 0,_=>exact .p _ _ (.v _)
       | 1,_=>exact hk1
       | 2,_=>exact hk2
      ·refine ⟨hj,?_⟩
       have hne:b'≠b:=fun e=>by subst e;exact hnT (by rw[hw.inj j i b' hj hib];exact hT i ⟨0,hix⟩)
       simp[setBlock,Ne.symm hne,hh1]
    ·exact h.elim
   ·exact h.elim
  ·exact h.elim
 ·exact h.elim
theorem does_frz (C:CallW) (size:Nat) (x:Operand) (ho:o.op=.move x∨o.op=.assign x) (hT:∀ i,readsMs ρ x i→T i) (h:wpOp C ρ st K (.mop (.frz size x))):DoesK P c n o ρ st T K:=by
 refine .gen fun E a w hw ha=>?_
 have hx:=ha.ev x
 simp only[wpOp,wpM]at h
 split at h
 ·rename_i i m hb
  rw[hb]at hx
  obtain ⟨b,cap,hN,hcap,hkap,e1⟩:=hx.ms_inv
  split at h
  ·rename_i B hB
   obtain ⟨hf,hm,h⟩:=h
   split at h
   ·rename_i cs hcs
    have hib:=hw.live hN hB hf
    have hcs':=allP_spec hcs
    obtain ⟨vs,q2,q3,q4,hle,hw2⟩:=hw.freeze hib hB hm hf cs.length (by
     have:=congrArg List.length hcs'
     rw[List.length_take,List.length_map]at this;omega)
    have hlen:cs.length≤B.cells.length:=by
     have:=congrArg List.length hcs'
     rw[List.length_take,List.length_map]at this;omega
    refine ⟨a.eval x,w,_,_,_,.inl (by rcases ho with ho | ho <;> simp[execOp,ho]),hle,hw2,?_,fun j b' hj hnT=>?_,h⟩
    ·rw[e1]
     refine .p _ _ (.sl _ _ _ b 0 cap (fun j=>vs.getD j undef) (by simp) hcap (fun j hj=>?_) fun j hj=>?_)
     ·simp only[Em.frz,if_true,Nat.zero_add]
      rw[if_pos hj]
     ·have h1:=q4 j (by omega)
      have e2:B.cells.getD j default=.p (cs.getD j default):=by
       have h3:(B.cells.take (m*size))[j]? = (cs.map D.p)[j]?:=by rw[hcs']
       have hlt:j<m*size:=by
        have:=congrArg List.length hcs'
        rw[List.length_take,List.length_map]at this;omega
       rw[List.getElem?_take,if_pos hlt,List.getElem?_map,List.getElem?_eq_getElem hj]at h3
       simp only[List.getD,h3,Option.map_some,Option.getD_some,List.getElem?_eq_getElem hj]
      rw[e2]at h1
      exact h1.p_inv.mono hle.G
    ·have hne:j≠i:=fun e=>by subst e;exact hnT (hT j ⟨0,m,hb⟩)
     refine ⟨?_,rfl⟩
     show (E.kill i).ι j=some b'
     simp only[Em.kill,if_neg hne];exact hj
   ·exact h.elim
  ·exact h.elim
 ·exact h.elim
theorem does_ldF (C:CallW) (t:TypeId) (dd:TypeDesc) (inf:TypeInfo) (k esz i:Nat) (x:Operand) (ho:o.op=.load t x) (ht:P.underlying t=some dd) (hd:aggT dd=true) (hi:P.info? t=some inf) (hT:T i)
  (h:wpOp C ρ st K (.mop (.ldF inf.size k esz i x))):DoesK P c n o ρ st T K:=by
 refine .gen fun E a w hw ha=>?_
 have hx:=ha.ev x
 have key:∀ (b off:Nat) (f:Nat→Value),a.eval x=.pointer (some ⟨b,off,none⟩)→(∀ j,j<inf.size→w.cell? ⟨b,off+j,none⟩=some (f j)) →
   (execOp a.eval o).run P w=.ok (.value (.agg ((List.range inf.size).map f).toArray)) w:=fun b off f e hc=>by
  simp only[execOp,ho,e,Instr.loadAt,Instr.sureAddr,Sem.run_bind,Sem.run_pure,Result.andThen_ok,run_loadVar_agg ht hd hi f hc]
 simp only[wpOp,wpM]at h
 split at h
 ·rename_i b off hb
  rw[hb]at hx
  obtain ⟨b',hb',e1⟩:=hx.ptr_inv
  split at h
  ·rename_i B hB
   obtain ⟨hf,hBm,hsz,hk,hib,h⟩:=h
   split at h
   ·rename_i j m A hcell hA
    obtain ⟨rfl,hAf,hAm,h⟩:=h
    split at h
    ·rename_i cs hcs
     have hlb:=hw.live hb' hB hf
     obtain ⟨vs,hh,hs,hR,hc⟩:=hw.boxcell hlb hB hf
     have hcs':=allP_spec hcs
     have hcl:off+k<B.cells.length:=by omega
     have hRk:=(hR (off+k) hcl).1
     have ek:B.cells.getD (off+k) default=.ms j 0 m:=by rw[List.getD,hcell];rfl
     rw[ek]at hRk
     obtain ⟨bi,cap,hN,hcap,hkap,e2⟩:=hRk.ms_inv
     have hibx:=hw.live hN hA hAf
     have hlen:cs.length≤A.cells.length∧cs.length≤m*esz:=by
      have:=congrArg List.length hcs'
      rw[List.length_take,List.length_map]at this;omega
     obtain ⟨us,q2,q3,q4,hle,hw2⟩:=hw.freeze hibx hA hAm hAf cs.length hlen.1
     have hRl:RD (E.frz j bi cs.length us) (.p (.sl (some false) m cs)) (vs.getD (off+k) undef):=by
      rw[e2]
      refine .p _ _ (.sl _ _ _ bi 0 cap (fun j=>us.getD j undef) (by simp) hcap (fun l hl=>?_) fun l hl=>?_)
      ·simp only[Em.frz,if_true,Nat.zero_add]
       rw[if_pos hl]
      ·have h1:=q4 l (by omega)
       have e3:A.cells.getD l default=.p (cs.getD l default):=by
        have h3:(A.cells.take (m*esz))[l]? = (cs.map D.p)[l]?:=by rw[hcs']
        rw[List.getElem?_take,if_pos (by omega),List.getElem?_map,List.getElem?_eq_getElem hl]at h3
        simp only[List.getD,h3,Option.map_some,Option.getD_some,List.getElem?_eq_getElem hl]
       rw[e3]at h1
       exact h1.p_inv.mono hle.G
     have hset:∀ l,(B.cells.set (off+k) (D.p (.sl (some false) m cs))).getD l default=if l=off+k then D.p (.sl (some false) m cs) else B.cells.getD l default:=fun l=>by
      by_cases e:l=off+k
      ·subst e;rw[if_pos rfl,List.getD,List.getElem?_set_self hcl];rfl
      ·rw[if_neg e,List.getD,List.getElem?_set_ne (fun h=>e h.symm),List.getD]
     have hB2:(st.box.set j { A with cells:=[],fz:=true })[b]? = some B:=by rw[List.getElem?_set_ne hib];exact hB
     have hιb:(E.frz j bi cs.length us).ι b=some b':=by
      show (E.kill j).ι b=some b'
      simp only[Em.kill,if_neg (fun h=>hib h.symm:¬ b=j)];exact hlb
     have hw3:=hw2.retell (st:={ st with box:=st.box.set j { A with cells:=[],fz:=true } }) hB2 hf (B.cells.set (off+k) (D.p (.sl (some false) m cs))) (by simp) fun b2 vs2 hb2 hv2 l hl hRo=>by
      rw[hιb]at hb2
      obtain rfl:=Option.some.inj hb2
      rw[objOf_cells vs2 hBm,hh]at hv2
      obtain rfl:vs=vs2:=by simpa using hv2
      rw[hset]
      split
      ·rename_i e;rw[e];exact hRl
      ·exact hRo
     refine ⟨_,w,_,_,_,.inl (key b' off (fun l=>vs.getD (off+l) undef) e1 fun l hl=>?_),hle,hw3,RD.mkAgg (.agg _ _ (by simp;omega) fun l hl=>?_),fun l bl hll hnT=>?_,h⟩
     ·rw[cell_of_row w b' (off+l) vs B.e (0,0) hh];simp[show off+l<vs.size by omega]
     ·simp at hl
      rw[getD_map_range _ _ _ (by omega),getD_take _ _ _ (by omega),getD_drop,hset]
      split
      ·rename_i e;rw[e];exact hRl
      ·exact (hR _ (by omega)).1.mono hle
     ·have hne:l≠j:=fun e=>by subst e;exact hnT hT
      refine ⟨?_,rfl⟩
      show (E.kill j).ι l=some bl
      simp only[Em.kill,if_neg hne];exact hll
    ·exact h.elim
   ·exact h.elim
  ·exact h.elim
 ·exact h.elim
theorem RP.z0_inv {G:Mem} {u:Value} (h:RP G .z0 u):∃ b,u=.slice (some ⟨b,0,none⟩) 0 0:=by cases h with | z0 b=>exact ⟨b,rfl⟩
theorem emptyD_inv {E:Em} {d d':D} {u:Value} (h:emptyD d=some d') (hr:RD E d u):∃ base,u=.slice base 0 0∧RD E d' u:=by
 unfold emptyD at h
 split at h
 ·obtain ⟨b,rfl⟩:=hr.p_inv.z0_inv
  obtain rfl:=Option.some.inj h
  exact ⟨_,rfl,.p _ _ (.sl _ _ _ b 0 0 (fun _=>undef) (by simp) (Nat.le_refl _) (fun i hi=>by simp at hi) (fun i hi=>by simp at hi))⟩
 ·obtain rfl:=Option.some.inj h
  rcases hr.p_inv.sl_inv with ⟨e1,_⟩ | ⟨_,_,_,_,_,_,_,h',_⟩
  ·exact ⟨none,e1,by rw[e1];exact .p _ _ (.nil _ (by simp))⟩
  ·exact absurd rfl h'
 ·cases h
theorem run_apn (t t2 e e2:TypeId) (inf:TypeInfo) (z:Value) (s x:Operand) (ho:o.op=.call { callee:=.builtin .append,args:=#[s,x],argTypes:=#[t,t2] }) (ht:P.underlying t=some (.slice e))
  (ht2:P.underlying t2=some (.slice e2)) (hi:P.info? e=some inf) (hz:inf.zero=some z) (hzs:z.cells.size=inf.size) (hpos:0<inf.size) {E:Em} {a:Act} {w:World} (hw:HR P c E st w) (ha:RE c E n ρ a)
  {m:Nat} {nlx:Option Bool} {new:List PD} {d:D} (hb:srcP st inf.size (ev ρ x)=some (.sl nlx m new)) (hd:emptyD (ev ρ s)=some d) (hnl:new.length=m*inf.size) (hby:m*inf.bytes≤140737488355328) (hml:m≤maxLen) :
  (m=0∧(execOp a.eval o).run P w=.ok (.value (a.eval s)) w∧RD E d (a.eval s)) ∨
  (0<m∧∃ vs cap,(execOp a.eval o).run P w=.ok (.value (.slice (some ⟨w.heap.size,0,none⟩) m cap)) (w.drew.alloc (.cells vs e))∧m≤cap∧RCle E (new.map .p) vs∧BK P { cells:=new.map .p,e:=e,fz:=false,ap:=true,m:=false } vs (some cap)):=by
 have hx:=ha.ev x
 have hsv:=ha.ev s
 have hexec:∀ (u v r:Value) (w':World),a.eval s=u→a.eval x=v→(Builtin.append_ #[t,t2] o.type #[u,v]).run P w=.ok r w'→(execOp a.eval o).run P w=.ok (.value r) w':=fun u v r w' e1 e2 hr=>by
  unfold execOp
  simp only[ho,resolve,invoke,builtin,Sem.run_bind,Sem.run_pure,Result.andThen_ok,List.map_toArray,List.map_cons,List.map_nil,e1,e2,hr]
 obtain ⟨base,hsn,hd'⟩:=emptyD_inv hd hsv
 have hnews:=srcP_news hw hx hb
 rcases hnews with ⟨rfl,ax,cx,e2⟩ | ⟨hm,b,off,cap,us,e2,hG,hR⟩
 ·exact .inl ⟨rfl,by have:=hexec _ _ _ _ hsn e2 (run_append_zero t t2 _ e _ inf ht ht2 hi _ _ 0 0 _ (Nat.le_refl _));rw[hsn];exact this,hd'⟩
 ·have hnl':((List.range new.length).map us).length=m*inf.size:=by simp[hnl]
  have hcell:∀ j v,((List.range new.length).map us)[j]? = some v→w.cell? ((⟨b,off,none⟩:Addr).add j)=some v:=fun j v hv=>by
   rw[getElem?_range_map]at hv
   split at hv
   ·rename_i hj
    obtain rfl:us j=v:=by simpa using hv
    rw[Addr.add_none];exact (hG j hj).1
   ·cases hv
  have hrun:=run_append_big (w:=w) t t2 o.type e _ inf z ht ht2 hi hz base 0 0 [] (by simp) (fun _=>rfl) (fun b h j v hv=>by simp at hv) ⟨b,off,none⟩ m cap _ hnl' hcell (by omega) (by omega) (by simpa using hby)
  simp only[Nat.zero_add]at hrun
  have hge:=grownCap_ge w m 0 e
  generalize hvs':(([]:List Value).toArray ++ ((List.range new.length).map us).toArray ++ Builtin.zeroCells z.cells (grownCap w m 0 e - m))=vs' at hrun
  have hsz:vs'.size=grownCap w m 0 e*inf.size:=by
   rw[←hvs']
   simp only[Array.size_append,List.size_toArray,size_zeroCells,hzs,hnl',List.length_nil,Nat.zero_add,←Nat.add_mul]
   congr 1;omega
  have hget:∀ j,j<new.length→vs'.getD j undef=us j:=fun j hj=>by
   have e0:∀ (a:Array Value),a.getD j undef=(a[j]?).getD undef:=fun a=>by simp
   rw[e0,←hvs',appended]
   simp[hj]
  refine .inr ⟨hm,vs',grownCap w m 0 e,hexec _ _ _ _ hsn e2 hrun,hge,⟨?_,fun j hj=>?_⟩,rfl,fun c1 h1=>?_⟩
  ·rw[List.length_map,hnl,hsz];exact Nat.mul_le_mul_right _ hge
  ·have hj:j<new.length:=by simpa using hj
   rw[hget j hj]
   refine ⟨?_,(hG j hj).2⟩
   have h3:=hR j hj
   simp only[List.getD]at h3 ⊢
   rw[List.getElem?_map,List.getElem?_eq_getElem hj]
   rw[List.getElem?_eq_getElem hj]at h3
   exact .p _ _ h3
  ·obtain rfl:grownCap w m 0 e=c1:=by simpa using h1
   exact ⟨inf,hi,hsz,grownCap_le_maxLen w m 0 e hml⟩
theorem does_apn (C:CallW) (t t2 e e2:TypeId) (inf:TypeInfo) (z:Value) (s x:Operand) (ho:o.op=.call { callee:=.builtin .append,args:=#[s,x],argTypes:=#[t,t2] }) (ht:P.underlying t=some (.slice e))
  (ht2:P.underlying t2=some (.slice e2)) (hi:P.info? e=some inf) (hz:inf.zero=some z) (hzs:z.cells.size=inf.size) (hpos:0<inf.size) (h:wpOp C ρ st K (.mop (.apn e inf.size inf.bytes s x))):DoesK P c n o ρ st T K:=by
 refine .gen fun E a w hw ha=>?_
 simp only[wpOp,wpM]at h
 split at h
 ·rename_i nlx m new d hb hd
  obtain ⟨h1,h2,h3,h⟩:=h
  rcases run_apn t t2 e e2 inf z s x ho ht ht2 hi hz hzs hpos hw ha hb hd h1 h2 h3 with ⟨rfl,hr,hd'⟩ | ⟨hm,vs,cap,hr,hge,hR,hB⟩
  ·rw[if_pos rfl]at h
   exact ⟨_,w,E,_,_,.inl hr,.refl E,hw,hd',.refl E T w,h⟩
  ·rw[if_neg (by omega)]at h
   have hw2:=hw.drew.garbage vs e
   obtain ⟨hle2,hw3⟩:=hw2.adopt (b:=w.drew.heap.size) (fun j h=>by have:=hw.ι_lt h;simp at this) (fun g cap cur h=>by have:=hw.γ_lt (show E.γ g=some (w.drew.heap.size,cap,cur) from h);simp at this) (fun o=>hw.drew.G_none (Nat.le_refl _) o) (.inl hw.drew.size)
    { cells:=new.map .p,e:=e,fz:=false,ap:=true } vs (some cap) (heap_alloc_new w.drew _) rfl hB hR.1 hR.2
   refine ⟨_,_,_,_,_,.inl hr,hle2,hw3,.ms _ _ _ w.heap.size cap (.inl (by simp[Em.addκ])) hge (fun c1 h1 _=>by simp[Em.addκ]at h1;exact h1),fun j b' hj hnT=>?_,h⟩
   refine ⟨?_,(hw.drew.kept_alloc (fun _=>False) _ _ _ hj (fun h=>h)).2⟩
   have:=hw.ι_box hj
   simp only[Em.addκ]
   rw[if_neg (by omega)];exact hj
 ·exact h.elim
theorem HR.newGk {E:Em} {w:World} (hw:HR P c E st w) (vs:Array Value) (e:TypeId) (f:Nat→Option Value) (h1:∀ o u,f o=some u→vs[o]? = some u∧u.oneCell'=true) :
  HR P c (E.addG w.heap.size f) st (w.alloc (.cells vs e)):=by
 have hw':=hw.garbage vs e
 have hle:=hw.le_addG (Nat.le_refl w.heap.size) f
 refine ⟨hw'.os,hw'.tape,hw'.output,hw'.size,hw'.old,hw.le.trans hle,?_,?_,?_,hw'.inj,?_,hw'.ginj,hw'.apart,hw'.dead,hw'.kap⟩
 ·intro b o hb hx
  simp only[Em.addG]
  rw[if_neg (by have:=hw.size;omega)]
  exact hw.gnew b o hb hx
 ·intro b o u hg
  simp only[Em.addG]at hg
  split at hg
  ·rename_i hb
   subst hb
   obtain ⟨g1,g2⟩:=h1 o u hg
   exact ⟨by rw[World.cell?_alloc_new];exact g1,g2⟩
  ·exact hw'.gok b o u hg
 ·intro i b hb
  obtain ⟨B',vs',g1,g2,g3,g4,g5,g6,g7⟩:=hw'.box i b hb
  have hne:b≠w.heap.size:=by have:=hw.ι_lt hb;omega
  refine ⟨B',vs',g1,g2,g3,fun j hj=>⟨(g4 j hj).1.mono hle,(g4 j hj).2⟩,g5,g6,fun o=>?_⟩
  simp only[Em.addG,if_neg hne];exact g7 o
 ·intro g b cap cur hg
  obtain ⟨e',vs',inf,g1,g2,g3,g4,g5,g6,g7,g8⟩:=hw'.grp g b cap cur hg
  have hne:b≠w.heap.size:=by have:=hw.γ_lt hg;omega
  exact ⟨e',vs',inf,g1,g2,g3,g4,g5,g6,g7,fun o ho=>by simp only[Em.addG,if_neg hne];exact g8 o ho⟩
theorem emptyD_any {E:Em} {d d':D} {u:Value} (h:emptyD d=some d') (hr:RD E d u):RD E (.p (.sl none 0 [])) u:=by
 unfold emptyD at h
 split at h
 ·obtain ⟨b,rfl⟩:=hr.p_inv.z0_inv
  exact .p _ _ (.sl _ _ _ b 0 0 (fun _=>undef) (by simp) (Nat.le_refl _) (fun i hi=>by simp at hi) (fun i hi=>by simp at hi))
 ·rcases hr.p_inv.sl_inv with ⟨e1,_⟩ | ⟨_,_,_,_,_,_,_,h',_⟩
  ·rw[e1];exact .p _ _ (.nil _ (by simp))
  ·exact absurd rfl h'
 ·cases h
theorem grow_apf {E:Em} {w:World} {st:St} {a:Act} (t t2 e e2:TypeId) (inf:TypeInfo) (z:Value) (s x:Operand) (ho:o.op=.call { callee:=.builtin .append,args:=#[s,x],argTypes:=#[t,t2] }) (ht:P.underlying t=some (.slice e))
  (ht2:P.underlying t2=some (.slice e2)) (hi:P.info? e=some inf) (hz:inf.zero=some z) (hzs:z.cells.size=inf.size) (hpos:0<inf.size) (hw:HR P c E st w) (ha:RE c E n ρ a)
  {nlx:Option Bool} {m:Nat} {new:List PD} {d:D} (hb:srcP st inf.size (ev ρ x)=some (.sl nlx m new)) (hd:emptyD (ev ρ s)=some d) (h1:new.length=m*inf.size) (h2:m*inf.bytes≤140737488355328) (h3:m≤maxLen) :
  ∃ E' w' v,(execOp a.eval o).run P w=.ok (.value v) w'∧E.le E'∧HR P c E' st w'∧RD E' (.p (.sl none m new)) v∧(∀ T,Kept E T w E' w')∧∀ j,E'.ι j=E.ι j:=by
 rcases run_apn t t2 e e2 inf z s x ho ht ht2 hi hz hzs hpos hw ha hb hd h1 h2 h3 with ⟨rfl,hr,hd'⟩ | ⟨hm,vs,cap,hr,hge,hR,hB⟩
 ·have h0:new=[]:=List.eq_nil_of_length_eq_zero (by rw[h1,Nat.zero_mul])
  subst h0
  exact ⟨E,w,_,hr,.refl E,hw,emptyD_any hd (ha.ev s),fun T=>.refl E T w,fun _=>rfl⟩
 ·have hw1:=hw.drew
  have hrc:RCle E (new.map .p) vs:=hR
  have hnl:(new.map D.p).length=new.length:=List.length_map ..
  have hle:=hw1.le_addG (Nat.le_refl w.drew.heap.size) (fun o=>if o<new.length then vs[o]? else none)
  have hcell:∀ i,i<new.length→RP E.G (new.getD i default) (vs.getD i undef)∧(vs.getD i undef).oneCell'=true:=fun i hi=>by
   have h3:=hrc.2 i (by rw[hnl];exact hi)
   refine ⟨?_,h3.2⟩
   have h4:=h3.1
   rw[List.getD,List.getElem?_map,List.getElem?_eq_getElem hi]at h4
   rw[List.getD,List.getElem?_eq_getElem hi]
   exact h4.p_inv
  have hsz:new.length≤vs.size:=by have:=hrc.1;rwa [hnl]at this
  refine ⟨_,_,_,hr,hle,hw1.newGk vs e _ (fun o u hu=>?_),.p _ _ (.sl _ _ _ w.drew.heap.size 0 cap (fun i=>vs.getD i undef) (by simp) (by omega) (fun i hi=>?_) (fun i hi=>?_)),fun T=>hw1.kept_alloc T _,fun j=>rfl⟩
  ·split at hu
   ·rename_i ho
    refine ⟨hu,?_⟩
    have:=(hcell o ho).2
    rwa [show vs.getD o undef=u by rw[Array.getD_eq_getD_getElem?,hu];rfl]at this
   ·cases hu
  ·simp only[Em.addG,if_true,Nat.zero_add]
   rw[if_pos hi,Array.getD_eq_getD_getElem?,Array.getElem?_eq_getElem (by omega)];rfl
  ·exact (hcell i hi).1.mono hle.G
theorem does_apf (C:CallW) (t t2 e e2:TypeId) (inf:TypeInfo) (z:Value) (s x:Operand) (ho:o.op=.call { callee:=.builtin .append,args:=#[s,x],argTypes:=#[t,t2] }) (ht:P.underlying t=some (.slice e))
  (ht2:P.underlying t2=some (.slice e2)) (hi:P.info? e=some inf) (hz:inf.zero=some z) (hzs:z.cells.size=inf.size) (hpos:0<inf.size) (h:wpOp C ρ st K (.mop (.apf e inf.size inf.bytes s x))):DoesK P c n o ρ st T K:=by
 refine .gen fun E a w hw ha=>?_
 simp only[wpOp,wpM]at h
 split at h
 ·rename_i nlx m new d hb hd
  obtain ⟨h1,h2,h3,h⟩:=h
  obtain ⟨E',w',v,hr,hle,hw',hd',hk,_⟩:=grow_apf t t2 e e2 inf z s x ho ht ht2 hi hz hzs hpos hw ha hb hd h1 h2 h3
  exact ⟨_,w',E',_,_,.inl hr,hle,hw',hd',hk T,h⟩
 ·exact h.elim
theorem does_apz (C:CallW) (t t2 e:TypeId) (k:IntKind) (inf:TypeInfo) (z:Value) (s x:Operand) (ho:o.op=.call { callee:=.builtin .append,args:=#[s,x],argTypes:=#[t,t2] }) (ht:P.underlying t=some (.slice e))
   (ht2:P.underlying t2=some (.int k)) (hi:P.info? e=some inf) (hz:inf.zero=some z) (h1:∀ v∈z.cells.toList,v.oneCell'=true) (hzs:z.cells.size=inf.size) (hpos:0<inf.size) (h:wpOp C ρ st K (.mop (.apz e inf.size inf.bytes (z.cells.toList.map fun v=>.p (cstP v)) s x))):DoesK P c n o ρ st T K:=by
 refine .gen fun E a w hw ha=>?_
 have hx:=ha.ev x
 have hsv:=ha.ev s
 have hexec:∀ (u v r:Value) (w':World),a.eval s=u→a.eval x=v→(Builtin.append_ #[t,t2] o.type #[u,v]).run P w=.ok r w'→(execOp a.eval o).run P w=.ok (.value r) w':=fun u v r w' e1 e2 hr=>by
   unfold execOp
   simp only[ho,resolve,invoke,builtin,Sem.run_bind,Sem.run_pure,Result.andThen_ok,List.map_toArray,List.map_cons,List.map_nil,e1,e2,hr]
 simp only[wpOp,wpM]at h
 split at h
 · rename_i d m hd hb
   rw[hb]at hx
   have e2:=hx.v_inv
   obtain ⟨base,hsn,hd'⟩:=emptyD_inv hd hsv
   obtain ⟨h0,hby,hml,h⟩:=h
   have hwr:IntKind.i64.wrap m=m:=wrap_i64 (by omega) (by unfold maxLen at hml;omega)
   have c1:¬ m<0:=by omega
   have c2:¬ (281474976710656<m*(inf.bytes:Int)):=by omega
   by_cases hm:m=0
   · subst hm
     rw[if_pos rfl]at h
     refine ⟨_,w,E,_,_,.inl (hexec _ _ _ _ hsn e2 ?_),.refl E,hw,hd',.refl E T w,h⟩
     rw[hsn]
     have hw0:IntKind.i64.wrap 0=0:=by decide
     cases base <;> simp[Builtin.append_,run_underlying ht,run_underlying ht2,sizeOf,typeInfo,hi,asInt,asIntOf,hw0,storeCells]
   · rw[if_neg hm]at h
     obtain ⟨q,rfl⟩:∃ q:Nat,m=q:=⟨m.toNat,by omega⟩
     have hq:0<q:=by omega
     have hn:¬ (q≤0):=by omega
     have h63':¬ (9223372036854775807<(q:Int)):=by unfold maxLen at hml;omega
     have hbq:q*inf.bytes≤140737488355328:=by have:=hby;rw[←Int.natCast_mul]at this;omega
     have hfit:=growslice_fits (need:=q) (old:=0) (bytes:=inf.bytes) hq hbq
     have h48':¬ (281474976710656<Builtin.nextslicecap q 0*inf.bytes):=by omega
     have hne:q*inf.size≠0:=Nat.ne_of_gt (Nat.mul_pos hq hpos)
     have hfo:(Builtin.firstCells inf.size 0 (.slice base 0 0)).run P w.drew=.ok #[] w.drew:=by
       cases base with
       | none=>exact run_firstCells_none w.drew inf.size 0 0 0
       | some b=>exact run_firstCells_some (P:=P) w.drew inf.size 0 b 0 0 [] (by simp) (fun j v hv=>by simp at hv)
     have hrun:∃ vs,vs.size=grownCap w q 0 e*inf.size∧(∀ j,j<q*inf.size→vs.getD j undef=(Builtin.zeroCells z.cells q).getD j undef)∧(Builtin.append_ #[t,t2] o.type #[.slice base 0 0,.int .i64 (q:Int)]).run P w=.ok (.slice (some ⟨w.heap.size,0,none⟩) q (grownCap w q 0 e)) (w.drew.alloc (.cells vs e)):=by
       refine ⟨Builtin.zeroCells z.cells q ++ Builtin.zeroCells z.cells (grownCap w q 0 e - q),?_,fun j hj=>?_,?_⟩
       · have hge:=grownCap_ge w q 0 e
         simp only[Array.size_append,size_zeroCells,hzs,←Nat.add_mul]
         congr 1;omega
       · have hsz:(Builtin.zeroCells z.cells q).size=q*inf.size:=by simp[size_zeroCells,hzs]
         have e0:∀ (a:Array Value),a.getD j undef=(a[j]?).getD undef:=fun a=>by simp
         rw[e0,e0,Array.getElem?_append_left (by omega)]
       · simp[Builtin.append_,run_underlying ht,run_underlying ht2,sizeOf,typeInfo,zeroValue,hi,hz,asInt,asIntOf,hwr,c1,c2,hn,h63',h48',Question.forced,hfo,newRow,grownCap,hne]
         intro hq0;omega
     obtain ⟨vs,hsz,hget,hrun⟩:=hrun
     have hge:=grownCap_ge w q 0 e
     have hrc:=RC.zeros E z.cells q inf.size hzs hpos h1
     have hzc:Builtin.zeroCells z.cells q=(Array.range (q*inf.size)).map fun i=>z.cells[i % inf.size]!:=by simp only[Builtin.zeroCells,hzs]
     rw[←hzc]at hrc
     have hlen:((List.replicate q (z.cells.toList.map fun v=>D.p (cstP v))).flatten).length=q*inf.size:=by rw[←hrc.1,size_zeroCells,hzs]
     have hw2:=hw.drew.garbage vs e
     obtain ⟨hle2,hw3⟩:=hw2.adopt (b:=w.drew.heap.size) (fun j h=>by have:=hw.ι_lt h;simp at this) (fun g cap cur h=>by have:=hw.γ_lt (show E.γ g=some (w.drew.heap.size,cap,cur) from h);simp at this) (fun o=>hw.drew.G_none (Nat.le_refl _) o) (.inl hw.drew.size)
       { cells:=(List.replicate q (z.cells.toList.map fun v=>D.p (cstP v))).flatten,e:=e,fz:=false,ap:=true } vs (some (grownCap w q 0 e)) (heap_alloc_new w.drew _) rfl
       ⟨rfl, fun c1 h1 => by obtain rfl : grownCap w q 0 e = c1 := by simpa using h1
                             exact ⟨inf,hi,hsz,grownCap_le_maxLen w q 0 e (by omega)⟩⟩
       (by show (List.replicate q (z.cells.toList.map fun v=>D.p (cstP v))).flatten.length≤_
           rw[hlen,hsz];exact Nat.mul_le_mul_right _ hge)
       (fun j hj=>by
         have hj:j<(List.replicate q (z.cells.toList.map fun v=>D.p (cstP v))).flatten.length:=hj
         rw[hget j (by omega)];exact hrc.2 j (by rw[hrc.1];exact hj))
     rw[Int.toNat_natCast]at h
     refine ⟨_,_,_,_,_,.inl (hexec _ _ _ _ hsn e2 hrun),hle2,hw3,.ms _ _ _ w.heap.size (grownCap w q 0 e) (.inl (by simp[Em.addκ])) hge (fun c1 h1 _=>by simp[Em.addκ]at h1;exact h1),fun j b' hj hnT=>?_,h⟩
     refine ⟨?_,(hw.drew.kept_alloc (fun _=>False) _ _ _ hj (fun h=>h)).2⟩
     have:=hw.ι_box hj
     simp only[Em.addκ]
     rw[if_neg (by omega)];exact hj
 · exact h.elim
theorem run_lit0 (t e:TypeId) (inf:TypeInfo) (ho:o.op=.buildSlice t 0 #[]) (ht:P.underlying t=some (.slice e)) (hi:P.info? e=some inf) (a:Act) (w:World) :
  (execOp a.eval o).run P w=.ok (.value (.slice (some ⟨w.heap.size,0,none⟩) 0 0)) (w.alloc (.cells #[] e)):=by
 have hr0:Array.range 0=#[]:=rfl
 have hrun:(Instr.buildSlice t 0 #[]).run P w=.ok (.slice (some ⟨w.heap.size,0,none⟩) 0 0) (w.alloc (.cells #[] e)):=by
  simp only[Instr.buildSlice,Sem.run_bind,run_underlying ht,Result.andThen_ok,sizeOf,typeInfo,run_program,hi,Sem.run_pure,Nat.zero_mul]
  rw[if_neg (by omega)]
  simp[hr0,Instr.fill,newRow]
 simp only[execOp,ho,Sem.run_bind,hrun,Result.andThen_ok,Sem.run_pure,Array.map_empty]
theorem does_lit0 (C:CallW) (t e:TypeId) (inf:TypeInfo) (ho:o.op=.buildSlice t 0 #[]) (ht:P.underlying t=some (.slice e)) (hi:P.info? e=some inf) (h:wpOp C ρ st K (.mop (.lit0 e))):DoesK P c n o ρ st T K:=by
 refine .gen fun E a w hw ha=>?_
 exact ⟨_,_,E,_,_,.inl (run_lit0 t e inf ho ht hi a w),.refl E,hw.garbage #[] e,.p _ _ (.z0 _),hw.kept_alloc T _,h⟩
theorem does_capN (C:CallW) (t e:TypeId) (x:Operand) (ho:o.op=.call { callee:=.builtin .cap,args:=#[x],argTypes:=#[t] }) (ht:P.underlying t=some (.slice e)) (h:wpOp C ρ st K (.mop (.capN x))):DoesK P c n o ρ st T K:=by
 refine .gen fun E a w hw ha=>?_
 have hx:=ha.ev x
 simp only[wpOp,wpM]at h
 split at h
 ·rename_i n0 cells0 hb
  rw[hb]at hx
  have hsn:a.eval x=.slice none 0 0:=by
   rcases hx.p_inv.sl_inv with ⟨e1,_⟩ | ⟨_,_,_,_,_,_,_,h',_⟩
   ·exact e1
   ·exact absurd rfl h'
  refine ⟨.int .i64 0,w,E,_,_,.inl ?_,.refl E,hw,.p _ _ (.v _),.refl E T w,h⟩
  unfold execOp
  simp[ho,resolve,invoke,builtin,hsn,Builtin.cap_,run_underlying ht,goInt]
 ·exact h.elim
end
end Go.Ab
