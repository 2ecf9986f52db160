/- Abstract values and states for the functions of a translated program,and preconditions over them: evaluation with symbols: operations. What is proved holds for every program,without conditions. -/
import Derived.Test.YteiolnofaebknaaAbC
set_option linter.unusedSimpArgs false
set_option linter.unusedVariables false
namespace Go.Ab
open Go.RowKit
inductive Ty where
 | int (k:IntKind)
 | bool
 | pair (a b:Ty)
 | sl (t:Ty)
 deriving DecidableEq
@[reducible] def Ty.den:Ty→Type
 | .int _=>Int
 | .bool=>Bool
 | .pair a b=>a.den×b.den
 | .sl t=>Option Bool×List t.den
def Ty.size:Ty→Nat
 | .pair a b=>a.size+b.size
 | _=>1
def Ty.dflt:(t:Ty)→t.den
 | .int _=>(0:Int)
 | .bool=>false
 | .pair a b=>(a.dflt,b.dflt)
 | .sl _=>(some true,[])
def Ty.cells:(t:Ty)→t.den→List PD
 | .int k,x=>[.v (.int k x)]
 | .bool,x=>[.v (.bool x)]
 | .pair a b,x=>a.cells x.1 ++ b.cells x.2
 | .sl t,x=>[.sl x.1 x.2.length (x.2.flatMap t.cells)]
def gkS (_:Nat):Option ((t:Ty)×t.den):=none
theorem gk_ok (g:Nat):gkCells g=match gkS g with | none=>[] | some q=>q.1.cells q.2:=rfl
theorem Ty.cells_length:∀ (t:Ty) (x:t.den),(t.cells x).length=t.size
 | .int _,_=>rfl
 | .bool,_=>rfl
 | .pair a b,x=>by simp only[cells,List.length_append,size,cells_length a,cells_length b]
 | .sl _,_=>rfl
theorem Ty.size_pos:∀ t:Ty,0<t.size
 | .int _=>Nat.one_pos
 | .bool=>Nat.one_pos
 | .pair a b=>by have:=size_pos a;simp only[size];omega
 | .sl _=>Nat.one_pos
abbrev Ty.rows (t:Ty) (l:List t.den):List PD:=l.flatMap t.cells
def Ty.norm (t:Ty) (n:Nat) (l:List t.den):List t.den:=(List.range n).map fun i=>l.getD i t.dflt
theorem Ty.norm_length (t:Ty) (n:Nat) (l:List t.den):(t.norm n l).length=n:=by simp[norm]
theorem Ty.norm_get (t:Ty) {n i:Nat} (l:List t.den) (h:i<n):(t.norm n l)[i]? = some (l.getD i t.dflt):=by simp[norm,h]
theorem Ty.norm_eq (t:Ty) {n:Nat} {l:List t.den} (h:l.length=n):t.norm n l=l:=by
 subst h
 apply List.ext_getElem?
 intro i
 by_cases hi:i<l.length
 ·rw[norm_get t l hi];simp[hi]
 ·rw[List.getElem?_eq_none (by rw[norm_length];omega),List.getElem?_eq_none (by omega)]
theorem Ty.rows_length (t:Ty):∀ l:List t.den,(t.rows l).length=l.length*t.size
 | []=>by simp[rows]
 | x :: l=>by
  have:=rows_length t l
  simp only[rows,List.flatMap_cons,List.length_append,List.length_cons,cells_length]at this ⊢
  rw[this,Nat.succ_mul];omega
theorem Ty.rows_drop (t:Ty):∀ (k:Nat) (l:List t.den),(t.rows l).drop (k*t.size)=t.rows (l.drop k)
 | 0,l=>by simp
 | k+1,[]=>by simp[rows]
 | k+1,x :: l=>by
  have h:=rows_drop t k l
  simp only[rows,List.flatMap_cons,List.drop_succ_cons]at h ⊢
  rw[Nat.succ_mul,Nat.add_comm,←List.drop_drop,List.drop_left' (cells_length t x),h]
theorem Ty.rows_take (t:Ty):∀ (k:Nat) (l:List t.den),(t.rows l).take (k*t.size)=t.rows (l.take k)
 | 0,l=>by simp[rows]
 | k+1,[]=>by simp[rows]
 | k+1,x :: l=>by
  have h:=rows_take t k l
  simp only[rows,List.flatMap_cons,List.take_succ_cons]at h ⊢
  rw[Nat.succ_mul,Nat.add_comm,List.take_append,cells_length,List.take_of_length_le (by rw[cells_length];omega),Nat.add_sub_cancel_left,h]
theorem Ty.rows_at (t:Ty) {l:List t.den} {k:Nat} (h:k<l.length):(t.rows l).drop (k*t.size)=t.cells (l.getD k t.dflt) ++ t.rows (l.drop (k+1)):=by
 rw[rows_drop]
 simp only[rows]
 rw[List.drop_eq_getElem_cons h,List.flatMap_cons]
 simp[h]
theorem Ty.rows_append (t:Ty) (a b:List t.den):t.rows (a ++ b)=t.rows a ++ t.rows b:=by simp[rows]
theorem Ty.rows_set (t:Ty) {l:List t.den} {k:Nat} (x:t.den) (h:k<l.length):t.rows (l.set k x)=(t.rows l).take (k*t.size) ++ t.cells x ++ (t.rows l).drop (k*t.size+t.size):=by
 rw[rows_take,←Nat.succ_mul,rows_drop,List.set_eq_take_append_cons_drop,if_pos h,rows_append]
 simp[rows]
inductive DC where
 | p (x:PD)
 | sb (b:Bool)
 | arr (n:Nat) (t:Ty) (l:List t.den)
 | tl (nl:Option Bool) (t:Ty) (l:List t.den)
 | og (g:Nat) (t:Ty) (l:List t.den)
 | gr (g:Nat) (t:Ty) (l:List t.den)
 | tel (t:Ty) (l:List t.den) (k:Int) (o:Nat)
 | ptr (b off:Nat)
 | ept (b off sz:Nat) (k:Int) (o:Nat)
 | ms (b off sz:Nat) (lo:Option Nat) (n:Nat)
 | agg (cells:List DC)
 | tup (vs:List DC)
 | fn (f:Fn) (first captured:List DC)
 | ifc (t:TypeId) (x:DC)
 | mref (b:Nat)
 | rel (d:DC)
 | bad
instance:Inhabited DC:=⟨.bad⟩
def arrCells (n:Nat) (t:Ty) (l:List t.den):List D:=(t.rows (t.norm n l)).map .p
mutual
def DC.conc:DC→D
 | .p x=>.p x
 | .sb b=>.p (.v (.bool b))
 | .arr n t l=>mkAgg (arrCells n t l)
 | .tl nl t l=>.p (.sl nl l.length (t.rows l))
 | .og g t l=>match l with | []=>.p (.sl (some true) 0 []) | x :: r=>.grp g (r.length+1) (t.rows (x :: r))
 | .gr g t l=>.grp g l.length (t.rows l)
 | .tel t l k o=>.el ((t.rows (l.drop k.toNat)).drop o)
 | .ptr b off=>.ptr b off
 | .ept b off sz k o=>.ptr b (off+k.toNat*sz+o)
 | .ms b off sz lo n=>.ms b (off+lo.getD 0*sz) n
 | .agg cs=>mkAgg (concCs cs)
 | .tup vs=>mkTup (concL vs)
 | .fn f a b=>.fn f (concL a) (concL b)
 | .ifc t x=>.ifc t x.conc
 | .mref b=>.mref b
 | .rel d=>.rel d.conc
 | .bad=>.bad
def concL:List DC→List D
 | []=>[]
 | d :: r=>d.conc :: concL r
def concCs:List DC→List D
 | []=>[]
 | d :: r=>(match d with | .arr n t l=>arrCells n t l | d=>[d.conc]) ++ concCs r
end
def cellS:DC→List D
 | .arr n t l=>arrCells n t l
 | d=>[d.conc]
theorem concCs_cons (d:DC) (r:List DC):concCs (d :: r)=cellS d ++ concCs r:=by
 cases d <;> simp only[concCs,cellS]
theorem concCs_nil:concCs []=[]:=by simp only[concCs]
theorem concCs_append:∀ (a b:List DC),concCs (a ++ b)=concCs a ++ concCs b
 | [],b=>by simp[concCs_nil]
 | x :: a,b=>by simp only[List.cons_append,concCs_cons,concCs_append a b,List.append_assoc]
theorem concL_eq:∀ l:List DC,concL l=l.map DC.conc
 | []=>by simp only[concL,List.map_nil]
 | x :: l=>by simp only[concL,List.map_cons,concL_eq l]
def sizeC:DC→Nat
 | .arr n t _=>n*t.size
 | _=>1
def sizeCs:List DC→Nat
 | []=>0
 | d :: r=>sizeC d+sizeCs r
theorem cellS_length (d:DC):(cellS d).length=sizeC d:=by
 cases d <;> simp only[cellS,sizeC,List.length_cons,List.length_nil]
 rw[arrCells,List.length_map,Ty.rows_length,Ty.norm_length]
theorem concCs_length:∀ l:List DC,(concCs l).length=sizeCs l
 | []=>by simp[concCs_nil,sizeCs]
 | d :: r=>by rw[concCs_cons,List.length_append,cellS_length,concCs_length r,sizeCs]
def seekC:List DC→Nat→Option (List DC)
 | cs,0=>some cs
 | [],_+1=>none
 | .arr n t _ :: r,off+1=>if n*t.size≤off+1 then seekC r (off+1 - n*t.size) else none
 | _ :: r,off+1=>seekC r off
theorem seekC_cons {d:DC} {r cs:List DC} {off:Nat} (h:seekC (d :: r) (off+1)=some cs):sizeC d≤off+1∧seekC r (off+1 - sizeC d)=some cs:=by
 cases d <;> simp only[seekC]at h <;> try (exact ⟨by simp[sizeC],h⟩)
 split at h
 ·exact ⟨by assumption,h⟩
 ·cases h
theorem seekC_spec:∀ {cs r:List DC} {off:Nat},seekC cs off=some r→off≤(concCs cs).length∧(concCs cs).drop off=concCs r
 | cs,r,0,h=>by
  cases cs <;> (simp only[seekC,Option.some.injEq]at h;subst h;exact ⟨Nat.zero_le _,rfl⟩)
 | [],r,off+1,h=>by simp[seekC]at h
 | d :: cs,r,off+1,h=>by
  obtain ⟨h1,h2⟩:=seekC_cons h
  obtain ⟨h3,h4⟩:=seekC_spec h2
  rw[concCs_cons]
  refine ⟨by rw[List.length_append,cellS_length];omega,?_⟩
  rw[List.drop_append,cellS_length,List.drop_of_length_le (by rw[cellS_length];exact h1),List.nil_append,h4]
def takeC:List DC→Nat→Option (List DC)
 | _,0=>some []
 | [],_+1=>none
 | .arr n t l :: r,k+1=>if n*t.size≤k+1 then (match takeC r (k+1 - n*t.size) with | some x=>some (.arr n t l :: x) | none=>none) else none
 | d :: r,k+1=>match takeC r k with | some x=>some (d :: x) | none=>none
theorem takeC_cons {d:DC} {r x:List DC} {k:Nat} (h:takeC (d :: r) (k+1)=some x):sizeC d≤k+1∧∃ y,takeC r (k+1 - sizeC d)=some y∧x=d :: y:=by
 cases d <;> simp only[takeC]at h <;> first
  | (split at h <;> first | (rename_i y hy;exact ⟨by simp[sizeC],y,hy,(Option.some.inj h).symm⟩) | cases h)
  | skip
 split at h
 ·split at h
  ·rename_i hl _ y hy;exact ⟨hl,y,hy,(Option.some.inj h).symm⟩
  ·cases h
 ·cases h
theorem takeC_spec:∀ {cs r:List DC} {k:Nat},takeC cs k=some r→k≤(concCs cs).length∧(concCs cs).take k=concCs r
 | cs,r,0,h=>by
  cases cs <;> (simp only[takeC,Option.some.injEq]at h;subst h;exact ⟨Nat.zero_le _,by simp[concCs_nil]⟩)
 | [],r,k+1,h=>by simp[takeC]at h
 | d :: cs,r,k+1,h=>by
  obtain ⟨h1,y,h2,rfl⟩:=takeC_cons h
  obtain ⟨h3,h4⟩:=takeC_spec h2
  rw[concCs_cons,concCs_cons]
  refine ⟨by rw[List.length_append,cellS_length];omega,?_⟩
  rw[List.take_append,cellS_length,List.take_of_length_le (by rw[cellS_length];exact h1),h4]
def replC:List DC→Nat→List DC→Option (List DC)
 | cs,0,new=>match seekC cs (sizeCs new) with | some r=>some (new ++ r) | none=>none
 | [],_+1,_=>none
 | .arr n t l :: r,off+1,new=>if n*t.size≤off+1 then (match replC r (off+1 - n*t.size) new with | some x=>some (.arr n t l :: x) | none=>none) else none
 | d :: r,off+1,new=>match replC r off new with | some x=>some (d :: x) | none=>none
theorem replC_cons {d:DC} {r new x:List DC} {k:Nat} (h:replC (d :: r) (k+1) new=some x):sizeC d≤k+1∧∃ y,replC r (k+1 - sizeC d) new=some y∧x=d :: y:=by
 cases d <;> simp only[replC]at h <;> first
  | (split at h <;> first | (rename_i y hy;exact ⟨by simp[sizeC],y,hy,(Option.some.inj h).symm⟩) | cases h)
  | skip
 split at h
 ·split at h
  ·rename_i hl _ y hy;exact ⟨hl,y,hy,(Option.some.inj h).symm⟩
  ·cases h
 ·cases h
theorem replC_spec:∀ {cs r new:List DC} {off:Nat},replC cs off new=some r→off+sizeCs new≤(concCs cs).length∧putCells (concCs cs) off (concCs new)=concCs r
 | cs,r,new,0,h=>by
  have h:(match seekC cs (sizeCs new) with | some r=>some (new ++ r) | none=>none)=some r:=by cases cs <;> exact h
  split at h
  ·rename_i y hy
   obtain ⟨h1,h2⟩:=seekC_spec hy
   obtain rfl:=Option.some.inj h
   refine ⟨by omega,?_⟩
   simp only[putCells,List.take_zero,List.nil_append,Nat.zero_add,concCs_length]
   rw[h2,concCs_append]
  ·cases h
 | [],r,new,off+1,h=>by simp[replC]at h
 | d :: cs,r,new,off+1,h=>by
  obtain ⟨h1,y,h2,rfl⟩:=replC_cons h
  obtain ⟨h3,h4⟩:=replC_spec h2
  rw[concCs_cons,concCs_cons,←h4]
  refine ⟨by rw[List.length_append,cellS_length];omega,?_⟩
  simp only[putCells]
  rw[List.take_append,cellS_length,List.take_of_length_le (by rw[cellS_length];exact h1),List.drop_append,cellS_length,List.drop_of_length_le (by rw[cellS_length];omega),List.nil_append]
  simp only[List.append_assoc]
  congr 3
  congr 1
  omega
structure Prj where
 p1:(a b:Ty)→a.den×b.den→a.den
 p2:(a b:Ty)→a.den×b.den→b.den
 s1:(t:Ty)→Option Bool×List t.den→Option Bool
 s2:(t:Ty)→Option Bool×List t.den→List t.den
def Prj.real:Prj:=⟨fun _ _ x=>x.1,fun _ _ x=>x.2,fun _ x=>x.1,fun _ x=>x.2⟩
def elemS (j:Prj):(t:Ty)→t.den→List DC
 | .int k,x=>[.p (.v (.int k x))]
 | .bool,x=>[.sb x]
 | .pair a b,x=>elemS j a (j.p1 a b x) ++ elemS j b (j.p2 a b x)
 | .sl t,x=>[.tl (j.s1 t x) t (j.s2 t x)]
theorem elemS_conc:∀ (t:Ty) (x:t.den),concCs (elemS .real t x)=(t.cells x).map .p
 | .int k,x=>by simp[elemS,concCs_cons,concCs_nil,cellS,DC.conc,Ty.cells]
 | .bool,x=>by simp[elemS,concCs_cons,concCs_nil,cellS,DC.conc,Ty.cells]
 | .pair a b,x=>by simp only[elemS,concCs_append,elemS_conc a,elemS_conc b,Ty.cells,List.map_append];rfl
 | .sl t,x=>by simp[elemS,concCs_cons,concCs_nil,cellS,DC.conc,Ty.cells,Prj.real]
def toIntC (k:IntKind):List DC→Option (Int×List DC)
 | .p (.v (.int k' n)) :: r=>if k=k' then some (n,r) else none
 | _=>none
def toBoolC:List DC→Option (Bool×List DC)
 | .p (.v (.bool b)) :: r=>some (b,r)
 | .sb b :: r=>some (b,r)
 | _=>none
def toSlC (t:Ty):List DC→Option ((Option Bool×List t.den)×List DC)
 | .tl nl t' l :: r=>if h:t'=t then some ((nl,h ▸ l),r) else none
 | .p (.sl nl 0 []) :: r=>some ((nl,[]),r)
 | _=>none
def toDen:(t:Ty)→List DC→Option (t.den×List DC)
 | .int k,cs=>toIntC k cs
 | .bool,cs=>toBoolC cs
 | .pair a b,cs=>match toDen a cs with
  | some (x,r)=>(match toDen b r with | some (y,r')=>some ((x,y),r') | none=>none)
  | none=>none
 | .sl t,cs=>toSlC t cs
theorem toDen_spec:∀ {t:Ty} {cs r:List DC} {x:t.den},toDen t cs=some (x,r)→concCs cs=(t.cells x).map .p ++ concCs r
 | .int k,cs,r,x,h=>by
  simp only[toDen]at h
  unfold toIntC at h
  split at h
  ·split at h
   ·rename_i hk
    obtain ⟨rfl,rfl⟩:=Prod.mk.inj (Option.some.inj h)
    rw[concCs_cons,hk]
    rfl
   ·cases h
  ·cases h
 | .bool,cs,r,x,h=>by
  simp only[toDen]at h
  unfold toBoolC at h
  split at h
  ·obtain ⟨rfl,rfl⟩:=Prod.mk.inj (Option.some.inj h)
   rw[concCs_cons];simp only[cellS,DC.conc];rfl
  ·obtain ⟨rfl,rfl⟩:=Prod.mk.inj (Option.some.inj h)
   rw[concCs_cons];simp only[cellS,DC.conc];rfl
  ·cases h
 | .pair a b,cs,r,x,h=>by
  simp only[toDen]at h
  split at h
  ·rename_i y r1 h1
   split at h
   ·rename_i z r2 h2
    simp only[Option.some.injEq,Prod.mk.injEq]at h
    obtain ⟨rfl,rfl⟩:=h
    rw[toDen_spec h1,toDen_spec h2]
    simp[Ty.cells]
   ·cases h
  ·cases h
 | .sl t,cs,r,x,h=>by
  simp only[toDen]at h
  unfold toSlC at h
  split at h
  ·split at h
   ·rename_i he
    subst he
    obtain ⟨rfl,rfl⟩:=Prod.mk.inj (Option.some.inj h)
    rw[concCs_cons];simp only[cellS,DC.conc];rfl
   ·cases h
  ·obtain ⟨rfl,rfl⟩:=Prod.mk.inj (Option.some.inj h)
   rw[concCs_cons];simp only[cellS,DC.conc];rfl
  ·cases h
end Go.Ab
namespace Go.Ab
open Go.RowKit
structure BoxS where
 cells:List DC
 e:TypeId
 fz:Bool
 ap:Bool:=false
 m:Bool:=false
structure StS where
 box:List BoxS
 grp:List (Nat×TypeId)
abbrev EnvS:=List (Nat×DC)
def EnvS.get:EnvS→Nat→DC
 | [],_=>.bad
 | (k,d) :: r,t=>if k=t then d else EnvS.get r t
def EnvS.keep (ρ:EnvS):List Nat→EnvS
 | []=>[]
 | t :: r=>(t,ρ.get t) :: EnvS.keep ρ r
structure OpsS where
 cmp:BinOp→Int→Int→Bool
 ar:BinOp→IntKind→Int→Int→Int
 cv:IntKind→Int→Int
 tn:Int→Nat
 ic:Nat→Int
 ai:Nat→Int→Int
 mx:Bool→Int→Int→Int
 an:Bool→Bool→Bool
 ad:Nat→Nat→Nat
 ml:Nat→Nat→Nat
 sb:Nat→Nat→Nat
 mn:Nat→Nat→Nat
 ln:(t:Ty)→List t.den→Nat
 em:(t:Ty)→List t.den→Bool
 gt:(t:Ty)→List t.den→Int→t.den
 up:(t:Ty)→Nat→List t.den→Int→t.den→List t.den
 ap:(t:Ty)→List t.den→List t.den→List t.den
 sc:(t:Ty)→List t.den→Int→Int→List t.den
 vw:(t:Ty)→Nat→List t.den→Nat→Nat→List t.den
 cp:(t:Ty)→Nat→List t.den→Nat→List t.den→Nat→List t.den
 rp:(t:Ty)→Nat→t.den→List t.den
 j:Prj
def cmpR (op:BinOp) (a b:Int):Bool:=match op with
 | .eql=>decide (a=b)
 | .neq=>decide (a≠b)
 | .lss=>decide (a<b)
 | .leq=>decide (a≤b)
 | .gtr=>decide (a>b)
 | .geq=>decide (a≥b)
 | _=>false
def arR (op:BinOp) (k:IntKind) (a b:Int):Int:=match op with
 | .add=>k.wrap (a+b)
 | .sub=>k.wrap (a - b)
 | .mul=>k.wrap (a*b)
 | .quo=>k.wrap (a.tdiv b)
 | .rem=>a.tmod b
 | .and=>k.wrap (BitVec.ofInt k.bits a &&& BitVec.ofInt k.bits b).toNat
 | .or=>k.wrap (BitVec.ofInt k.bits a ||| BitVec.ofInt k.bits b).toNat
 | .xor=>k.wrap (BitVec.ofInt k.bits a ^^^ BitVec.ofInt k.bits b).toNat
 | .andNot=>k.wrap (BitVec.ofInt k.bits a &&& ~~~(BitVec.ofInt k.bits b)).toNat
 | .shl=>k.wrap (a*2 ^ (min b.toNat k.bits))
 | .shr=>a.fdiv (2 ^ (min b.toNat k.bits))
 | _=>0
def mxR (mx:Bool) (a b:Int):Int:=if mx then (if b>a then b else a) else (if b<a then b else a)
def gtR (t:Ty) (l:List t.den) (k:Int):t.den:=l.getD k.toNat t.dflt
def upR (t:Ty) (n:Nat) (l:List t.den) (k:Int) (x:t.den):List t.den:=(t.norm n l).set k.toNat x
def scR (t:Ty) (l:List t.den) (a b:Int):List t.den:=(l.take b.toNat).drop a.toNat
def vwR (t:Ty) (n:Nat) (l:List t.den) (lo m:Nat):List t.den:=((t.norm n l).drop lo).take m
def cpR (t:Ty) (n:Nat) (l:List t.den) (lo:Nat) (src:List t.den) (m:Nat):List t.den:=(t.norm n l).take lo ++ src.take m ++ (t.norm n l).drop (lo+m)
def OpsS.real:OpsS where
 cmp:=cmpR
 ar:=arR
 cv k n:=k.wrap n
 tn:=Int.toNat
 ic n:=n
 ai n k:=n+k
 mx:=mxR
 an a b:=a && b
 ad a b:=a+b
 ml a b:=a*b
 sb a b:=a - b
 mn a b:=min a b
 ln _ l:=l.length
 em _ l:=l.isEmpty
 gt:=gtR
 up:=upR
 ap _ a b:=a ++ b
 sc:=scR
 vw:=vwR
 cp:=cpR
 rp _ n x:=List.replicate n x
 j:=.real
structure BR (b:Bool) (A B:Prop):Prop where
 t:b=true→A
 f:b=false→B
structure INB (k n:Int):Prop where
 lo:0≤k
 hi:k<n
structure SLB (a b n:Int):Prop where
 lo:0≤a
 le:a≤b
 hi:b≤n
structure SLM (a b n:Int):Prop where
 lo:0≤a
 le:a<b
 hi:b≤n
structure NZ (b:Int):Prop where
 h:b≠0
structure NN (b:Int):Prop where
 h:0≤b
structure EQN (a b:Nat):Prop where
 h:a=b
structure LEN (a b:Nat):Prop where
 h:a≤b
structure LIM (m bytes:Nat):Prop where
 b:m*bytes≤140737488355328
 l:m≤maxLen
structure MK (n m:Int) (bytes:Nat):Prop where
 lo:0≤n
 le:n≤m
 b:m*bytes≤281474976710656
 l:m≤maxLen
section
variable {α:Type}
def MHas (l:List (Int×α×Int)) (k:Int) (v:α) (b:Int):Prop:=∃ l1 l2,l=l1 ++ (k,v,b) :: l2∧∀ e∈l1,e.1≠k
def MNot (l:List (Int×α×Int)) (k:Int):Prop:=∀ e∈l,e.1≠k
structure MLK (n:Nat) (l:List (Int×α×Int)) (k:Int) (A:α→Prop) (B:Prop):Prop where
 nl:l.length=n
 s:∀ v b,MHas l k v b→A v
 z:MNot l k→B
def MPut (l:List (Int×α×Int)) (k:Int) (v:α) (c:Int) (l':List (Int×α×Int)) (c':Int):Prop:=
 (∃ l1 v0 b l2,l=l1 ++ (k,v0,b) :: l2∧(∀ e∈l1,e.1≠k)∧l'=l1 ++ (k,v,b) :: l2∧c'=c)∨(MNot l k∧l'=l ++ [(k,v,c)]∧c'=c+1)
structure MUP (n:Nat) (l:List (Int×α×Int)) (k:Int) (v:α) (c:Int) (A:Nat→List (Int×α×Int)→Int→Prop):Prop where
 nl:l.length=n
 c0:0≤c
 s:∀ n' l' c',MPut l k v c l' c'→l'.length=n'→A n' l' c'
def MDel (l:List (Int×α×Int)) (k:Int) (l':List (Int×α×Int)):Prop:=
 (∃ l1 v0 b l2,l=l1 ++ (k,v0,b) :: l2∧(∀ e∈l1,e.1≠k)∧l'=l1 ++ l2)∨(MNot l k∧l'=l)
structure MDL (n:Nat) (l:List (Int×α×Int)) (k:Int) (A:Nat→List (Int×α×Int)→Prop):Prop where
 nl:l.length=n
 s:∀ n' l',MDel l k l'→l'.length=n'→A n' l'
structure MNX (n:Nat) (l:List (Int×α×Int)) (c s lt:Int) (ns:Nat) (sn:List Int) (A:Nat→List Int→Int→α→Prop) (B:Prop):Prop where
 nl:l.length=n
 nsl:sn.length=ns
 cl:c=lt∧0≤s∧s≤c
 b:∀ e∈l,0≤e.2.2∧e.2.2<s
 p:∀ b∈sn,0≤b
 z:(∀ e∈l,e.2.2∈sn)→B
 st:∀ k v b,(k,v,b)∈l→b∉sn→∀ ns' sn',sn'=sn ++ [b]→sn'.length=ns'→A ns' sn' k v
structure MEN (n:Nat) (l:List (Int×α×Int)) (c lt:Int) (ns:Nat) (sn:List Int) (A:Int→α→Prop):Prop where
 nl:l.length=n
 nsl:sn.length=ns
 cl:c=lt∧0≤c
 b:∀ e∈l,0≤e.2.2
 p:∀ b∈sn,0≤b
 e:∃ k v b,sn.getLast? = some b∧l.find? (fun e=>e.2.2 == b)=some (k,v,b)∧A k v
end
structure CASE (k:Int) (m:Nat) (A:Prop):Prop where
 h:k=m→A
inductive SegT where
 | c (x:PD)
 | a (n:Nat) (t:Ty)
def SegT.zero:SegT→DC
 | .c x=>.p x
 | .a n t=>.arr n t []
structure LAYOK (lay:List (Nat×Value)) (segs:List SegT):Prop where
 h:layD lay=concCs (segs.map SegT.zero)
structure Cfg where
 tys:List (Nat×Ty)
 lays:List (Nat×List SegT)
 maps:List (Nat×Ty):=[]
def lookN {α:Type}:List (Nat×α)→Nat→Option α
 | [],_=>none
 | (k,x) :: r,n=>if k=n then some x else lookN r n
def nthD {α:Type}:List α→Nat→Option α
 | [],_=>none
 | x :: _,0=>some x
 | _ :: r,n+1=>nthD r n
theorem nthD_eq {α:Type}:∀ (l:List α) (n:Nat),nthD l n=l[n]?
 | [],_=>by simp[nthD]
 | _ :: _,0=>rfl
 | _ :: r,n+1=>by simp[nthD,nthD_eq r n]
def litOf:Operand→Option Nat
 | .const (.int _ n)=>some n.toNat
 | _=>none
def evS (ρ:EnvS):Operand→DC
 | .tmp t=>ρ.get t
 | .const v=>.p (cstP v)
 | .global g=>(match gkS g with
  | none=>.p (.v (.pointer (some ⟨g,0,none⟩)))
  | some q=>.tel q.1 [q.2] 0 0)
 | .func f=>.fn (.func f) [] []
def cellsS:DC→List DC
 | .agg cs=>cs
 | .p (.agg ps)=>ps.map .p
 | d=>[d]
def oneS:DC→Bool
 | .p x=>oneP x
 | .agg _ | .tup _ | .bad=>false
 | _=>true
def zeroS:List D→Option (List DC)
 | []=>some []
 | .p x :: r=>match zeroS r with | some l=>some (.p x :: l) | none=>none
 | _ :: _=>none
def fillS (cells:List DC):List (Nat×Nat×DC)→Option (List DC)
 | []=>some cells
 | (off,size,d) :: r=>match (if sizeCs (cellsS d)=size then (cellsS d).all oneS else false) with
  | true=>(match replC cells off (cellsS d) with | some cs=>fillS cs r | none=>none)
  | false=>none
def elemsD (t:Ty):Nat→List DC→Option (List t.den)
 | 0,[]=>some []
 | 0,_ :: _=>none
 | n+1,cs=>match toDen t cs with
  | some (x,r)=>(match elemsD t n r with | some l=>some (x :: l) | none=>none)
  | none=>none
def elemsR (t:Ty):Nat→List DC→Option (List t.den×List DC)
 | 0,cs=>some ([],cs)
 | n+1,cs=>match toDen t cs with
  | some (x,r)=>(match elemsR t n r with | some (l,r')=>some (x :: l,r') | none=>none)
  | none=>none
def headK:List DC→Option IntKind
 | .p (.v (.int k _)) :: _=>some k
 | _=>none
def segsS:List SegT→List DC→Option (List DC)
 | [],[]=>some []
 | [],_ :: _=>none
 | .a n t :: r,cs=>(match elemsR t n cs with
  | some (l,cs')=>(match segsS r cs' with | some y=>some (.arr n t l :: y) | none=>none)
  | none=>none)
 | .c _ :: _,[]=>none
 | .c _ :: r,d :: cs=>(match segsS r cs with | some y=>some (d :: y) | none=>none)
def asL (t:Ty):DC→Option (List t.den)
 | .tl _ t' l=>if h:t'=t then some (h ▸ l) else none
 | .og _ t' l=>if h:t'=t then some (h ▸ l) else none
 | .gr _ t' l=>if h:t'=t then some (h ▸ l) else none
 | .p (.sl _ 0 [])=>some []
 | _=>none
def castL (t t':Ty) (l:List t'.den):Option (List t.den):=if h:t'=t then some (h ▸ l) else none
def KBS (d:DC) (K:DC→Prop):Prop:=match d with
 | .sb b=>BR b (K (.p (.v (.bool true)))) (K (.p (.v (.bool false))))
 | d=>K d
def KC (c:DC) (K:DC→Prop):Prop:=match c with
 | .arr _ _ _=>False
 | c=>KBS c K
def casesK (k:Int) (f:Nat→Prop):Nat→Prop
 | 0=>True
 | m+1=>casesK k f m∧CASE k m (f m)
def boolOf:DC→Option Bool
 | .p (.v (.bool b))=>some b
 | .sb b=>some b
 | _=>none
section
variable (o:OpsS) (g:Cfg)
def eqS:List Bool→List DC→List DC→Option Bool
 | [],[],[]=>some true
 | false :: ks,.p (.v (.int k a)) :: xs,.p (.v (.int k' b)) :: ys=>match eqS ks xs ys with | some r=>if k=k' then some (o.an (o.cmp .eql a b) r) else none | none=>none
 | true :: ks,x :: xs,y :: ys=>match boolOf x,boolOf y,eqS ks xs ys with
  | some a,some b,some r=>some (o.an (a == b) r)
  | _,_,_=>none
 | _,_,_=>none
def sBinS (op:BinOp) (x y:Value) (K:Value→Prop):Prop:=
 match x,y with
 | .int k a,.int k' b=>
  match op with
  | .add=>k=k'∧K (.int k (o.ar .add k a b))
  | .sub=>k=k'∧K (.int k (o.ar .sub k a b))
  | .mul=>k=k'∧K (.int k (o.ar .mul k a b))
  | .quo=>k=k'∧NZ b∧K (.int k (o.ar .quo k a b))
  | .rem=>k=k'∧NZ b∧K (.int k (o.ar .rem k a b))
  | .and=>k=k'∧K (.int k (o.ar .and k a b))
  | .or=>k=k'∧K (.int k (o.ar .or k a b))
  | .xor=>k=k'∧K (.int k (o.ar .xor k a b))
  | .andNot=>k=k'∧K (.int k (o.ar .andNot k a b))
  | .shl=>NN b∧K (.int k (o.ar .shl k a b))
  | .shr=>NN b∧K (.int k (o.ar .shr k a b))
  | .eql=>k=k'∧BR (o.cmp .eql a b) (K (.bool true)) (K (.bool false))
  | .neq=>k=k'∧BR (o.cmp .neq a b) (K (.bool true)) (K (.bool false))
  | .lss=>k=k'∧BR (o.cmp .lss a b) (K (.bool true)) (K (.bool false))
  | .leq=>k=k'∧BR (o.cmp .leq a b) (K (.bool true)) (K (.bool false))
  | .gtr=>k=k'∧BR (o.cmp .gtr a b) (K (.bool true)) (K (.bool false))
  | .geq=>k=k'∧BR (o.cmp .geq a b) (K (.bool true)) (K (.bool false))
 | _,_=>False
def loOf:Option Nat→Nat
 | none=>0
 | some x=>x
def kLo (lo:Option Nat) (k:Int):Int:=match lo with
 | none=>k
 | some x=>o.ai x k
def loAdd (lo:Option Nat) (a:Nat):Option Nat:=match lo with
 | none=>some a
 | some x=>some (o.ad x a)
def segAt (st:StS) (b off:Nat) (f:BoxS→Nat→(t:Ty)→List t.den→Prop):Prop:=match nthD st.box b with
 | some B=>B.fz=false∧(match seekC B.cells off with
  | some (.arr n t l :: _)=>f B n t l
  | _=>False)
 | none=>False
def updC:List DC→Nat→DC→Option (List DC)
 | .arr _ _ _ :: r,0,d=>some (d :: r)
 | .arr n t l :: r,off+1,d=>if n*t.size≤off+1 then (match updC r (off+1 - n*t.size) d with | some x=>some (.arr n t l :: x) | none=>none) else none
 | c :: r,off+1,d=>match updC r off d with | some x=>some (c :: x) | none=>none
 | _,_,_=>none
def appS (e:TypeId) (size bytes:Nat) (st:StS) (K:DC→StS→Prop) (t:Ty) (s:DC) (l2:List t.den):Prop:=
 match s with
 | .p (.sl (some true) _ _)=>LIM (o.ln t l2) bytes∧K (.og st.grp.length t l2) { st with grp:=st.grp ++ [(o.ml (o.ln t l2) size,e)] }
 | .tl (some true) _ _=>LEN 1 (o.ln t l2)∧LIM (o.ln t l2) bytes∧K (.ms st.box.length 0 size none (o.ln t l2)) { st with box:=st.box ++ [{ cells:=[.arr (o.ln t l2) t l2],e:=e,fz:=false,ap:=true }] }
 | .og G t' l=>(match castL t t' l with
  | some l=>(match nthD st.grp G with
   | some (cur,e')=>e'=e∧EQN cur (o.ml (o.ln t l) size)∧LIM (o.ad (o.ln t l) (o.ln t l2)) bytes∧K (.og G t (o.ap t l l2)) { st with grp:=st.grp.set G (o.ml (o.ln t (o.ap t l l2)) size,e) }
   | none=>False)
  | none=>False)
 | .gr G t' l=>(match castL t t' l with
  | some l=>(match nthD st.grp G with
   | some (cur,e')=>e'=e∧EQN cur (o.ml (o.ln t l) size)∧LIM (o.ad (o.ln t l) (o.ln t l2)) bytes∧K (.gr G t (o.ap t l l2)) { st with grp:=st.grp.set G (o.ml (o.ln t (o.ap t l l2)) size,e) }
   | none=>False)
  | none=>False)
 | .ms b 0 sz none n=>(match nthD st.box b with
  | some B=>B.fz=false∧B.ap=true∧B.e=e∧(match B.cells with
   | [.arr N t' l]=>(match castL t t' l with
    | some l=>LEN n N∧LIM (o.ad n (o.ln t l2)) bytes ∧
      K (.ms st.box.length 0 sz none (o.ad n (o.ln t l2))) { st with box:=st.box.set b { B with cells:=[],fz:=true } ++ [{ cells:=[.arr (o.ad n (o.ln t l2)) t (o.ap t (o.vw t N l 0 n) l2)],e:=e,fz:=false,ap:=true }] }
    | none=>False)
   | _=>False)
  | none=>False)
 | _=>False
def srcS (st:StS) (t:Ty):DC→Option (List t.den×Prop)
 | .ms b off sz lo n=>match nthD st.box b with
  | some B=>(match B.fz with
   | true=>none
   | false=>(match seekC B.cells off with
    | some (.arr N t' l :: _)=>(match castL t t' l with
     | some l=>if t.size=sz then some (o.vw t N l (loOf lo) n,LEN (o.ad (loOf lo) n) N) else none
     | none=>none)
    | _=>none))
  | none=>none
 | d=>match asL t d with | some l=>some (l,True) | none=>none
def bdS (lo hi:Option DC) (n:Int) (f:Int→Int→Prop):Prop:=match lo,hi with
 | some (.p (.v (.int _ a))),none=>f a n
 | none,some (.p (.v (.int _ b)))=>f 0 b
 | some (.p (.v (.int _ a))),some (.p (.v (.int _ b)))=>f a b
 | _,_=>False
def slice1 (x:DC) (st:StS) (K:DC→StS→Prop):Prop:=match x with
 | .tl _ _ _=>K x st
 | .og _ _ _=>K x st
 | .gr _ _ _=>K x st
 | .ms _ _ _ _ _=>K x st
 | .p (.sl _ 0 [])=>K x st
 | _=>False
def sliceM (lo hi:Option DC) (b off sz:Nat) (l0:Option Nat) (n:Nat) (st:StS) (K:DC→StS→Prop):Prop:=match lo,hi with
 | none,some (.p (.v (.int _ k)))=>SLB 0 k (o.ic n)∧K (.ms b off sz l0 (o.tn k)) st
 | some (.p (.v (.int _ a))),none=>SLM a (o.ic n) (o.ic n)∧K (.ms b off sz (loAdd o l0 (o.tn a)) (o.sb n (o.tn a))) st
 | some (.p (.v (.int _ a))),some (.p (.v (.int _ k)))=>SLM a k (o.ic n)∧K (.ms b off sz (loAdd o l0 (o.tn a)) (o.sb (o.tn k) (o.tn a))) st
 | _,_=>False
def slice2 (x:DC) (lo hi:Option DC) (size:Nat) (st:StS) (K:DC→StS→Prop):Prop:=match x with
 | .tl nl t l=>t.size=size∧bdS lo hi (o.ic (o.ln t l)) fun a b=>SLB a b (o.ic (o.ln t l))∧K (.tl nl t (o.sc t l a b)) st
 | .og _ t l=>t.size=size∧bdS lo hi (o.ic (o.ln t l)) fun a b=>SLB a b (o.ic (o.ln t l))∧K (.tl (some (o.em t l)) t (o.sc t l a b)) st
 | .gr _ t l=>t.size=size∧bdS lo hi (o.ic (o.ln t l)) fun a b=>SLB a b (o.ic (o.ln t l))∧K (.tl (some false) t (o.sc t l a b)) st
 | .ms b off sz l0 n=>sz=size∧0<sz∧sliceM o lo hi b off sz l0 n st K
 | .p (.sl nl 0 [])=>bdS lo hi 0 fun a b=>SLB a b 0∧K (.p (.sl nl 0 [])) st
 | _=>False
def sliceS (x:DC) (lo hi:Option DC) (size:Nat) (st:StS) (K:DC→StS→Prop):Prop:=
 match lo,hi with
 | none,none=>slice1 x st K
 | _,_=>slice2 o x lo hi size st K
abbrev CallS:=FuncId→List DC→StS→(DC→StS→Prop)→Prop
def mapS (st:StS) (kk vv:Nat) (d:DC) (f:Nat→BoxS→Int→Nat→IntKind→(tv:Ty)→List (Int×tv.den×Int)→Prop):Prop:=match d with
 | .mref b=>(match nthD st.box b with
  | some B=>B.m=true∧B.ap=false∧kk=0∧B.e=1+vv∧vv<1000∧(match B.cells with
   | [.p (.v (.int .i64 c)),.arr n (.pair (.int q) (.pair tv (.int .i64))) l]=>kw vv=tv.size∧f b B c n q tv l
   | _=>False)
  | none=>False)
 | _=>False
def headC:List DC→DC
 | c :: _=>c
 | []=>.bad
def valK (V:Nat) (tv:Ty) (v:tv.den) (K:DC→Prop):Prop:=match V with
 | 0=>KC (headC (elemS o.j tv v)) K
 | _+1=>K (.agg (elemS o.j tv v))
def lkS (ok b:Bool) (d:DC):DC:=match ok with
 | true=>.tup [d,.p (.v (.bool b))]
 | false=>d
def zeroV (V:Nat) (zero:List D) (K:DC→Prop):Prop:=match zeroS zero with
 | some z=>zero.length=kw V∧(match V with | 0=>K (headC z) | _+1=>K (.agg z))
 | none=>False
def iterS (st:StS) (kk vv:Nat) (d:DC) (f:Nat→BoxS→Nat→Int→Int→Nat→List Int→Int→Nat→IntKind→(tv:Ty)→List (Int×tv.den×Int)→Prop):Prop:=match d with
 | .ptr i 0=>(match nthD st.box i with
  | some I=>I.m=true∧I.ap=false∧I.e=0∧(match I.cells with
   | [.mref b,.p (.v (.int .i64 s)),.p (.v (.int .i64 lt)),.arr ns (.int .i64) sn]=>mapS st kk vv (.mref b) fun _ _ c n q tv l=>f i I b s lt ns sn c n q tv l
   | _=>False)
  | none=>False)
 | _=>False
def emptyS:DC→Option Bool
 | .p .z0=>some false
 | .p (.sl (some true) _ _)=>some true
 | _=>none
def wpMS (ρ:EnvS) (st:StS) (K:DC→StS→Prop):MOp→Prop
 | .lit0 _=>K (.p .z0) st
 | .apn e size bytes s x=>match lookN g.tys e,emptyS (evS ρ s) with
  | some t,some nl=>t.size=size∧(match srcS o st t (evS ρ x) with
   | some (l2,p)=>p∧LIM (o.ln t l2) bytes∧BR (o.em t l2) (K (.p (.sl (some nl) 0 [])) st) (K (.ms st.box.length 0 size none (o.ln t l2)) { st with box:=st.box ++ [{ cells:=[.arr (o.ln t l2) t l2],e:=e,fz:=false,ap:=true }] })
   | none=>False)
  | _,_=>False
 | .apz e size bytes zero s x=>match lookN g.tys e,emptyS (evS ρ s),evS ρ x,zeroS zero with
  | some t,some nl,.p (.v (.int .i64 m)),some z=>t.size=size∧MK 0 m bytes∧LIM (o.tn m) bytes∧(match toDen t z with
   | some (y,[])=>BR (o.em t (o.rp t (o.tn m) y)) (K (.p (.sl (some nl) 0 [])) st) (K (.ms st.box.length 0 size none (o.tn m)) { st with box:=st.box ++ [{ cells:=[.arr (o.tn m) t (o.rp t (o.tn m) y)],e:=e,fz:=false,ap:=true }] })
   | _=>False)
  | _,_,_,_=>False
 | .apf e size bytes s x=>match lookN g.tys e,emptyS (evS ρ s) with
  | some t,some _=>t.size=size∧(match srcS o st t (evS ρ x) with
   | some (l2,p)=>p∧LIM (o.ln t l2) bytes∧K (.tl none t l2) st
   | none=>False)
  | _,_=>False
 | .capN x=>match evS ρ x with
  | .p (.sl (some true) _ _)=>K (.p (.v (.int .i64 0))) st
  | _=>False
 | .ldF size k esz i x=>match evS ρ x with
  | .ptr b 0=>(match nthD st.box b,nthD st.box i with
   | some B,some A=>B.fz=false∧B.m=false∧A.fz=false∧A.m=false∧Nat.beq i b=false∧(match B.cells,A.cells with
    | [.p c,.ms j 0 sz none n],[.arr N t l]=>size=2∧k=1∧j=i∧sz=esz∧t.size=esz∧LEN n N ∧
      K (.agg [.p c,.tl (some false) t (o.vw t N l 0 n)]) { st with box:=(st.box.set i { A with cells:=[],fz:=true }).set b { B with cells:=[.p c,.tl (some false) t (o.vw t N l 0 n)] } }
    | _,_=>False)
   | _,_=>False)
  | _=>False
 | .frz size x=>match evS ρ x with
  | .ms b 0 sz none n=>(match nthD st.box b with
   | some B=>B.fz=false∧B.m=false∧sz=size∧(match B.cells with
    | [.arr N t l]=>t.size=size∧LEN n N∧K (.tl (some false) t (o.vw t N l 0 n)) { st with box:=st.box.set b { B with cells:=[],fz:=true } }
    | _=>False)
   | none=>False)
  | _=>False
 | .mk kk vv=>kk=0∧vv<1000∧(match lookN g.maps vv with
  | some tE=>K (.mref st.box.length) { st with box:=st.box ++ [{ cells:=[.p (.v (.int .i64 0)),.arr 0 tE []],e:=1+vv,fz:=true,m:=true }] }
  | none=>False)
 | .look ok V zero x i=>match evS ρ i with
  | .p (.v (.int q k))=>(match evS ρ x with
   | .p (.v (.map none))=>zeroV V zero fun d=>K (lkS ok false d) st
   | d=>mapS st 0 V d fun _ _ _ n q' tv l=>q'=q∧MLK n l k (fun v=>valK o V tv v fun d=>K (lkS ok true d) st) (zeroV V zero fun d=>K (lkS ok false d) st))
  | _=>False
 | .upd V x kx vx=>match evS ρ kx with
  | .p (.v (.int q k))=>mapS st 0 V (evS ρ x) fun b B c n q' tv l=>q'=q∧isAggM (evS ρ vx)=(match V with | 0=>false | _+1=>true)∧(match toDen tv (cellsS (evS ρ vx)) with
   | some (v,[])=>MUP n l k v c fun n' l' c'=>K (.p (.v undef)) { st with box:=st.box.set b { B with cells:=[.p (.v (.int .i64 c')),.arr n' (.pair (.int q) (.pair tv (.int .i64))) l'] } }
   | _=>False)
  | _=>False
 | .del V x kx=>match evS ρ kx with
  | .p (.v (.int q k))=>mapS st 0 V (evS ρ x) fun b B c n q' tv l=>q'=q∧MDL n l k fun n' l'=>K (.p (.tup [])) { st with box:=st.box.set b { B with cells:=[.p (.v (.int .i64 c)),.arr n' (.pair (.int q) (.pair tv (.int .i64))) l'] } }
  | _=>False
 | .len kk vv x=>match evS ρ x with
  | .p (.v (.map none))=>K (.p (.v (.int .i64 0))) st
  | d=>mapS st kk vv d fun _ _ _ n _ _ _=>K (.p (.v (.int .i64 (o.ic n)))) st
 | .rng kk vv x=>mapS st kk vv (evS ρ x) fun b _ c _ _ _ _=>NN c∧K (.ptr st.box.length 0) { st with box:=st.box ++ [{ cells:=[.mref b,.p (.v (.int .i64 c)),.p (.v (.int .i64 c)),.arr 0 (.int .i64) []],e:=0,fz:=true,m:=true }] }
 | .nxt kk vv x=>iterS st kk vv (evS ρ x) fun i I b s lt ns sn c n q tv l=>MNX n l c s lt ns sn
   (fun ns' sn' k v=>valK o vv tv v fun d=>K (.tup [.p (.v (.bool true)),.p (.v (.int q k)),d]) { st with box:=st.box.set i { I with cells:=[.mref b,.p (.v (.int .i64 s)),.p (.v (.int .i64 lt)),.arr ns' (.int .i64) sn'] } })
   (K (.p (.tup [.v (.bool false)])) st)
 | .ent kk vv x=>iterS st kk vv (evS ρ x) fun _ _ _ _ lt ns sn c n q tv l=>MEN n l c lt ns sn fun k v=>valK o vv tv v fun d=>K (.tup [.p (.v (.int q k)),d]) st
 | .eqN neg x y=>match evS ρ y with
  | .p (.v (.map none))=>(match evS ρ x with
   | .mref _=>K (.p (.v (.bool neg))) st
   | .p (.v (.map none))=>K (.p (.v (.bool (!neg)))) st
   | _=>False)
  | _=>False
where isAggM:DC→Bool
 | .agg _=>true
 | .p (.agg _)=>true
 | _=>false
def wpOpS (C:CallS) (ρ:EnvS) (st:StS) (K:DC→StS→Prop):AOp→Prop
 | .mv x=>K (evS ρ x) st
 | .pick c a b=>match evS ρ c with | .p (.v (.bool t))=>(match t with | true=>K (evS ρ a) st | false=>K (evS ρ b) st) | _=>False
 | .bin op x y=>match evS ρ x,evS ρ y with
  | .p (.v a),.p (.v b)=>sBinS o op a b fun r=>K (.p (.v r)) st
  | _,_=>False
 | .binB neg x y=>match evS ρ x,evS ρ y with
  | .p (.v (.bool a)),.p (.v (.bool b))=>K (.p (.v (.bool ((a == b) ^^ neg)))) st
  | _,_=>False
 | .eqA ks neg x y=>match eqS o ks (cellsS (evS ρ x)) (cellsS (evS ρ y)) with
  | some b=>(match isAggS (evS ρ x),isAggS (evS ρ y) with
   | true,true=>BR b (K (.p (.v (.bool (!neg)))) st) (K (.p (.v (.bool neg))) st)
   | _,_=>False)
  | none=>False
 | .eqN neg x y=>match evS ρ y with
  | .p (.sl (some true) _ _)=>(match evS ρ x with
   | .p (.sl (some nl) _ _)=>BR nl (K (.p (.v (.bool (!neg)))) st) (K (.p (.v (.bool neg))) st)
   | .tl (some nl) _ _=>BR nl (K (.p (.v (.bool (!neg)))) st) (K (.p (.v (.bool neg))) st)
   | .og _ t l=>BR (o.em t l) (K (.p (.v (.bool (!neg)))) st) (K (.p (.v (.bool neg))) st)
   | .gr _ _ _=>K (.p (.v (.bool neg))) st
   | .ms _ _ _ _ _=>K (.p (.v (.bool neg))) st
   | _=>False)
  | _=>False
 | .eqP neg x y=>match evS ρ y with
  | .p (.v (.pointer none))=>(match evS ρ x with
   | .ptr _ _=>K (.p (.v (.bool neg))) st
   | .ept _ _ _ _ _=>K (.p (.v (.bool neg))) st
   | .tel _ _ _ _=>K (.p (.v (.bool neg))) st
   | .p (.v (.pointer none))=>K (.p (.v (.bool (!neg)))) st
   | _=>False)
  | _=>False
 | .un op x=>match op,evS ρ x with
  | .not,.p (.v (.bool b))=>K (.p (.v (.bool (!b)))) st
  | .neg,.p (.v (.int k n))=>K (.p (.v (.int k (o.ar .sub k 0 n)))) st
  | .xor,.p (.v (.int k n))=>K (.p (.v (.int k (o.ar .xor k (onesK k) n)))) st
  | _,_=>False
 | .conv k x=>match evS ρ x with | .p (.v (.int _ n))=>K (.p (.v (.int k (o.cv k n)))) st | _=>False
 | .len x=>match evS ρ x with
  | .p (.sl _ n _)=>K (.p (.v (.int .i64 (o.ic n)))) st
  | .tl _ t l=>K (.p (.v (.int .i64 (o.ic (o.ln t l))))) st
  | .og _ t l=>K (.p (.v (.int .i64 (o.ic (o.ln t l))))) st
  | .gr _ t l=>K (.p (.v (.int .i64 (o.ic (o.ln t l))))) st
  | .ms _ _ _ _ n=>K (.p (.v (.int .i64 (o.ic n)))) st
  | _=>False
 | .idx size x i=>match evS ρ i with
  | .p (.v (.int _ k))=>(match evS ρ x with
   | .tl _ t l=>t.size=size∧INB k (o.ic (o.ln t l))∧K (.tel t l k 0) st
   | .og _ t l=>t.size=size∧INB k (o.ic (o.ln t l))∧K (.tel t l k 0) st
   | .gr _ t l=>t.size=size∧INB k (o.ic (o.ln t l))∧K (.tel t l k 0) st
   | .ms b off sz lo n=>sz=size∧INB k (o.ic n)∧K (.ept b off sz (kLo o lo k) 0) st
   | _=>False)
  | _=>False
 | .idxA len size x i=>match evS ρ x,evS ρ i with
  | .ptr b off,.p (.v (.int _ k))=>INB k (o.ic len)∧(match nthD st.box b with
   | some B=>(match seekC B.cells off with
    | some (.arr _ _ _ :: _)=>K (.ept b off size k 0) st
    | _=>(match litOf i with
     | some m=>K (.ptr b (off+m*size)) st
     | none=>len≤8∧casesK k (fun m=>K (.ptr b (off+m*size)) st) len))
   | none=>False)
  | .tel t l k0 q,.p (.v (.int _ k))=>INB k (o.ic len)∧(match litOf i with
   | some m=>K (.tel t l k0 (q+m*size)) st
   | none=>len≤8∧casesK k (fun m=>K (.tel t l k0 (q+m*size)) st) len)
  | .ept b off sz k0 q,.p (.v (.int _ k))=>INB k (o.ic len)∧(match litOf i with
   | some m=>K (.ept b off sz k0 (q+m*size)) st
   | none=>len≤8∧casesK k (fun m=>K (.ept b off sz k0 (q+m*size)) st) len)
  | _,_=>False
 | .load x=>match evS ρ x with
  | .tel t l k q=>INB k (o.ic (o.ln t l))∧(match nthD (elemS o.j t (o.gt t l k)) q with | some c=>KC c fun c=>K c st | none=>False)
  | .ptr b off=>(match nthD st.box b with
   | some B=>B.fz=false∧(match seekC B.cells off with | some (c :: _)=>KC c fun c=>K c st | _=>False)
   | none=>False)
  | .ept b off sz k q=>segAt st b off fun _ n t l=>t.size=sz∧INB k (o.ic n)∧(match nthD (elemS o.j t (o.gt t l k)) q with | some c=>KC c fun c=>K c st | none=>False)
  | .rel d=>KC d fun c=>K c st
  | _=>False
 | .loadA size x=>match evS ρ x with
  | .tel t l k q=>INB k (o.ic (o.ln t l))∧(match seekC (elemS o.j t (o.gt t l k)) q with
   | some cs=>(match takeC cs size with | some cs=>K (.agg cs) st | none=>False)
   | none=>False)
  | .ptr b off=>(match nthD st.box b with
   | some B=>B.fz=false∧(match seekC B.cells off with
    | some cs=>(match takeC cs size with | some cs=>K (.agg cs) st | none=>False)
    | none=>False)
   | none=>False)
  | .ept b off sz k q=>segAt st b off fun _ n t l=>t.size=sz∧INB k (o.ic n)∧(match seekC (elemS o.j t (o.gt t l k)) q with
   | some cs=>(match takeC cs size with | some cs=>K (.agg cs) st | none=>False)
   | none=>False)
  | _=>False
 | .store size a x=>sizeCs (cellsS (evS ρ x))=size∧(cellsS (evS ρ x)).all oneS=true∧(match evS ρ a with
  | .ptr b off=>(match nthD st.box b with
   | some B=>B.fz=false∧(match replC B.cells off (cellsS (evS ρ x)) with
    | some cs=>K (.p (.v undef)) { st with box:=st.box.set b { B with cells:=cs } }
    | none=>False)
   | none=>False)
  | .ept b off sz k q=>segAt st b off fun B n t l=>t.size=sz∧INB k (o.ic n)∧(match replC (elemS o.j t (o.gt t l k)) q (cellsS (evS ρ x)) with
   | some cs=>(match toDen t cs with
    | some (v,[])=>(match updC B.cells off (.arr n t (o.up t n l k v)) with
     | some cs=>K (.p (.v undef)) { st with box:=st.box.set b { B with cells:=cs } }
     | none=>False)
    | _=>False)
   | none=>False)
  | _=>False)
 | .alloc e zero=>match zeroS zero with
  | some cs=>K (.ptr st.box.length 0) { st with box:=st.box ++ [{ cells:=cs,e:=e,fz:=false }] }
  | none=>False
 | .allocL e lay=>match lookN g.lays e with
  | some segs=>LAYOK lay segs∧K (.ptr st.box.length 0) { st with box:=st.box ++ [{ cells:=segs.map SegT.zero,e:=e,fz:=false }] }
  | none=>(match zeroS (layD lay) with
   | some cs=>K (.ptr st.box.length 0) { st with box:=st.box ++ [{ cells:=cs,e:=e,fz:=false }] }
   | none=>False)
 | .box e x=>(cellsS (evS ρ x)).all oneS=true∧(match lookN g.lays e with
  | some segs=>(match segsS segs (cellsS (evS ρ x)) with
   | some cs=>K (.ptr st.box.length 0) { st with box:=st.box ++ [{ cells:=cs,e:=e,fz:=false }] }
   | none=>False)
  | none=>K (.ptr st.box.length 0) { st with box:=st.box ++ [{ cells:=cellsS (evS ρ x),e:=e,fz:=false }] })
 | .build zero parts=>match zeroS zero with
  | some z=>(match fillS z (parts.map fun q=>(q.1,q.2.1,evS ρ q.2.2)) with | some cs=>K (.agg cs) st | none=>False)
  | none=>False
 | .bslice own e n size zero parts=>match zeroS ((List.replicate n zero).flatten),lookN g.tys e with
  | some z,some t=>t.size=size∧(match fillS z (parts.map fun q=>(q.1,q.2.1,evS ρ q.2.2)) with
   | some cs=>(match elemsD t n cs with
    | some l=>(match own with
     | true=>K (.gr st.grp.length t l) { st with grp:=st.grp ++ [(n*size,e)] }
     | false=>K (.tl (some false) t l) st)
    | none=>False)
   | none=>False)
  | _,_=>False
 | .append e size bytes s x=>match lookN g.tys e with
  | some t=>t.size=size∧(match srcS o st t (evS ρ x) with
   | some (l2,p)=>p∧appS o e size bytes st K t (evS ρ s) l2
   | none=>False)
  | none=>False
 | .mslice e size bytes zero l c=>match evS ρ l,evS ρ c,lookN g.tys e,zeroS zero with
  | .p (.v (.int _ n)),.p (.v (.int _ m)),some t,some z=>t.size=size∧MK n m bytes∧(match toDen t z with
   | some (x,[])=>K (.ms st.box.length 0 size none (o.tn n)) { st with box:=st.box ++ [{ cells:=[.arr (o.tn m) t (o.rp t (o.tn m) x)],e:=e,fz:=false,ap:=true }] }
   | _=>False)
  | _,_,_,_=>False
 | .slice size x lo hi=>sliceS o (evS ρ x) (lo.map (evS ρ)) (hi.map (evS ρ)) size st K
 | .extract x i=>match evS ρ x with
  | .p (.tup ps)=>(match nthD ps i with | some p=>K (.p p) st | none=>False)
  | .tup ds=>(match nthD ds i with | some d=>KBS d fun d=>K d st | none=>False)
  | _=>False
 | .call f args=>C f (args.map (evS ρ)) st K
 | .callv x args=>match evS ρ x with
  | .fn (.func f) first captured=>C f (first ++ args.map (evS ρ) ++ captured) st K
  | _=>False
 | .fieldA off x=>match evS ρ x with
  | .ptr b q=>K (.ptr b (q+off)) st
  | .ept b q sz k r=>K (.ept b q sz k (r+off)) st
  | .tel t l k q=>K (.tel t l k (q+off)) st
  | _=>False
 | .field off size x=>match isAggS (evS ρ x) with
  | true=>(match seekC (cellsS (evS ρ x)) off with
   | some cs=>(match size with
    | none=>(match cs with | c :: _=>KC c fun c=>K c st | []=>False)
    | some s=>(match takeC cs s with | some cs=>K (.agg cs) st | none=>False))
   | none=>False)
  | false=>False
 | .index len size agg x i=>match evS ρ i,isAggS (evS ρ x),agg with
  | .p (.v (.int _ k)),true,false=>INB k (o.ic len)∧(match cellsS (evS ρ x) with
   | .arr n t l :: _=>t.size=size∧len≤n∧(match nthD (elemS o.j t (o.gt t l k)) 0 with | some c=>KC c fun c=>K c st | none=>False)
   | cs=>(match litOf i with
    | some m=>(match seekC cs (m*size) with | some (c :: _)=>KC c fun c=>K c st | _=>False)
    | none=>len≤8∧casesK k (fun m=>match seekC cs (m*size) with | some (c :: _)=>KC c fun c=>K c st | _=>False) len))
  | _,_,_=>False
 | .nilck x=>match evS ρ x with
  | .ptr b q=>K (.ptr b q) st
  | .ept b q sz k r=>K (.ept b q sz k r) st
  | .tel t l k q=>K (.tel t l k q) st
  | _=>False
 | .mkfn f first captured=>K (.fn f (first.map (evS ρ)) (captured.map (evS ρ))) st
 | .minmax mx args=>match args.map (evS ρ) with
  | [.p (.v (.int k a)),.p (.v (.int k' b))]=>k=k'∧K (.p (.v (.int k (o.mx mx a b)))) st
  | _=>False
 | .mkifc t x=>K (.ifc t (evS ρ x)) st
 | .bsliceM e n size zero parts=>match zeroS ((List.replicate n zero).flatten),lookN g.tys e with
  | some z,some t=>t.size=size∧(match fillS z (parts.map fun q=>(q.1,q.2.1,evS ρ q.2.2)) with
   | some cs=>(match elemsD t n cs with
    | some l=>K (.ms st.box.length 0 size none n) { st with box:=st.box ++ [{ cells:=[.arr n t l],e:=e,fz:=false,ap:=true }] }
    | none=>False)
   | none=>False)
  | _,_=>False
 | .msliceP e size bytes zero l c=>match evS ρ l,evS ρ c,lookN g.tys e,zeroS zero with
  | .p (.v (.int _ n)),.p (.v (.int _ m)),some t,some z=>t.size=size∧MK n m bytes∧(match toDen t z with
   | some (x,[])=>K (.tl (some false) t (o.rp t (o.tn n) x)) st
   | _=>False)
  | _,_,_,_=>False
 | .sliceA len size x=>match evS ρ x with
  | .ptr b off=>segAt st b off fun B n t _=>B.ap=false∧n=len∧t.size=size∧K (.ms b off size none len) st
  | .tel t l k q=>INB k (o.ic (o.ln t l))∧size=1∧(match seekC (elemS o.j t (o.gt t l k)) q with
   | some cs=>(match headK cs with
    | some ik=>(match elemsR (.int ik) len cs with | some xs=>K (.tl (some false) (.int ik) xs.1) st | none=>False)
    | none=>False)
   | none=>False)
  | _=>False
 | .copy size d s=>match evS ρ d with
  | .ms b off sz lo n=>sz=size∧(segAt st b off fun B N t l=>t.size=sz∧(match srcS o st t (evS ρ s) with
   | some (src,p)=>p∧LEN (o.ad (loOf lo) (o.mn (o.ln t src) n)) N∧(match updC B.cells off (.arr N t (o.cp t N l (loOf lo) src (o.mn (o.ln t src) n))) with
    | some cs=>K (.p (.v (.int .i64 (o.ic (o.mn (o.ln t src) n))))) { st with box:=st.box.set b { B with cells:=cs } }
    | none=>False)
   | none=>False))
  | _=>False
 | .tassert t ok x=>match evS ρ x with
  | .ifc u d=>u=t∧K (match ok with | true=>.tup [d,.p (.v (.bool true))] | false=>d) st
  | _=>False
 | .invk tbl x args=>match evS ρ x with
  | .ifc t d=>(match lookT tbl t with
   | some (f,false)=>C f (d :: args.map (evS ρ)) st K
   | some (f,true)=>(match d with
    | .ptr b off=>(match nthD st.box b with
     | some B=>B.fz=false∧(match seekC B.cells off with
      | some (.arr _ _ _ :: _)=>False
      | some (c :: _)=>C f (c :: args.map (evS ρ)) st K
      | _=>False)
     | none=>False)
    | _=>False)
   | none=>False)
  | _=>False
 | .mop m=>wpMS o g ρ st K m
where isAggS:DC→Bool
 | .agg _=>true
 | .p (.agg _)=>true
 | _=>false
end
end Go.Ab
namespace Go.Ab
open Go.RowKit
def BoxS.conc (B:BoxS):Box:=⟨concCs B.cells,B.e,B.fz,B.ap,B.m⟩
def StS.conc (s:StS):St:=⟨s.box.map BoxS.conc,s.grp⟩
def concE (ρ:EnvS):Env:=ρ.map fun q=>(q.1,q.2.conc)
def KP (K:DC→StS→Prop):D→St→Prop:=fun d st'=>∃ x s,d=x.conc∧st'=s.conc∧K x s
theorem KP.mk {K:DC→StS→Prop} {x:DC} {s:StS} (h:K x s):KP K x.conc s.conc:=⟨x,s,rfl,rfl,h⟩
theorem KP.of {K:DC→StS→Prop} {x:DC} {s:StS} {d:D} {st:St} (hd:d=x.conc) (hs:st=s.conc) (h:K x s):KP K d st:=⟨x,s,hd,hs,h⟩
theorem concE_get:∀ (ρ:EnvS) (t:Nat),(concE ρ).get t=(ρ.get t).conc
 | [],t=>by simp[concE,Env.get,EnvS.get,DC.conc]
 | (k,d) :: r,t=>by
  have:=concE_get r t
  simp only[concE,List.map_cons,Env.get,EnvS.get]at this ⊢
  split
  ·rfl
  ·exact this
theorem evS_conc (ρ:EnvS) (x:Operand):ev (concE ρ) x=(evS ρ x).conc:=by
 cases x with
 | tmp t=>exact concE_get ρ t
 | const v=>simp[ev,evS,DC.conc]
 | global g=>
  have e:=gk_ok g
  simp only[ev,evS]
  rw[e]
  cases gkS g with
  | none=>simp only[DC.conc]
  | some q=>
   have hl:=Ty.cells_length q.1 q.2
   have hp:=Ty.size_pos q.1
   simp only[DC.conc,Int.toNat_zero,List.drop_zero,List.flatMap_cons,List.flatMap_nil,List.append_nil]
   cases hc:q.1.cells q.2 with
   | nil=>rw[hc]at hl;simp at hl;omega
   | cons c cs=>rfl
 | func f=>simp[ev,evS,DC.conc,concL]
theorem evS_map (ρ:EnvS) (l:List Operand):l.map (ev (concE ρ))=concL (l.map (evS ρ)):=by
 rw[concL_eq,List.map_map]
 exact List.map_congr_left fun x _=>evS_conc ρ x
theorem StS.box_get {s:StS} {b:Nat} {B:BoxS} (h:nthD s.box b=some B):s.conc.box[b]? = some B.conc:=by
 rw[nthD_eq]at h
 simp[StS.conc,h]
theorem StS.box_len (s:StS):s.conc.box.length=s.box.length:=by simp[StS.conc]
theorem cellsD_mkAgg (ds:List D):cellsD (mkAgg ds)=ds:=by
 unfold mkAgg
 split
 ·rename_i ps h;simp only[cellsD];exact (allP_spec h).symm
 ·rfl
theorem mkAgg_map (ps:List PD):mkAgg (ps.map .p)=.p (.agg ps):=by simp[mkAgg,allP_map]
theorem concCs_map (ps:List PD):concCs (ps.map .p)=ps.map .p:=by
 induction ps with
 | nil=>simp[concCs_nil]
 | cons x ps ih=>rw[List.map_cons,concCs_cons,ih];simp[cellS,DC.conc]
theorem cellS_of {d:DC} (h:∀ n t l,d≠.arr n t l):cellS d=[d.conc]:=by
 cases d <;> first | rfl | exact absurd rfl (h _ _ _)
theorem concCs_one (d:DC):concCs [d]=cellS d:=by rw[concCs_cons,concCs_nil,List.append_nil]
theorem cellsD_mkTup (ds:List D):cellsD (mkTup ds)=[mkTup ds]:=by unfold mkTup;split <;> rfl
theorem cellsD_conc (d:DC):cellsD d.conc=concCs (cellsS d):=by
 cases d with
 | agg cs=>simp only[cellsS,DC.conc];exact cellsD_mkAgg _
 | arr n t l=>simp only[cellsS,DC.conc,concCs_one,cellS];exact cellsD_mkAgg _
 | p x=>
  cases x with
  | agg ps=>simp only[cellsS,DC.conc,cellsD];exact (concCs_map ps).symm
  | _=>simp only[cellsS,DC.conc,cellsD,concCs_one,cellS]
 | og g t l=>cases l <;> simp only[cellsS,DC.conc,cellsD,concCs_one,cellS]
 | tup vs=>simp only[cellsS,DC.conc,concCs_one,cellS];exact cellsD_mkTup _
 | _=>simp only[cellsS,DC.conc,cellsD,concCs_one,cellS]
theorem Ty.cells_one:∀ (t:Ty) (x:t.den),∀ y∈t.cells x,oneP y=true
 | .int _,x,y,h=>by simp only[cells,List.mem_singleton]at h;subst h;rfl
 | .bool,x,y,h=>by simp only[cells,List.mem_singleton]at h;subst h;rfl
 | .pair a b,x,y,h=>by
  simp only[cells,List.mem_append]at h
  exact h.elim (cells_one a _ y) (cells_one b _ y)
 | .sl _,x,y,h=>by simp only[cells,List.mem_singleton]at h;subst h;rfl
theorem oneS_conc {d:DC} (h:oneS d=true):(cellS d).all oneD=true:=by
 cases d <;> simp only[oneS,Bool.false_eq_true]at h <;> try simp only[cellS,DC.conc,List.all_cons,List.all_nil,Bool.and_true,oneD,oneP]
 ·exact h
 ·rfl
 ·simp only[arrCells,List.all_map,List.all_eq_true]
  intro y hy
  obtain ⟨x,_,hx⟩:=List.mem_flatMap.1 hy
  exact Ty.cells_one _ _ _ hx
 ·rename_i l;cases l <;> rfl
theorem allS_conc:∀ {cs:List DC},cs.all oneS=true→(concCs cs).all oneD=true
 | [],_=>by simp[concCs_nil]
 | d :: r,h=>by
  simp only[List.all_cons,Bool.and_eq_true]at h
  rw[concCs_cons,List.all_append,oneS_conc h.1,allS_conc h.2];rfl
theorem BR.real {b:Bool} {K:Value→Prop} (h:BR b (K (.bool true)) (K (.bool false))):K (.bool b):=by
 cases b
 ·exact h.f rfl
 ·exact h.t rfl
theorem sBinS_sound {op:BinOp} {x y:Value} {K:Value→Prop} (h:sBinS OpsS.real op x y K):sBin op x y K:=by
 unfold sBinS at h
 unfold sBin
 split at h
 ·split at h
  case h_12=>exact ⟨h.1,by have:=h.2.real;simpa [OpsS.real,cmpR,Bool.beq_eq_decide_eq] using this⟩
  case h_13=>exact ⟨h.1,by have:=h.2.real;simpa [OpsS.real,cmpR,bne,Bool.beq_eq_decide_eq] using this⟩
  case h_14=>exact ⟨h.1,h.2.real⟩
  case h_15=>exact ⟨h.1,h.2.real⟩
  case h_16=>exact ⟨h.1,h.2.real⟩
  case h_17=>exact ⟨h.1,h.2.real⟩
  case h_4=>exact ⟨h.1,h.2.1.h,h.2.2⟩
  case h_5=>exact ⟨h.1,h.2.1.h,h.2.2⟩
  case h_10=>exact ⟨h.1.h,h.2⟩
  case h_11=>exact ⟨h.1.h,h.2⟩
  all_goals exact h
 ·exact h.elim
theorem KBS_real {d:DC} {K:DC→Prop} {K':D→Prop} (hK:∀ x,K x→K' x.conc) (h:KBS d K):K' d.conc:=by
 unfold KBS at h
 split at h
 ·rename_i b
  cases b
  ·have:=hK _ (h.f rfl);simpa [DC.conc] using this
  ·have:=hK _ (h.t rfl);simpa [DC.conc] using this
 ·exact hK _ h
theorem KC_real {d:DC} {K:DC→Prop} {K':D→Prop} (hK:∀ x,K x→K' x.conc) (h:KC d K):cellS d=[d.conc]∧K' d.conc:=by
 unfold KC at h
 split at h
 ·exact h.elim
 ·rename_i hne
  exact ⟨cellS_of fun n t l e=>hne n t l e,KBS_real hK h⟩
theorem seek_head {cs r:List DC} {c:DC} {off:Nat} (h:seekC cs off=some (c :: r)) (h1:cellS c=[c.conc]):(concCs cs)[off]? = some c.conc:=by
 obtain ⟨_,h2⟩:=seekC_spec h
 rw[concCs_cons,h1]at h2
 have:((concCs cs).drop off)[0]? = some c.conc:=by rw[h2];rfl
 simpa using this
theorem zeroS_conc:∀ {l:List D} {cs:List DC},zeroS l=some cs→concCs cs=l
 | [],cs,h=>by simp only[zeroS,Option.some.injEq]at h;subst h;exact concCs_nil
 | d :: r,cs,h=>by
  cases d <;> simp only[zeroS,reduceCtorEq]at h
  split at h
  ·rename_i l hl
   simp only[Option.some.injEq]at h;subst h
   rw[concCs_cons,zeroS_conc hl];simp[cellS,DC.conc]
  ·cases h
theorem fillS_conc:∀ {parts:List (Nat×Nat×DC)} {cells cs:List DC},fillS cells parts=some cs→fillD (concCs cells) (parts.map fun q=>(q.1,q.2.1,q.2.2.conc))=some (concCs cs)
 | [],cells,cs,h=>by simp only[fillS,Option.some.injEq]at h;subst h;rfl
 | (off,size,d) :: r,cells,cs,h=>by
  simp only[fillS]at h
  split at h
  ·rename_i hc
   split at hc
   ·rename_i hs
    split at h
    ·rename_i cs' hr
     obtain ⟨h1,h2⟩:=replC_spec hr
     simp only[List.map_cons,fillD,cellsD_conc,concCs_length]
     rw[concCs_length]at h1
     rw[if_pos ⟨hs,by omega,allS_conc hc⟩,h2]
     exact fillS_conc h
    ·cases h
   ·cases hc
  ·cases h
theorem elemsD_conc {t:Ty}:∀ {n:Nat} {cs:List DC} {l:List t.den},elemsD t n cs=some l→l.length=n∧concCs cs=(t.rows l).map .p
 | 0,[],l,h=>by simp only[elemsD,Option.some.injEq]at h;subst h;exact ⟨rfl,by simp[concCs_nil]⟩
 | 0,_ :: _,l,h=>by simp[elemsD]at h
 | n+1,cs,l,h=>by
  simp only[elemsD]at h
  split at h
  ·rename_i x r hx
   split at h
   ·rename_i l' hl
    simp only[Option.some.injEq]at h;subst h
    obtain ⟨k1,k2⟩:=elemsD_conc hl
    exact ⟨by simp[k1],by rw[toDen_spec hx,k2];simp[Ty.rows]⟩
   ·cases h
  ·cases h
theorem elemsR_conc {t:Ty}:∀ {n:Nat} {cs r:List DC} {l:List t.den},elemsR t n cs=some (l,r)→l.length=n∧concCs cs=(t.rows l).map .p ++ concCs r
 | 0,cs,r,l,h=>by simp only[elemsR,Option.some.injEq,Prod.mk.injEq]at h;obtain ⟨rfl,rfl⟩:=h;exact ⟨rfl,by simp[Ty.rows]⟩
 | n+1,cs,r,l,h=>by
  simp only[elemsR]at h
  split at h
  ·rename_i x r1 hx
   split at h
   ·rename_i l' r' hl
    simp only[Option.some.injEq,Prod.mk.injEq]at h;obtain ⟨rfl,rfl⟩:=h
    obtain ⟨k1,k2⟩:=elemsR_conc hl
    exact ⟨by simp[k1],by rw[toDen_spec hx,k2];simp[Ty.rows]⟩
   ·cases h
  ·cases h
theorem segsS_conc:∀ {segs:List SegT} {cs y:List DC},segsS segs cs=some y→concCs y=concCs cs
 | [],[],y,h=>by simp only[segsS,Option.some.injEq]at h;subst h;rfl
 | [],_ :: _,y,h=>by simp[segsS]at h
 | .a n t :: r,cs,y,h=>by
  simp only[segsS]at h
  split at h
  ·rename_i l cs' hl
   split at h
   ·rename_i y' hy
    simp only[Option.some.injEq]at h;subst h
    obtain ⟨k1,k2⟩:=elemsR_conc hl
    rw[concCs_cons,segsS_conc hy,k2]
    simp[cellS,arrCells,Ty.norm_eq t k1]
   ·cases h
  ·cases h
 | .c _ :: _,[],y,h=>by simp[segsS]at h
 | .c _ :: r,d :: cs,y,h=>by
  simp only[segsS]at h
  split at h
  ·rename_i y' hy
   simp only[Option.some.injEq]at h;subst h
   rw[concCs_cons,concCs_cons,segsS_conc hy]
  ·cases h
theorem asL_toP {t:Ty} {d:DC} {l:List t.den} (h:asL t d=some l):∃ nl,toP d.conc=some (.sl nl l.length (t.rows l)):=by
 unfold asL at h
 split at h
 ·split at h
  ·rename_i he;subst he;simp only[Option.some.injEq]at h;subst h;exact ⟨_,rfl⟩
  ·cases h
 ·split at h
  ·rename_i he;subst he;simp only[Option.some.injEq]at h;subst h
   rename_i l
   cases l
   ·exact ⟨_,rfl⟩
   ·exact ⟨_,rfl⟩
  ·cases h
 ·split at h
  ·rename_i he;subst he;simp only[Option.some.injEq]at h;subst h;exact ⟨_,rfl⟩
  ·cases h
 ·simp only[Option.some.injEq]at h;subst h;exact ⟨_,rfl⟩
 ·cases h
theorem castL_eq {t t':Ty} {l:List t'.den} {l':List t.den} (h:castL t t' l=some l'):t'=t∧HEq l l':=by
 unfold castL at h
 split at h
 ·rename_i he;subst he;exact ⟨rfl,by simpa using h⟩
 ·cases h
theorem eqS_sound:∀ {ks:List Bool} {xs ys:List DC} {b:Bool},eqS OpsS.real ks xs ys=some b→∃ ps qs,concCs xs=ps.map .p∧concCs ys=qs.map .p∧psEq ks ps qs=some b
 | [],xs,ys,b,h=>by
  cases xs <;> cases ys <;> simp_all [eqS]
  exact ⟨[],by simp[concCs_nil],[],by simp[concCs_nil],rfl⟩
 | k :: ks,[],ys,b,h=>by cases k <;> simp[eqS]at h
 | k :: ks,x :: xs,[],b,h=>by
  cases k
  ·simp[eqS]at h
  ·simp[eqS]at h
 | false :: ks,x :: xs,y :: ys,b,h=>by
  unfold eqS at h
  split at h <;> simp only[List.cons.injEq,reduceCtorEq,false_and]at * <;> try (exact absurd h (by simp))
  rename_i h1 h2 h3
  obtain ⟨_,rfl⟩:=h1
  obtain ⟨rfl,rfl⟩:=h2
  obtain ⟨rfl,rfl⟩:=h3
  split at h
  ·rename_i r hr
   split at h
   ·rename_i hk
    obtain ⟨ps,qs,e1,e2,e3⟩:=eqS_sound hr
    refine ⟨.v (.int _ _) :: ps,.v (.int _ _) :: qs,by rw[concCs_cons,e1];rfl,by rw[concCs_cons,e2];rfl,?_⟩
    simp only[psEq,sEqK,hk,if_true,e3]
    simp only[OpsS.real,cmpR,Option.some.injEq]at h ⊢
    rw[←h];rfl
   ·cases h
  ·cases h
 | true :: ks,x :: xs,y :: ys,b,h=>by
  simp only[eqS]at h
  have bo:∀ {x:DC} {a:Bool},boolOf x=some a→cellS x=[.p (.v (.bool a))]:=fun {x a} h=>by
   unfold boolOf at h
   split at h
   ·simp only[Option.some.injEq]at h;subst h;simp[cellS,DC.conc]
   ·simp only[Option.some.injEq]at h;subst h;simp[cellS,DC.conc]
   ·cases h
  split at h
  ·rename_i a b' r ha hb hr
   obtain ⟨ps,qs,e1,e2,e3⟩:=eqS_sound hr
   refine ⟨.v (.bool a) :: ps,.v (.bool b') :: qs,by rw[concCs_cons,bo ha,e1];rfl,by rw[concCs_cons,bo hb,e2];rfl,?_⟩
   simp only[psEq,sEqK,e3]
   simp only[OpsS.real,Option.some.injEq]at h ⊢
   rw[←h]
  ·cases h
theorem isAggS_spec {d:DC} (h:wpOpS.isAggS d=true):d.conc=mkAgg (concCs (cellsS d)):=by
 cases d <;> simp only[wpOpS.isAggS,Bool.false_eq_true]at h
 case agg cs=>simp only[cellsS,DC.conc]
 case p x=>
  cases x <;> simp only[wpOpS.isAggS,Bool.false_eq_true]at h
  simp only[cellsS,DC.conc,concCs_map,mkAgg_map]
theorem toP_agg {d:DC} (h:wpOpS.isAggS d=true) {ps:List PD} (hp:concCs (cellsS d)=ps.map .p):toP d.conc=some (.agg ps):=by
 rw[isAggS_spec h,hp,mkAgg_map];rfl
theorem field_agg {C:CallW} {ρ:Env} {st:St} {K:D→St→Prop} {x:Operand} {ds:List D} (h:ev ρ x=mkAgg ds) (off:Nat) (size:Option Nat)
  (hk:match size with | none=>∃ c,ds[off]? = some c∧K c st | some s=>off+s≤ds.length∧K (mkAgg ((ds.drop off).take s)) st):wpOp C ρ st K (.field off size x):=by
 simp only[wpOp,h]
 unfold mkAgg at *
 cases hp:allP ds with
 | none=>simp only[hp];exact hk
 | some ps=>
  simp only
  obtain rfl:=allP_spec hp
  cases size with
  | none=>
   obtain ⟨c,h1,h2⟩:=hk
   simp only[List.getElem?_map,Option.map_eq_some_iff]at h1
   obtain ⟨q,h1,rfl⟩:=h1
   exact ⟨q,h1,h2⟩
  | some s=>
   obtain ⟨h1,h2⟩:=hk
   refine ⟨by simpa using h1,?_⟩
   rw[←List.map_drop,←List.map_take,allP_map]at h2
   exact h2
theorem index_agg {C:CallW} {ρ:Env} {st:St} {K:D→St→Prop} {x i:Operand} {ds:List D} (h:ev ρ x=mkAgg ds) {kd:IntKind} {k:Int} (hi:ev ρ i=.p (.v (.int kd k))) (len size:Nat) (h0:0≤k) (h1:k<len)
  {c:D} (hc:ds[k.toNat*size]? = some c) (hk:K c st):wpOp C ρ st K (.index len size false x i):=by
 simp only[wpOp,h,hi]
 unfold mkAgg
 cases hp:allP ds with
 | none=>exact ⟨h0,h1,trivial,c,hc,hk⟩
 | some ps=>
  obtain rfl:=allP_spec hp
  simp only[List.getElem?_map,Option.map_eq_some_iff]at hc
  obtain ⟨q,hc,rfl⟩:=hc
  exact ⟨h0,h1,by simpa using ⟨q,hc,hk⟩⟩
theorem updC_spec:∀ {cs r cs':List DC} {off n:Nat} {t:Ty} {l l':List t.den},seekC cs off=some (.arr n t l :: r)→updC cs off (.arr n t l')=some cs' →
  ∀ (pos:Nat) (new:List D),pos+new.length≤n*t.size→putCells (arrCells n t l) pos new=arrCells n t l'→off+pos+new.length≤(concCs cs).length∧putCells (concCs cs) (off+pos) new=concCs cs':=by
 intro cs
 induction cs with
 | nil=>intro r cs' off n t l l' h;cases off <;> simp[seekC]at h
 | cons d cs ih=>
  intro r cs' off n t l l' h hu pos new hp he
  cases off with
  | zero=>
   simp only[seekC,Option.some.injEq,List.cons.injEq]at h
   obtain ⟨rfl,rfl⟩:=h
   simp only[updC,Option.some.injEq]at hu
   subst hu
   have hl:(arrCells n t l).length=n*t.size:=by rw[arrCells,List.length_map,Ty.rows_length,Ty.norm_length]
   rw[concCs_cons,concCs_cons]
   simp only[cellS]
   refine ⟨by rw[List.length_append];omega,?_⟩
   rw[←he]
   simp only[putCells,Nat.zero_add]
   rw[List.take_append_of_le_length (by omega),List.drop_append_of_le_length (by omega)]
   simp
  | succ off=>
   obtain ⟨h1,h2⟩:=seekC_cons h
   have hu2:∃ y,updC cs (off+1 - sizeC d) (.arr n t l')=some y∧cs'=d :: y:=by
    cases d <;> simp only[updC]at hu <;> first
     | (split at hu <;> first | (rename_i y hy;exact ⟨y,hy,(Option.some.inj hu).symm⟩) | cases hu)
     | skip
    split at hu
    ·split at hu
     ·rename_i y hy;exact ⟨y,hy,(Option.some.inj hu).symm⟩
     ·cases hu
    ·cases hu
   obtain ⟨y,h3,rfl⟩:=hu2
   obtain ⟨k1,k2⟩:=ih h2 h3 pos new hp he
   rw[concCs_cons,concCs_cons,←k2]
   refine ⟨by rw[List.length_append,cellS_length];omega,?_⟩
   simp only[putCells]
   rw[List.take_append,cellS_length,List.take_of_length_le (by rw[cellS_length];omega),List.drop_append,cellS_length,List.drop_of_length_le (by rw[cellS_length];omega),List.nil_append]
   simp only[List.append_assoc]
   congr 3
   ·congr 1;omega
   ·congr 2;omega
end Go.Ab
namespace Go.Ab
open Go.RowKit
theorem elemS_single:∀ (t:Ty) (x:t.den),∀ c∈elemS .real t x,cellS c=[c.conc]
 | .int _,x,c,h=>by simp only[elemS,List.mem_singleton]at h;subst h;rfl
 | .bool,x,c,h=>by simp only[elemS,List.mem_singleton]at h;subst h;rfl
 | .pair a b,x,c,h=>by
  simp only[elemS,List.mem_append]at h
  exact h.elim (elemS_single a _ c) (elemS_single b _ c)
 | .sl _,x,c,h=>by simp only[elemS,List.mem_singleton]at h;subst h;rfl
theorem concCs_single:∀ {cs:List DC},(∀ c∈cs,cellS c=[c.conc])→concCs cs=cs.map DC.conc
 | [],_=>by simp[concCs_nil]
 | c :: cs,h=>by rw[concCs_cons,h c (by simp),concCs_single fun c hc=>h c (by simp[hc])];rfl
theorem elemS_map (t:Ty) (x:t.den):(elemS .real t x).map DC.conc=(t.cells x).map .p:=by
 rw[←concCs_single (elemS_single t x),elemS_conc]
theorem elemS_nth {t:Ty} {x:t.den} {q:Nat} {c:DC} (h:nthD (elemS .real t x) q=some c):q<t.size∧((t.cells x).map D.p)[q]? = some c.conc:=by
 rw[nthD_eq]at h
 have h2:((elemS .real t x).map DC.conc)[q]? = some c.conc:=by rw[List.getElem?_map,h];rfl
 rw[elemS_map]at h2
 refine ⟨?_,h2⟩
 have:=(List.getElem?_eq_some_iff.1 h2).1
 simpa [Ty.cells_length] using this
theorem norm_gt {t:Ty} {n:Nat} {l:List t.den} {k:Int} (h:k.toNat<n):(t.norm n l).getD k.toNat t.dflt=gtR t l k:=by
 simp only[List.getD,gtR]
 rw[Ty.norm_get t l h];rfl
theorem arrCells_length (n:Nat) (t:Ty) (l:List t.den):(arrCells n t l).length=n*t.size:=by rw[arrCells,List.length_map,Ty.rows_length,Ty.norm_length]
theorem arr_at {t:Ty} {n:Nat} {l:List t.den} {k:Int} (h:k.toNat<n):∃ r,(arrCells n t l).drop (k.toNat*t.size)=(t.cells (gtR t l k)).map .p ++ r:=by
 refine ⟨(t.rows ((t.norm n l).drop (k.toNat+1))).map .p,?_⟩
 rw[arrCells,←List.map_drop,Ty.rows_at t (by rw[Ty.norm_length];exact h),List.map_append,norm_gt h]
theorem arr_take {t:Ty} {n:Nat} {l:List t.den} {k:Int} (h:k.toNat<n):((arrCells n t l).drop (k.toNat*t.size)).take t.size=(t.cells (gtR t l k)).map .p:=by
 obtain ⟨r,e⟩:=arr_at (l:=l) h
 rw[e,List.take_left' (by simp[Ty.cells_length])]
theorem seg_get {cs r:List DC} {off n:Nat} {t:Ty} {l:List t.den} (h:seekC cs off=some (.arr n t l :: r)):off+n*t.size≤(concCs cs).length∧(concCs cs).drop off=arrCells n t l ++ concCs r:=by
 obtain ⟨h1,h2⟩:=seekC_spec h
 rw[concCs_cons]at h2
 have:=congrArg List.length h2
 simp only[List.length_drop,List.length_append,cellS,arrCells_length]at this
 exact ⟨by omega,h2⟩
theorem elem_bound {k:Int} {n s:Nat} (h:k.toNat<n):k.toNat*s+s≤n*s:=by
 rw[←Nat.succ_mul];exact Nat.mul_le_mul_right _ h
theorem seg_elem {cs r:List DC} {off n:Nat} {t:Ty} {l:List t.den} (h:seekC cs off=some (.arr n t l :: r)) {k:Int} (hk:k.toNat<n) :
  ((concCs cs).drop (off+k.toNat*t.size)).take t.size=(t.cells (gtR t l k)).map .p:=by
 obtain ⟨h1,h2⟩:=seg_get h
 have:=elem_bound (s:=t.size) hk
 rw[←List.drop_drop,h2,List.drop_append_of_le_length (by rw[arrCells_length];omega),List.take_append_of_le_length (by rw[List.length_drop,arrCells_length];omega),arr_take hk]
theorem take_get {α:Type} {L:List α} {i s q:Nat} {M:List α} (h:(L.drop i).take s=M) (hq:q<s):L[i+q]? = M[q]?:=by
 rw[←h,List.getElem?_take,if_pos hq,List.getElem?_drop]
theorem take_sub {α:Type} {L:List α} {i s q m:Nat} {M:List α} (h:(L.drop i).take s=M) (hq:q+m≤s) (hl:i+s≤L.length):i+q+m≤L.length∧(L.drop (i+q)).take m=(M.drop q).take m:=by
 refine ⟨by omega,?_⟩
 rw[←h,←List.drop_drop,List.drop_take,List.take_take,Nat.min_eq_left (by omega)]
theorem putCells_in {A:List D} {i s q:Nat} {new:List D} (hi:i+s≤A.length) (hq:q+new.length≤s):putCells A (i+q) new=A.take i ++ putCells ((A.drop i).take s) q new ++ A.drop (i+s):=by
 have e:A=A.take i ++ ((A.drop i).take s ++ A.drop (i+s)):=by
  rw[←List.drop_drop,List.take_append_drop,List.take_append_drop]
 have l1:(A.take i).length=i:=by simp;omega
 have l2:((A.drop i).take s).length=s:=by simp;omega
 generalize A.take i=X at *
 generalize (A.drop i).take s=C at *
 generalize A.drop (i+s)=Y at *
 subst e
 simp only[putCells]
 rw[List.take_append,l1,List.take_of_length_le (by omega),List.drop_append,l1,List.drop_of_length_le (by omega),Nat.add_sub_cancel_left,List.take_append_of_le_length (by omega),
  show i+q+new.length - i=q+new.length by omega,List.drop_append_of_le_length (by omega)]
 simp
theorem arr_put {t:Ty} {n:Nat} {l:List t.den} {k:Int} (hk:k.toNat<n) {q:Nat} {new:List D} (hq:q+new.length≤t.size) {x:t.den} (hx:putCells ((t.cells (gtR t l k)).map .p) q new=(t.cells x).map .p) :
  putCells (arrCells n t l) (k.toNat*t.size+q) new=arrCells n t (upR t n l k x):=by
 have hb:=elem_bound (s:=t.size) hk
 rw[putCells_in (s:=t.size) (by rw[arrCells_length];exact hb) hq,arr_take hk,hx]
 have hn:t.norm n (upR t n l k x)=upR t n l k x:=Ty.norm_eq t (by simp[upR,Ty.norm_length])
 simp only[arrCells,hn]
 simp only[upR]
 rw[Ty.rows_set t x (by rw[Ty.norm_length];exact hk)]
 simp
theorem segAt_spec {st:StS} {b off:Nat} {f:BoxS→Nat→(t:Ty)→List t.den→Prop} (h:segAt st b off f):∃ B n t l r,st.conc.box[b]? = some B.conc∧nthD st.box b=some B∧B.fz=false∧seekC B.cells off=some (.arr n t l :: r)∧f B n t l:=by
 unfold segAt at h
 split at h
 ·rename_i B hB
  obtain ⟨h1,h⟩:=h
  split at h
  ·rename_i n t l r hs
   exact ⟨B,n,t,l,r,StS.box_get hB,hB,h1,hs,h⟩
  ·exact h.elim
 ·exact h.elim
theorem casesK_spec {k:Int} {f:Nat→Prop}:∀ {m:Nat},casesK k f m→0≤k→k<m→f k.toNat
 | 0,_,h0,h1=>by omega
 | m+1,h,h0,h1=>by
  by_cases hm:k=m
  ·have:=h.2.h hm
   rwa [show k.toNat=m by omega]
  ·exact casesK_spec h.1 h0 (by omega)
theorem litOf_ev {i:Operand} {m:Nat} {ρ:EnvS} {k:Int} {kd:IntKind} (h:litOf i=some m) (he:evS ρ i=.p (.v (.int kd k))):m=k.toNat:=by
 unfold litOf at h
 split at h
 ·rename_i kd' n
  simp only[Option.some.injEq]at h
  simp only[evS,cstP,DC.p.injEq,PD.v.injEq,Value.int.injEq]at he
  rw[←he.2,h]
 ·cases h
theorem StS.conc_set {st:StS} {b:Nat} {B:BoxS}:({ st with box:=st.box.set b B }:StS).conc={ st.conc with box:=st.conc.box.set b B.conc }:=by
 simp[StS.conc,List.map_set]
section
variable {g:Cfg} {C:CallS} {D':CallW} {ρ:EnvS} {st:StS} {K:DC→StS→Prop}
theorem conc_int {x:Operand} {k:IntKind} {n:Int} (h:evS ρ x=.p (.v (.int k n))):ev (concE ρ) x=.p (.v (.int k n)):=by rw[evS_conc,h];simp[DC.conc]
theorem s_load {x:Operand} (h:wpOpS OpsS.real g C ρ st K (.load x)):wpOp D' (concE ρ) st.conc (KP K) (.load x):=by
 simp only[wpOpS]at h
 simp only[wpOp,evS_conc]
 split at h
 ·rename_i t l k q hx
  obtain ⟨hb,h⟩:=h
  simp only[hx,DC.conc]
  split at h
  ·rename_i c hc
   obtain ⟨hq,hget⟩:=elemS_nth hc
   obtain ⟨_,hK⟩:=KC_real (K':=fun d=>KP K d st.conc) (fun x hx=>KP.mk hx) h
   have hlo:=hb.lo
   have hhi:=hb.hi
   simp only[OpsS.real]at hhi hget
   have hlt:k.toNat<l.length:=by omega
   simp only[List.getElem?_map,Option.map_eq_some_iff]at hget
   obtain ⟨y,hy,e⟩:=hget
   refine ⟨y,?_,by rw[e];exact hK⟩
   rw[List.getElem?_drop,Nat.add_zero,←Ty.rows_drop,Ty.rows_at t hlt,List.getElem?_append_left (by rw[Ty.cells_length];exact hq)]
   exact hy
  ·exact h.elim
 ·rename_i b off hx
  simp only[hx,DC.conc]
  split at h
  ·rename_i B hB
   obtain ⟨hf,h⟩:=h
   rw[StS.box_get hB]
   split at h
   ·rename_i c r hs
    obtain ⟨h1,hK⟩:=KC_real (K':=fun d=>KP K d st.conc) (fun x hx=>KP.mk hx) h
    exact ⟨hf,c.conc,seek_head hs h1,hK⟩
   ·exact h.elim
  ·exact h.elim
 ·rename_i b off sz k q hx
  obtain ⟨B,n,t,l,r,e1,_,hf,hs,hsz,hb,h'⟩:=segAt_spec h
  replace h:=h';clear h'
  simp only[hx,DC.conc,e1]
  split at h
  ·rename_i c hc
   obtain ⟨hq,hget⟩:=elemS_nth hc
   obtain ⟨_,hK⟩:=KC_real (K':=fun d=>KP K d st.conc) (fun x hx=>KP.mk hx) h
   have hlo:=hb.lo
   have hhi:=hb.hi
   simp only[OpsS.real]at hhi hget
   subst hsz
   have:=seg_elem hs (show k.toNat<n by omega)
   exact ⟨hf,c.conc,(take_get this hq).trans hget,hK⟩
  ·exact h.elim
 ·rename_i d hx
  simp only[hx,DC.conc]
  exact (KC_real (K':=fun d=>KP K d st.conc) (fun x hx=>KP.mk hx) h).2
 ·exact h.elim
theorem s_loadA {size:Nat} {x:Operand} (h:wpOpS OpsS.real g C ρ st K (.loadA size x)):wpOp D' (concE ρ) st.conc (KP K) (.loadA size x):=by
 simp only[wpOpS]at h
 simp only[wpOp,evS_conc]
 split at h
 ·rename_i t l k q hx
  obtain ⟨hb,h⟩:=h
  simp only[hx,DC.conc]
  split at h
  ·rename_i cs1 hs1
   split at h
   ·rename_i cs hs
    obtain ⟨a1,a2⟩:=seekC_spec hs1
    obtain ⟨b1,b2⟩:=takeC_spec hs
    have hlo:=hb.lo
    have hhi:=hb.hi
    simp only[OpsS.real]at hhi a1 a2 b1 b2
    have hlt:k.toNat<l.length:=by omega
    rw[elemS_conc]at a1 a2
    rw[←a2]at b1 b2
    have hlen:q+size≤t.size:=by simp[Ty.cells_length]at a1 b1;omega
    rw[←Ty.rows_drop,Ty.rows_at t hlt]
    refine ⟨by simp[Ty.cells_length];omega,?_⟩
    refine KP.of ?_ rfl h
    simp only[DC.conc]
    rw[←b2,←List.map_drop,←List.map_take,mkAgg_map,List.drop_append_of_le_length (by rw[Ty.cells_length];omega),List.take_append_of_le_length (by rw[List.length_drop,Ty.cells_length];omega)]
    rfl
   ·exact h.elim
  ·exact h.elim
 ·rename_i b off hx
  simp only[hx,DC.conc]
  split at h
  ·rename_i B hB
   obtain ⟨hf,h⟩:=h
   rw[StS.box_get hB]
   split at h
   ·rename_i cs1 hs1
    split at h
    ·rename_i cs hs
     obtain ⟨a1,a2⟩:=seekC_spec hs1
     obtain ⟨b1,b2⟩:=takeC_spec hs
     rw[←a2]at b1 b2
     refine ⟨hf,by simp only[BoxS.conc];simp at b1;omega,KP.of ?_ rfl h⟩
     simp only[DC.conc,BoxS.conc]
     rw[←b2]
    ·exact h.elim
   ·exact h.elim
  ·exact h.elim
 ·rename_i b off sz k q hx
  obtain ⟨B,n,t,l,r,e1,_,hf,hs,hsz,hb,h'⟩:=segAt_spec h
  replace h:=h';clear h'
  simp only[hx,DC.conc,e1]
  split at h
  ·rename_i cs1 hs1
   split at h
   ·rename_i cs hs2
    obtain ⟨a1,a2⟩:=seekC_spec hs1
    obtain ⟨b1,b2⟩:=takeC_spec hs2
    have hlo:=hb.lo
    have hhi:=hb.hi
    simp only[OpsS.real]at hhi a1 a2 b1 b2
    subst hsz
    rw[elemS_conc]at a1 a2
    rw[←a2]at b1 b2
    have hlen:q+size≤t.size:=by simp[Ty.cells_length]at a1 b1;omega
    have hk:k.toNat<n:=by omega
    have h3:=seg_elem hs hk
    have h4:=(seg_get hs).1
    have h5:=elem_bound (s:=t.size) hk
    obtain ⟨c1,c2⟩:=take_sub (m:=size) h3 hlen (by omega)
    refine ⟨hf,c1,KP.of ?_ rfl h⟩
    simp only[DC.conc,BoxS.conc]
    rw[c2,b2]
   ·exact h.elim
  ·exact h.elim
 ·exact h.elim
theorem s_store {size:Nat} {a x:Operand} (h:wpOpS OpsS.real g C ρ st K (.store size a x)):wpOp D' (concE ρ) st.conc (KP K) (.store size a x):=by
 simp only[wpOpS]at h
 simp only[wpOp,evS_conc]
 obtain ⟨hsz,hone,h⟩:=h
 have hl:(cellsD (evS ρ x).conc).length=size:=by rw[cellsD_conc,concCs_length,hsz]
 have ho:(cellsD (evS ρ x).conc).all oneD=true:=by rw[cellsD_conc];exact allS_conc hone
 split at h
 ·rename_i b off hx
  simp only[hx,DC.conc]
  split at h
  ·rename_i B hB
   obtain ⟨hf,h⟩:=h
   rw[StS.box_get hB]
   split at h
   ·rename_i cs hs
    obtain ⟨a1,a2⟩:=replC_spec hs
    refine ⟨hf,hl,by simp only[BoxS.conc];omega,ho,KP.of (by simp[DC.conc]) ?_ h⟩
    rw[StS.conc_set]
    simp only[BoxS.conc,cellsD_conc,a2]
   ·exact h.elim
  ·exact h.elim
 ·rename_i b off sz k q hx
  obtain ⟨B,n,t,l,r,e1,e2,hf,hs,hz,hb,h'⟩:=segAt_spec h
  replace h:=h';clear h'
  simp only[hx,DC.conc,e1]
  split at h
  ·rename_i cs1 hs1
   split at h
   ·rename_i v hv
    split at h
    ·rename_i cs hu
     obtain ⟨a1,a2⟩:=replC_spec hs1
     have hlo:=hb.lo
     have hhi:=hb.hi
     simp only[OpsS.real]at hhi a1 a2 hu
     subst hz
     rw[elemS_conc]at a1 a2
     have hv:=toDen_spec hv
     rw[concCs_nil,List.append_nil]at hv
     rw[hv]at a2
     have hk:k.toNat<n:=by omega
     have hq:q+(concCs (cellsS (evS ρ x))).length≤t.size:=by rw[concCs_length];simpa [Ty.cells_length] using a1
     have h5:=elem_bound (s:=t.size) hk
     have hput:=arr_put (n:=n) hk hq a2
     obtain ⟨c1,c2⟩:=updC_spec hs hu (k.toNat*t.size+q) (concCs (cellsS (evS ρ x))) (by omega) hput
     rw[←Nat.add_assoc]at c1 c2
     rw[concCs_length,hsz]at c1
     refine ⟨hf,hl,by simp only[BoxS.conc];omega,ho,KP.of (by simp[DC.conc]) ?_ h⟩
     rw[StS.conc_set]
     simp only[BoxS.conc,cellsD_conc,c2]
    ·exact h.elim
   ·exact h.elim
  ·exact h.elim
 ·exact h.elim
end
end Go.Ab
namespace Go.Ab
open Go.RowKit
section
variable {g:Cfg} {C:CallS} {D':CallW} {ρ:EnvS} {st:StS} {K:DC→StS→Prop}
theorem og_conc {G:Nat} {t:Ty} {l:List t.den}:(if l.length=0 then D.p (.sl (some true) 0 []) else .grp G l.length (t.rows l))=(DC.og G t l).conc:=by
 cases l with
 | nil=>rfl
 | cons x r=>rfl
theorem srcS_P {t:Ty} {d:DC} {l:List t.den} {p:Prop} (h:srcS OpsS.real st t d=some (l,p)) (hp:p):∃ nl,srcP st.conc t.size d.conc=some (.sl nl l.length (t.rows l)):=by
 unfold srcS at h
 split at h
 ·rename_i b off sz lo n
  split at h
  ·rename_i B hB
   split at h
   ·cases h
   ·rename_i hf
    split at h
    ·rename_i N t' l0 r hs
     split at h
     ·rename_i l1 hl
      obtain ⟨rfl,hl⟩:=castL_eq hl
      obtain rfl:=eq_of_heq hl
      split at h
      ·rename_i hsz
       simp only[Option.some.injEq,Prod.mk.injEq]at h
       obtain ⟨rfl,rfl⟩:=h
       subst hsz
       have hp:=hp.h
       have hlo:loOf lo=lo.getD 0:=by cases lo <;> rfl
       simp only[OpsS.real]at hp ⊢
       rw[hlo]at hp ⊢
       simp only[DC.conc]
       generalize lo.getD 0=a at *
       obtain ⟨q1,q2⟩:=seg_get hs
       have hlen:(vwR t' N l0 a n).length=n:=by simp[vwR,Ty.norm_length];omega
       have hmul:(a+n)*t'.size≤N*t'.size:=Nat.mul_le_mul_right _ hp
       rw[Nat.add_mul]at hmul
       have hcut:((concCs B.cells).drop (off+a*t'.size)).take (n*t'.size)=(t'.rows (vwR t' N l0 a n)).map .p:=by
        rw[←List.drop_drop,q2,List.drop_append_of_le_length (by rw[arrCells_length];omega),List.take_append_of_le_length (by rw[List.length_drop,arrCells_length];omega)]
        rw[arrCells,←List.map_drop,←List.map_take,Ty.rows_drop,Ty.rows_take];rfl
       refine ⟨some false,?_⟩
       simp only[srcP,StS.box_get hB]
       rw[if_pos ⟨hf,by simp only[BoxS.conc];omega⟩]
       simp only[BoxS.conc,hcut,allP_map,Option.map_some,hlen]
      ·cases h
     ·cases h
    ·cases h
  ·cases h
 ·split at h
  ·rename_i l1 hl
   simp only[Option.some.injEq,Prod.mk.injEq]at h
   obtain ⟨rfl,rfl⟩:=h
   obtain ⟨nl,e1⟩:=asL_toP hl
   refine ⟨nl,?_⟩
   unfold srcP
   split
   ·rename_i he;rw[he]at e1;simp[toP]at e1
   ·exact e1
  ·cases h
theorem s_append {e:TypeId} {size bytes:Nat} {s x:Operand} (h:wpOpS OpsS.real g C ρ st K (.append e size bytes s x)):wpOp D' (concE ρ) st.conc (KP K) (.append e size bytes s x):=by
 simp only[wpOpS]at h
 simp only[wpOp,evS_conc]
 split at h
 · rename_i t ht
   obtain ⟨hsz,h⟩:=h
   split at h
   · rename_i l2 pl hl2
     obtain ⟨hpl,h⟩:=h
     obtain ⟨nl,e1⟩:=srcS_P hl2 hpl
     rw[hsz]at e1
     simp only[e1]
     have e0:(t.rows l2).length=l2.length*size:=by rw[Ty.rows_length,hsz]
     refine ⟨e0,?_⟩
     have nil : LIM l2.length bytes ∧ K (.og st.grp.length t l2) { st with grp := st.grp ++ [(l2.length * size, e)] } → l2.length * bytes ≤ 140737488355328 ∧ l2.length ≤ maxLen ∧
             ((if l2.length=0 then KP K (.p (.sl (some true) 0 [])) st.conc else KP K (.grp st.conc.grp.length l2.length (t.rows l2)) { st.conc with grp:=st.conc.grp ++ [((t.rows l2).length,e)] }) ∨
               (∃ (g:Nat) (st1:St),(st1=st.conc∨st1={ st.conc with grp:=st.conc.grp ++ [(0,e)] })∧st1.grp[g]? = some (0,e) ∧
                 KP K (if l2.length=0 then .p (.sl (some true) 0 []) else .grp g l2.length (t.rows l2)) { st1 with grp:=st1.grp.set g ((t.rows l2).length,e) }) ∨
               (0<l2.length∧KP K (.ms st.conc.box.length 0 l2.length) { st.conc with box:=st.conc.box ++ [{ cells:=(t.rows l2).map .p,e:=e,fz:=false,ap:=true }] })):=fun h=>by
       refine ⟨h.1.b,h.1.l,.inr (.inl ⟨st.conc.grp.length,_,.inr rfl,by simp,KP.of og_conc ?_ h.2⟩)⟩
       rw[e0];simp[StS.conc]
     unfold appS at h
     split at h
     · rename_i n c hs
       simp only[hs,DC.conc]
       exact nil h
     · rename_i t1 l1 hs
       simp only[hs,DC.conc]
       obtain ⟨h1,h2,h3⟩:=h
       refine ⟨h2.b,h2.l,.inr (.inr ⟨h1.h,KP.of ?_ ?_ h3⟩)⟩
       · simp[DC.conc,StS.box_len,OpsS.real]
       · simp[StS.conc,BoxS.conc,concCs_one,cellS,arrCells,Ty.norm_eq t rfl,OpsS.real]
     · rename_i G t' l hs
       split at h
       · rename_i l' hl
         obtain ⟨rfl,hl⟩:=castL_eq hl
         obtain rfl:=eq_of_heq hl
         split at h
         · rename_i cur e' hg
           obtain ⟨rfl,hcur,hlim,hK⟩:=h
           have hcur:=hcur.h
           simp only[OpsS.real]at hcur hlim hK
           rw[nthD_eq]at hg
           have hg':st.conc.grp[G]? = some (cur,e'):=hg
           cases l with
           | nil=>
             simp only[hs,DC.conc]
             simp only[List.length_nil,Nat.zero_mul,Nat.zero_add,List.nil_append]at hcur hlim hK
             subst hcur
             refine ⟨hlim.b,hlim.l,.inr (.inl ⟨G,st.conc,.inl rfl,hg',KP.of og_conc ?_ hK⟩)⟩
             rw[e0];rfl
           | cons y r=>
             simp only[hs,DC.conc]
             refine ⟨by rw[hg',hcur,Ty.rows_length,hsz],by rw[Ty.rows_length,hsz];rfl,hlim.b,hlim.l,KP.of ?_ ?_ hK⟩
             · simp only[List.cons_append,DC.conc,List.length_append,←Ty.rows_append]
               congr 1;omega
             · simp only[StS.conc,←Ty.rows_append,Ty.rows_length,hsz]
         · exact h.elim
       · exact h.elim
     · rename_i G t' l hs
       split at h
       · rename_i l' hl
         obtain ⟨rfl,hl⟩:=castL_eq hl
         obtain rfl:=eq_of_heq hl
         split at h
         · rename_i cur e' hg
           obtain ⟨rfl,hcur,hlim,hK⟩:=h
           have hcur:=hcur.h
           simp only[OpsS.real]at hcur hlim hK
           rw[nthD_eq]at hg
           have hg':st.conc.grp[G]? = some (cur,e'):=hg
           simp only[hs,DC.conc]
           refine ⟨by rw[hg',hcur,Ty.rows_length,hsz],by rw[Ty.rows_length,hsz],hlim.b,hlim.l,KP.of ?_ ?_ hK⟩
           · simp only[DC.conc,List.length_append,←Ty.rows_append]
           · simp only[StS.conc,←Ty.rows_append,Ty.rows_length,hsz]
         · exact h.elim
       · exact h.elim
     · rename_i b sz n hs
       simp only[hs,DC.conc]
       split at h
       · rename_i B hB
         obtain ⟨hf,hap,he,h⟩:=h
         split at h
         · rename_i N t' l hc
           split at h
           · rename_i l' hl
             obtain ⟨rfl,hl⟩:=castL_eq hl
             obtain rfl:=eq_of_heq hl
             obtain ⟨hle,hlim,hK⟩:=h
             have hle:=hle.h
             simp only[OpsS.real]at hlim hK
             have hBc:B.conc.cells=arrCells N t' l:=by simp[BoxS.conc,hc,concCs_one,cellS]
             rw[StS.box_get hB]
             refine ⟨by simp,hf,hap,he,?_,hlim.b,hlim.l,.inr (KP.of ?_ ?_ hK)⟩
             · rw[hBc,arrCells_length,hsz];exact Nat.mul_le_mul_right _ hle
             · simp only[DC.conc,StS.box_len];simp
             · have e2:B.conc.cells.take (n*size) ++ (t'.rows l2).map .p=arrCells (n+l2.length) t' (vwR t' N l 0 n ++ l2):=by
                 have h1:(vwR t' N l 0 n).length=n:=by simp[vwR,Ty.norm_length];omega
                 rw[hBc]
                 simp only[arrCells]
                 rw[Ty.norm_eq t' (l:=vwR t' N l 0 n ++ l2) (by simp[h1]),Ty.rows_append,List.map_append,←List.map_take,←hsz,Ty.rows_take]
                 simp[vwR]
               simp only[e2]
               simp[StS.conc,BoxS.conc,concCs_one,cellS,concCs_nil,List.map_set]
           · exact h.elim
         · exact h.elim
       · exact h.elim
     · exact h.elim
   · exact h.elim
 · exact h.elim
theorem sc_rows {t:Ty} {l:List t.den} {a b:Int} (h0:0≤a) (h1:a≤b) (h2:b≤l.length):(scR t l a b).length=b.toNat - a.toNat∧((t.rows l).take (b.toNat*t.size)).drop (a.toNat*t.size)=t.rows (scR t l a b):=by
 refine ⟨by simp[scR];omega,?_⟩
 rw[Ty.rows_take,Ty.rows_drop];rfl
theorem slice_pure {size:Nat} {t:Ty} (hsz:t.size=size) {l:List t.den} {lo hi:Option DC} {nl:Option Bool} {F:Int→Int→Prop} (hnn:¬ (lo=none∧hi=none))
  (h:bdS lo hi l.length F)
  {K':D→Prop} (hF:∀ a b,F a b→SLB a b l.length∧K' (.p (.sl nl (scR t l a b).length (t.rows (scR t l a b))))) :
  match lo.map DC.conc,hi.map DC.conc with
   | none,none=>False
   | some (.p (.v (.int _ a))),none=>0≤a∧a≤l.length∧(t.rows l).length=l.length*size∧K' (.p (.sl nl (l.length - a.toNat) ((t.rows l).drop (a.toNat*size))))
   | none,some (.p (.v (.int _ b)))=>0≤b∧b≤l.length∧(t.rows l).length=l.length*size∧K' (.p (.sl nl b.toNat ((t.rows l).take (b.toNat*size))))
   | some (.p (.v (.int _ a))),some (.p (.v (.int _ b)))=>0≤a∧a≤b∧b≤l.length∧(t.rows l).length=l.length*size ∧
     K' (.p (.sl nl (b.toNat - a.toNat) (((t.rows l).take (b.toNat*size)).drop (a.toNat*size))))
   | _,_=>False:=by
 subst hsz
 unfold bdS at h
 split at h
 ·rename_i k a
  obtain ⟨h1,h2⟩:=hF _ _ h
  obtain ⟨e1,e2⟩:=sc_rows h1.lo h1.le h1.hi
  have:=h1.lo;have:=h1.le
  simp only[Option.map_some,Option.map_none,DC.conc]
  refine ⟨by omega,by omega,Ty.rows_length _ _,?_⟩
  rw[←e2,e1,Int.toNat_natCast,List.take_of_length_le (by rw[Ty.rows_length];exact Nat.le_refl _)]at h2
  exact h2
 ·rename_i k b
  obtain ⟨h1,h2⟩:=hF _ _ h
  obtain ⟨e1,e2⟩:=sc_rows h1.lo h1.le h1.hi
  have:=h1.le;have:=h1.hi
  simp only[Option.map_some,Option.map_none,DC.conc]
  refine ⟨by omega,by omega,Ty.rows_length _ _,?_⟩
  rw[←e2,e1]at h2
  simpa using h2
 ·rename_i k a k' b
  obtain ⟨h1,h2⟩:=hF _ _ h
  obtain ⟨e1,e2⟩:=sc_rows h1.lo h1.le h1.hi
  simp only[Option.map_some,DC.conc]
  refine ⟨h1.lo,h1.le,h1.hi,Ty.rows_length _ _,?_⟩
  rw[←e2,e1]at h2
  exact h2
 ·exact h.elim
theorem conc_map (lo:Option Operand):lo.map (ev (concE ρ))=(lo.map (evS ρ)).map DC.conc:=by
 cases lo <;> simp[evS_conc]
theorem s_slice {size:Nat} {x:Operand} {lo hi:Option Operand} (h:wpOpS OpsS.real g C ρ st K (.slice size x lo hi)):wpOp D' (concE ρ) st.conc (KP K) (.slice size x lo hi):=by
 simp only[wpOpS]at h
 simp only[wpOp,evS_conc,conc_map]
 generalize hlo:lo.map (evS ρ)=l0 at *
 generalize hhi:hi.map (evS ρ)=h0 at *
 generalize evS ρ x=d at *
 unfold sliceS at h
 split at h
 ·simp only[Option.map_none]
  unfold slice1 at h
  split at h
  ·exact KP.of (by simp only[DC.conc]) rfl h
  ·rename_i G t l
   cases l with
   | nil=>exact KP.of (by simp only[DC.conc]) rfl h
   | cons y r=>exact KP.of (by simp only[DC.conc]) rfl h
  ·exact KP.of (by simp only[DC.conc]) rfl h
  ·exact KP.of (by simp only[DC.conc]) rfl h
  ·exact KP.of (by simp only[DC.conc]) rfl h
  ·exact h.elim
 ·rename_i hnn
  have hnn':¬ (l0=none∧h0=none):=fun hc=>hnn hc.1 hc.2
  unfold slice2 at h
  split at h
  ·rename_i nl t l
   obtain ⟨hsz,h⟩:=h
   have:=slice_pure (K':=fun d=>KP K d st.conc) (nl:=nl) hsz hnn' h (fun a b hF=>⟨hF.1,KP.of (by simp only[DC.conc];rfl) rfl hF.2⟩)
   simp only[DC.conc]
   generalize Option.map DC.conc l0=A at this ⊢
   generalize Option.map DC.conc h0=B at this ⊢
   split at this <;> first | exact this.elim | exact this
  ·rename_i G t l
   obtain ⟨hsz,h⟩:=h
   have:=slice_pure (K':=fun d=>KP K d st.conc) (nl:=some l.isEmpty) hsz hnn' h (fun a b hF=>⟨hF.1,KP.of (by simp only[DC.conc];rfl) rfl hF.2⟩)
   cases l with
   | nil=>
    simp only[DC.conc]
    generalize Option.map DC.conc l0=A at this ⊢
    generalize Option.map DC.conc h0=B at this ⊢
    split at this <;> first | exact this.elim | exact this
   | cons y r=>
    simp only[DC.conc]
    generalize Option.map DC.conc l0=A at this ⊢
    generalize Option.map DC.conc h0=B at this ⊢
    split at this <;> first | exact this.elim | exact this
  ·rename_i G t l
   obtain ⟨hsz,h⟩:=h
   have:=slice_pure (K':=fun d=>KP K d st.conc) (nl:=some false) hsz hnn' h (fun a b hF=>⟨hF.1,KP.of (by simp only[DC.conc];rfl) rfl hF.2⟩)
   simp only[DC.conc]
   generalize Option.map DC.conc l0=A at this ⊢
   generalize Option.map DC.conc h0=B at this ⊢
   split at this <;> first | exact this.elim | exact this
  ·rename_i b off sz lo0 n
   obtain ⟨rfl,hpos,h⟩:=h
   have lo_add:∀ a:Nat,off+lo0.getD 0*sz+a*sz=off+(loAdd OpsS.real lo0 a).getD 0*sz:=fun a=>by
    cases lo0 <;> simp[loAdd,OpsS.real,Nat.add_mul];omega
   simp only[DC.conc]
   unfold sliceM at h
   split at h
   ·rename_i k b1
    obtain ⟨hb,h⟩:=h
    have h1:=hb.le;have h2:=hb.hi
    simp only[Option.map_some,Option.map_none,DC.conc]
    exact ⟨h1,h2,KP.of (by simp only[DC.conc];rfl) rfl h⟩
   ·rename_i k a
    obtain ⟨hb,h⟩:=h
    simp only[Option.map_some,Option.map_none,DC.conc]
    exact ⟨hb.lo,hb.le,hpos,KP.of (by simp only[DC.conc];rw[←lo_add];rfl) rfl h⟩
   ·rename_i k a k' b1
    obtain ⟨hb,h⟩:=h
    simp only[Option.map_some,DC.conc]
    exact ⟨hb.lo,hb.le,hb.hi,hpos,KP.of (by simp only[DC.conc];rw[←lo_add];rfl) rfl h⟩
   ·exact h.elim
  ·rename_i nl
   have hk:∀ d:D,d=.p (.sl nl 0 [])→K (.p (.sl nl 0 [])) st→KP K d st.conc:=fun d hd h=>by
    subst hd;exact KP.of (by simp only[DC.conc]) rfl h
   simp only[DC.conc]
   unfold bdS at h
   split at h
   ·obtain ⟨hb,h⟩:=h
    simp only[Option.map_some,Option.map_none,DC.conc]
    exact ⟨hb.lo,hb.le,by simp,hk _ (by simp) h⟩
   ·obtain ⟨hb,h⟩:=h
    have h1:=hb.le
    have h2:=hb.hi
    simp only[Option.map_some,Option.map_none,DC.conc]
    refine ⟨h1,h2,by simp,hk _ ?_ h⟩
    rw[show ∀ b:Int,0≤b→b≤0→b.toNat=0 from fun b _ _=>by omega] <;> first | exact h1 | exact h2 | simp
   ·obtain ⟨hb,h⟩:=h
    have h1:=hb.lo
    have h2:=hb.le
    have h3:=hb.hi
    simp only[Option.map_some,DC.conc]
    refine ⟨h1,h2,h3,by simp,hk _ ?_ h⟩
    have hz:∀ a b:Int,a≤b→b≤0→b.toNat - a.toNat=0:=fun a b _ _=>by omega
    rw[hz _ _ h2 h3];simp
   ·exact h.elim
  ·exact h.elim
end
end Go.Ab
namespace Go.Ab
open Go.RowKit
theorem rows_replicate (t:Ty) (x:t.den):∀ n:Nat,t.rows (List.replicate n x)=(List.replicate n (t.cells x)).flatten
 | 0=>by simp[Ty.rows]
 | n+1=>by
  have:=rows_replicate t x n
  simp only[Ty.rows]at this ⊢
  rw[List.replicate_succ,List.flatMap_cons,this,List.replicate_succ,List.flatten_cons]
theorem map_flatten_replicate (zs:List PD):∀ n:Nat,(List.replicate n (zs.map D.p)).flatten=((List.replicate n zs).flatten).map .p
 | 0=>rfl
 | n+1=>by rw[List.replicate_succ,List.flatten_cons,map_flatten_replicate zs n,List.replicate_succ,List.flatten_cons,List.map_append]
abbrev tEnt (q:IntKind) (tv:Ty):Ty:=.pair (.int q) (.pair tv (.int .i64))
theorem tEnt_size (q:IntKind) (tv:Ty):(tEnt q tv).size=tv.size+2:=by simp[Ty.size];omega
theorem tEnt_cells (q:IntKind) (tv:Ty) (k:Int) (v:tv.den) (b:Int):(tEnt q tv).cells (k,v,b)=.v (.int q k) :: (tv.cells v ++ [.v (.int .i64 b)]):=rfl
theorem tEnt_rows (q:IntKind) (tv:Ty) (k:Int) (v:tv.den) (b:Int) (l:List (tEnt q tv).den) :
  ((tEnt q tv).rows ((k,v,b) :: l)).map D.p=.p (.v (.int q k)) :: ((tv.cells v).map .p ++ .p (.v (.int .i64 b)) :: ((tEnt q tv).rows l).map .p):=by
 show ((tEnt q tv).cells (k,v,b) ++ (tEnt q tv).rows l).map D.p=_
 rw[tEnt_cells];simp
theorem mapCells {n:Nat} {c:Int} {q:IntKind} {tv:Ty} {l:List (tEnt q tv).den}:concCs [.p (.v (.int .i64 c)),.arr n (tEnt q tv) l]=.p (.v (.int .i64 c)) :: arrCells n (tEnt q tv) l:=by
 rw[concCs_cons,concCs_cons,concCs_nil];simp[cellS,DC.conc]
theorem arr_eq {n:Nat} {t:Ty} {l:List t.den} (h:l.length=n):arrCells n t l=(t.rows l).map .p:=by rw[arrCells,Ty.norm_eq t h]
theorem mapS_inv {st:StS} {kk vv:Nat} {d:DC} {f:Nat→BoxS→Int→Nat→IntKind→(tv:Ty)→List (Int×tv.den×Int)→Prop} (h:mapS st kk vv d f) :
  ∃ b B c n q tv l,d=.mref b∧nthD st.box b=some B∧B.m=true∧B.ap=false∧kk=0∧B.e=1+vv∧vv<1000∧B.cells=[.p (.v (.int .i64 c)),.arr n (tEnt q tv) l]∧kw vv=tv.size∧f b B c n q tv l:=by
 unfold mapS at h
 split at h
 ·split at h
  ·rename_i b _ B hB
   obtain ⟨h1,h2,h3,h4,h5,h⟩:=h
   split at h
   ·rename_i c n q tv l hc
    exact ⟨b,B,c,n,q,tv,l,rfl,hB,h1,h2,h3,h4,h5,hc,h.1,h.2⟩
   ·exact h.elim
  ·exact h.elim
 ·exact h.elim
theorem mapBox_of {st:StS} {vv b:Nat} {B:BoxS} {F:Nat→Box→Prop} (hB:nthD st.box b=some B) (h1:B.m=true) (h2:B.ap=false) (h4:B.e=1+vv) (h5:vv<1000) (hF:F b B.conc):mapBox st.conc 0 vv (.mref b) F:=by
 simp only[mapBox,StS.box_get hB]
 exact ⟨h1,h2,by simpa [BoxS.conc] using h4,h5,hF⟩
theorem mlen {c:Int} {n vv:Nat} {q:IntKind} {tv:Ty} {l:List (tEnt q tv).den} (hv:kw vv=tv.size):((D.p (.v (.int .i64 c)) :: arrCells n (tEnt q tv) l).length - 1) / (kw vv+2)=n ∧
  ((D.p (.v (.int .i64 c)) :: arrCells n (tEnt q tv) l).length)=1+n*(kw vv+2):=by
 rw[List.length_cons,arrCells_length,tEnt_size,hv]
 refine ⟨?_,by omega⟩
 rw[Nat.add_sub_cancel]
 exact Nat.mul_div_cancel _ (by omega)
theorem MHas_or {α:Type} (l:List (Int×α×Int)) (k:Int):MNot l k∨∃ v b,MHas l k v b:=by
 induction l with
 | nil=>exact .inl fun e he=>by cases he
 | cons x l ih=>
  by_cases hx:x.1=k
  ·obtain ⟨a,v,b⟩:=x
   obtain rfl:a=k:=hx
   exact .inr ⟨v,b,[],l,rfl,fun e he=>by cases he⟩
  ·rcases ih with h | ⟨v,b,l1,l2,rfl,h⟩
   ·exact .inl fun e he=>by rcases List.mem_cons.1 he with rfl | he;exact hx;exact h e he
   ·exact .inr ⟨v,b,x :: l1,l2,rfl,fun e he=>by rcases List.mem_cons.1 he with rfl | he;exact hx;exact h e he⟩
theorem findD_not {q:IntKind} {tv:Ty} {k:Int}:∀ (l:List (tEnt q tv).den) (i:Nat),MNot l k→findD (tv.size+1) (.int q k) l.length (((tEnt q tv).rows l).map .p) i=some none
 | [],i,_=>rfl
 | (a,v,b) :: l,i,h=>by
  have ha:¬ k=a:=fun e=>h (a,v,b) (by simp) e.symm
  rw[tEnt_rows,List.length_cons]
  unfold findD
  simp only[sEqK,if_true,beq_eq_false_iff_ne.2 ha]
  have:((tv.cells v).map D.p ++ D.p (.v (.int .i64 b)) :: ((tEnt q tv).rows l).map .p).drop (tv.size+1)=((tEnt q tv).rows l).map .p:=by
   rw[←List.drop_drop,List.drop_left' (by simp[Ty.cells_length])];rfl
  rw[this]
  exact findD_not l (i+1) fun e he=>h e (List.mem_cons_of_mem _ he)
theorem findD_has {q:IntKind} {tv:Ty} {k:Int} {v:tv.den} {b:Int} {l2:List (tEnt q tv).den}:∀ (l1:List (tEnt q tv).den) (i:Nat),(∀ e∈l1,e.1≠k) →
  findD (tv.size+1) (.int q k) (l1 ++ (k,v,b) :: l2).length (((tEnt q tv).rows (l1 ++ (k,v,b) :: l2)).map .p) i=some (some (i+l1.length,(tv.cells v).map .p ++ .p (.v (.int .i64 b)) :: ((tEnt q tv).rows l2).map .p))
 | [],i,_=>by
  rw[List.nil_append,tEnt_rows,List.length_cons]
  unfold findD
  simp[sEqK]
 | (a,v',b') :: l1,i,h=>by
  have ha:¬ k=a:=fun e=>h (a,v',b') (by simp) e.symm
  rw[List.cons_append,tEnt_rows,List.length_cons]
  unfold findD
  simp only[sEqK,if_true,beq_eq_false_iff_ne.2 ha]
  have:((tv.cells v').map D.p ++ D.p (.v (.int .i64 b')) :: ((tEnt q tv).rows (l1 ++ (k,v,b) :: l2)).map .p).drop (tv.size+1)=((tEnt q tv).rows (l1 ++ (k,v,b) :: l2)).map .p:=by
   rw[←List.drop_drop,List.drop_left' (by simp[Ty.cells_length])];rfl
  rw[this,findD_has l1 (i+1) fun e he=>h e (List.mem_cons_of_mem _ he)]
  simp only[List.length_cons]
  rw[show i+1+l1.length=i+(l1.length+1) by omega]
theorem valK_real {V:Nat} {tv:Ty} {v:tv.den} {K:DC→Prop} (hv:kw V=tv.size) (h:valK OpsS.real V tv v K) (r:List D):∃ x,K x∧valD V ((tv.cells v).map .p ++ r)=x.conc:=by
 cases V with
 | zero=>
  have h:KC (headC (elemS .real tv v)) K:=h
  have hl:=congrArg List.length (elemS_map tv v)
  simp only[List.length_map,Ty.cells_length,←hv,kw]at hl
  have e:=elemS_map tv v
  match hes:elemS .real tv v,hl with
  | [c],_=>
   rw[hes]at h e
   obtain ⟨_,x,hx,hk⟩:=KC_real (K':=fun D=>∃ x,D=x.conc∧K x) (fun x hx=>⟨x,rfl,hx⟩) h
   refine ⟨x,hk,?_⟩
   rw[←e,←hx];rfl
 | succ n=>
  have h:K (.agg (elemS .real tv v)):=h
  refine ⟨_,h,?_⟩
  have hn:n=tv.size:=hv
  simp only[valD,DC.conc]
  rw[elemS_conc,List.take_left' (by simp[Ty.cells_length,hn])]
theorem zeroV_real {V:Nat} {zero:List D} {K:DC→Prop} (h:zeroV V zero K):∃ x,K x∧valD V zero=x.conc:=by
 unfold zeroV at h
 split at h
 ·rename_i z hz
  have hc:=zeroS_conc hz
  obtain ⟨hl,h⟩:=h
  cases V with
  | zero=>
   refine ⟨_,h,?_⟩
   match zero,hl,hz with
   | [.p x],_,hz=>simp only[zeroS,Option.some.injEq]at hz;subst hz;simp[valD,headC,DC.conc]
   | [.grp _ _ _],_,hz=>simp[zeroS]at hz
  | succ n=>
   refine ⟨_,h,?_⟩
   have hn:zero.length=n:=hl
   simp only[valD,DC.conc,hc]
   rw[List.take_of_length_le (by omega)]
 ·exact h.elim
theorem lkS_conc (ok b:Bool) (d:DC):(lkS ok b d).conc=if ok=true then mkTup [d.conc,.p (.v (.bool b))] else d.conc:=by
 cases ok
 ·rfl
 ·simp[lkS,DC.conc,concL]
theorem putCells_mid {A X C new:List D} (h:X.length=new.length):putCells (A ++ X ++ C) A.length new=A ++ new ++ C:=by
 unfold putCells
 have e1:(A ++ X ++ C).take A.length=A:=by rw[List.append_assoc,List.take_left' rfl]
 have e2:(A ++ X ++ C).drop (A.length+new.length)=C:=by rw[←h,←List.length_append,List.drop_left' rfl]
 rw[e1,e2]
theorem natD_int {c:Int} (h:0≤c):natD (.p (.v (.int .i64 c)))=some c.toNat:=by simp[natD,h]
theorem intD_nat {c:Int} (h:0≤c):intD c.toNat=.p (.v (.int .i64 c)):=by simp only[intD,Int.toNat_of_nonneg h]
theorem natsD_rows:∀ (sn:List Int),(∀ b∈sn,0≤b)→natsD (((Ty.int .i64).rows sn).map .p)=some (sn.map Int.toNat)
 | [],_=>rfl
 | b :: sn,h=>by
  show natsD (.p (.v (.int .i64 b)) :: ((Ty.int .i64).rows sn).map .p)=_
  have h1:=natD_int (h b (by simp))
  have h2:=natsD_rows sn fun x hx=>h x (by simp[hx])
  simp only[natsD,h1,h2,List.map_cons]
def entQ (q:IntKind) (tv:Ty) (e:(tEnt q tv).den):List D×Nat:=(.p (.v (.int q e.1)) :: (tv.cells e.2.1).map .p,e.2.2.toNat)
theorem entsD_rows {q:IntKind} {tv:Ty}:∀ (l:List (tEnt q tv).den),(∀ e∈l,0≤e.2.2)→entsD (1+tv.size) l.length (((tEnt q tv).rows l).map .p)=some (l.map (entQ q tv))
 | [],_=>rfl
 | (k,v,b) :: l,h=>by
  have ih:=entsD_rows l fun x hx=>h x (by simp[hx])
  have h1:=natD_int (h (k,v,b) (by simp))
  rw[tEnt_rows,List.length_cons]
  have e1:(D.p (.v (.int q k)) :: ((tv.cells v).map .p ++ .p (.v (.int .i64 b)) :: ((tEnt q tv).rows l).map .p)).drop (1+tv.size)=.p (.v (.int .i64 b)) :: ((tEnt q tv).rows l).map .p:=by
   rw[Nat.add_comm,List.drop_succ_cons,List.drop_left' (by simp[Ty.cells_length])]
  have e2:(D.p (.v (.int q k)) :: ((tv.cells v).map .p ++ .p (.v (.int .i64 b)) :: ((tEnt q tv).rows l).map .p)).take (1+tv.size)=.p (.v (.int q k)) :: (tv.cells v).map .p:=by
   rw[Nat.add_comm,List.take_succ_cons,List.take_left' (by simp[Ty.cells_length])]
  have e3:(D.p (.v (.int q k)) :: ((tv.cells v).map .p ++ .p (.v (.int .i64 b)) :: ((tEnt q tv).rows l).map .p)).drop (1+tv.size+1)=((tEnt q tv).rows l).map .p:=by
   rw[←List.drop_drop,e1];rfl
  simp only[entsD,e1,e2,e3,List.headD_cons,h1,ih,List.map_cons]
  rfl
section
variable {g:Cfg} {ρ:EnvS} {st:StS} {K:DC→StS→Prop}
theorem set_conc {st:StS} {b:Nat} {B:BoxS} {cs:List DC} {ds:List D} (h:concCs cs=ds):({ st with box:=st.box.set b { B with cells:=cs } }:StS).conc={ st.conc with box:=st.conc.box.set b { B.conc with cells:=ds } }:=by
 subst h
 simp[StS.conc,List.map_set,BoxS.conc]
theorem push_conc {st:StS} {B:BoxS}:({ st with box:=st.box ++ [B] }:StS).conc={ st.conc with box:=st.conc.box ++ [B.conc] }:=by simp[StS.conc]
theorem m_look {ok:Bool} {V:Nat} {zero:List D} {x i:Operand} (h:wpMS OpsS.real g ρ st K (.look ok V zero x i)):wpM (concE ρ) st.conc (KP K) (.look ok V zero x i):=by
 simp only[wpMS]at h
 split at h
 ·rename_i q k hi
  have ei:ev (concE ρ) i=.p (.v (.int q k)):=by rw[evS_conc,hi];rfl
  simp only[wpM,ei]
  split at h
  ·rename_i hx
   have ex:ev (concE ρ) x=.p (.v (.map none)):=by rw[evS_conc,hx];rfl
   simp only[ex]
   obtain ⟨y,hy,e⟩:=zeroV_real h
   rw[e]
   exact .of (lkS_conc ok false y).symm rfl hy
  ·obtain ⟨b,B,c,n,q',tv,l,hd,hB,h1,h2,_,h4,h5,hc,hv,rfl,hl⟩:=mapS_inv h
   have ex:ev (concE ρ) x=.mref b:=by rw[evS_conc,hd];rfl
   have ec:B.conc.cells=.p (.v (.int .i64 c)) :: arrCells n (tEnt q' tv) l:=by simp only[BoxS.conc,hc];exact mapCells
   simp only[ex]
   refine mapBox_of hB h1 h2 h4 h5 ?_
   rw[ec,(mlen hv).1,List.drop_succ_cons,List.drop_zero,arr_eq hl.nl,←hl.nl,hv]
   rcases MHas_or l k with hn | ⟨v,b',hh⟩
   ·rw[findD_not l 0 hn]
    obtain ⟨y,hy,e⟩:=zeroV_real (hl.z hn)
    show KP K _ _
    rw[e]
    exact .of (lkS_conc ok false y).symm rfl hy
   ·have hs:=hl.s v b' hh
    obtain ⟨l1,l2,rfl,hne⟩:=hh
    rw[findD_has l1 0 hne]
    obtain ⟨y,hy,e⟩:=valK_real hv hs (.p (.v (.int .i64 b')) :: ((tEnt q' tv).rows l2).map .p)
    show _∧KP K _ _
    rw[e]
    refine ⟨by simp[Ty.cells_length],.of (lkS_conc ok true y).symm rfl hy⟩
 ·exact h.elim
theorem toDen_arr {n:Nat} {t':Ty} {l:List t'.den} {r:List DC}:∀ t:Ty,toDen t (.arr n t' l :: r)=none
 | .int _=>rfl
 | .bool=>rfl
 | .sl _=>rfl
 | .pair a b=>by simp only[toDen,toDen_arr a]
theorem notAgg_cells {d:DC} (h:wpMS.isAggM d=false) (hn:∀ n t l,d≠.arr n t l):cellsD d.conc=[d.conc]:=by
 rw[cellsD_conc]
 have:cellsS d=[d]:=by
  unfold wpMS.isAggM at h
  split at h
  ·cases h
  ·cases h
  ·rename_i h1 h2
   unfold cellsS
   split
   ·exact absurd rfl (h1 _)
   ·exact absurd rfl (h2 _)
   ·rfl
 rw[this,concCs_one,cellS_of hn]
theorem m_upd {V:Nat} {x kx vx:Operand} (h:wpMS OpsS.real g ρ st K (.upd V x kx vx)):wpM (concE ρ) st.conc (KP K) (.upd V x kx vx):=by
 simp only[wpMS]at h
 split at h
 ·rename_i q k hi
  have ei:ev (concE ρ) kx=.p (.v (.int q k)):=by rw[evS_conc,hi];rfl
  simp only[wpM,ei]
  obtain ⟨b,B,c,n,q',tv,l,hd,hB,h1,h2,_,h4,h5,hc,hv,rfl,hag,hl⟩:=mapS_inv h
  have ex:ev (concE ρ) x=.mref b:=by rw[evS_conc,hd];rfl
  have ec:B.conc.cells=.p (.v (.int .i64 c)) :: arrCells n (tEnt q' tv) l:=by simp only[BoxS.conc,hc];exact mapCells
  simp only[ex]
  split at hl
  ·rename_i v hden
   have e3:=toDen_spec hden
   rw[concCs_nil,List.append_nil]at e3
   have e4:cellsD (ev (concE ρ) vx)=(tv.cells v).map .p:=by rw[evS_conc,cellsD_conc,e3]
   refine mapBox_of hB h1 h2 h4 h5 ⟨?_,?_,?_,?_,?_⟩
   ·rw[evS_conc]at e4 ⊢
    generalize evS ρ vx=d at *
    cases V with
    | zero=>
     have hone:(tv.cells v).length=1:=by rw[Ty.cells_length,←hv];rfl
     obtain ⟨y,hy⟩:=List.length_eq_one_iff.1 hone
     have hp:=Ty.cells_one tv v y (by rw[hy];simp)
     rw[hy]at e4
     have e5:=notAgg_cells hag (fun n t l e=>by subst e;simp only[cellsS,toDen_arr]at hden;cases hden)
     rw[e5]at e4
     have e6:d.conc=.p y:=by simpa using e4
     show oneD d.conc=true
     rw[e6];exact hp
    | succ m=>
     have hag:wpMS.isAggM d=true:=hag
     unfold wpMS.isAggM at hag
     split at hag
     ·simp only[DC.conc,mkAgg];split <;> rfl
     ·simp only[DC.conc];rfl
     ·cases hag
   ·rw[e4,List.length_map,Ty.cells_length,hv]
   ·rw[e4,List.all_map,List.all_eq_true]
    exact fun y hy=>Ty.cells_one tv v y hy
   ·rw[ec,(mlen hv).2,Nat.add_sub_cancel_left,Nat.mul_div_cancel _ (by omega)]
   ·rw[ec,(mlen hv).1,List.drop_succ_cons,List.drop_zero,arr_eq hl.nl,←hl.nl,hv]
    rcases MHas_or l k with hn | ⟨v0,b',hh⟩
    ·rw[findD_not l 0 hn]
     show match natD (D.p (.v (.int .i64 c))) with | some c=>_ | none=>False
     rw[natD_int hl.c0]
     have hs:=hl.s _ _ _ (.inr ⟨hn,rfl,rfl⟩) rfl
     refine .of rfl ?_ hs
     rw[set_conc mapCells,arr_eq (t:=tEnt q' tv) rfl]
     congr 3
     rw[e4,Ty.rows_append,List.map_append,intD_nat hl.c0]
     have:(intD (c.toNat+1))=.p (.v (.int .i64 (c+1))):=by simp only[intD,Int.natCast_add,Int.toNat_of_nonneg hl.c0];rfl
     rw[this]
     show _=_ :: (_ ++ ((tEnt q' tv).rows [(k,v,c)]).map D.p)
     rw[tEnt_rows]
     simp
    ·obtain ⟨l1,l2,rfl,hne⟩:=hh
     rw[findD_has l1 0 hne]
     have hs:=hl.s _ _ _ (.inl ⟨l1,v0,b',l2,rfl,hne,rfl,rfl⟩) rfl
     refine .of rfl ?_ hs
     rw[set_conc mapCells,arr_eq (t:=tEnt q' tv) rfl]
     congr 3
     rw[e4,Ty.rows_append,List.map_append,tEnt_rows,Ty.rows_append,List.map_append,tEnt_rows]
     have e5:D.p (.v (.int .i64 c)) :: (((tEnt q' tv).rows l1).map D.p ++ D.p (.v (.int q' k)) :: ((tv.cells v0).map .p ++ .p (.v (.int .i64 b')) :: ((tEnt q' tv).rows l2).map .p)) =
      (D.p (.v (.int .i64 c)) :: (((tEnt q' tv).rows l1).map D.p ++ [D.p (.v (.int q' k))])) ++ (tv.cells v0).map .p ++ (.p (.v (.int .i64 b')) :: ((tEnt q' tv).rows l2).map .p):=by simp
     have e6:2+(0+l1.length)*(tv.size+2)=(D.p (.v (.int .i64 c)) :: (((tEnt q' tv).rows l1).map D.p ++ [D.p (.v (.int q' k))])).length:=by
      have hrl:((tEnt q' tv).rows l1).length=l1.length*(tv.size+2):=by rw[Ty.rows_length,tEnt_size]
      simp only[List.length_cons,List.length_append,List.length_map,hrl,List.length_nil,Nat.zero_add];omega
     rw[e5,e6,putCells_mid (by simp[Ty.cells_length])]
     simp
  ·exact hl.elim
 ·exact h.elim
theorem m_del {V:Nat} {x kx:Operand} (h:wpMS OpsS.real g ρ st K (.del V x kx)):wpM (concE ρ) st.conc (KP K) (.del V x kx):=by
 simp only[wpMS]at h
 split at h
 ·rename_i q k hi
  have ei:ev (concE ρ) kx=.p (.v (.int q k)):=by rw[evS_conc,hi];rfl
  simp only[wpM,ei]
  obtain ⟨b,B,c,n,q',tv,l,hd,hB,h1,h2,_,h4,h5,hc,hv,rfl,hl⟩:=mapS_inv h
  have ex:ev (concE ρ) x=.mref b:=by rw[evS_conc,hd];rfl
  have ec:B.conc.cells=.p (.v (.int .i64 c)) :: arrCells n (tEnt q' tv) l:=by simp only[BoxS.conc,hc];exact mapCells
  simp only[ex]
  refine mapBox_of hB h1 h2 h4 h5 ⟨?_,?_⟩
  ·rw[ec,(mlen hv).2,Nat.add_sub_cancel_left,Nat.mul_div_cancel _ (by omega)]
  ·rw[ec,(mlen hv).1,List.drop_succ_cons,List.drop_zero,arr_eq hl.nl,←hl.nl,hv]
   rcases MHas_or l k with hn | ⟨v0,b',hh⟩
   ·rw[findD_not l 0 hn]
    have hs:=hl.s _ _ (.inr ⟨hn,rfl⟩) rfl
    refine .of rfl ?_ hs
    rw[set_conc mapCells,arr_eq (t:=tEnt q' tv) rfl,←arr_eq hl.nl,←ec]
    have:st.conc.box[b]? = some B.conc:=StS.box_get hB
    show st.conc={ st.conc with box:=st.conc.box.set b B.conc }
    obtain ⟨hlt,he⟩:=List.getElem?_eq_some_iff.1 this
    rw[←he,List.set_getElem_self]
   ·obtain ⟨l1,l2,rfl,hne⟩:=hh
    rw[findD_has l1 0 hne]
    have hs:=hl.s _ _ (.inl ⟨l1,v0,b',l2,rfl,hne,rfl⟩) rfl
    refine .of rfl ?_ hs
    rw[set_conc mapCells,arr_eq (t:=tEnt q' tv) rfl]
    congr 3
    have e6:(0+l1.length)*(tv.size+2)=(((tEnt q' tv).rows l1).map D.p).length:=by
     have hrl:((tEnt q' tv).rows l1).length=l1.length*(tv.size+2):=by rw[Ty.rows_length,tEnt_size]
     simp only[List.length_map,hrl,Nat.zero_add]
    have e7:(0+l1.length+1)*(tv.size+2)=((((tEnt q' tv).rows l1).map D.p) ++ ((tEnt q' tv).cells (k,v0,b')).map D.p).length:=by
     have hrl:((tEnt q' tv).rows l1).length=l1.length*(tv.size+2):=by rw[Ty.rows_length,tEnt_size]
     have hcl:((tEnt q' tv).cells (k,v0,b')).length=tv.size+2:=by rw[Ty.cells_length,tEnt_size]
     simp only[List.length_map,List.length_append,hrl,hcl,Nat.zero_add,Nat.add_mul,Nat.one_mul]
    rw[Ty.rows_append,List.map_append,Ty.rows_append,List.map_append,Nat.add_comm 1,List.take_succ_cons,Nat.add_comm 1,List.drop_succ_cons,e6,e7,List.take_left' rfl]
    show _ :: _ ++ (((tEnt q' tv).rows l1).map D.p ++ ((tEnt q' tv).cells (k,v0,b') ++ (tEnt q' tv).rows l2).map D.p).drop _=_
    rw[List.map_append,←List.append_assoc,List.drop_left' rfl];rfl
 ·exact h.elim
theorem iterS_inv {kk vv:Nat} {d:DC} {f:Nat→BoxS→Nat→Int→Int→Nat→List Int→Int→Nat→IntKind→(tv:Ty)→List (Int×tv.den×Int)→Prop} (h:iterS st kk vv d f) :
  ∃ i I b s lt ns sn B c n q tv l,d=.ptr i 0∧nthD st.box i=some I∧I.m=true∧I.ap=false∧I.e=0∧I.cells=[.mref b,.p (.v (.int .i64 s)),.p (.v (.int .i64 lt)),.arr ns (.int .i64) sn] ∧
   nthD st.box b=some B∧B.m=true∧B.ap=false∧kk=0∧B.e=1+vv∧vv<1000∧B.cells=[.p (.v (.int .i64 c)),.arr n (tEnt q tv) l]∧kw vv=tv.size∧f i I b s lt ns sn c n q tv l:=by
 unfold iterS at h
 split at h
 ·split at h
  ·rename_i i _ I hI
   obtain ⟨h1,h2,h3,h⟩:=h
   split at h
   ·rename_i b s lt ns sn hc
    obtain ⟨b',B,c,n,q,tv,l,hd,r⟩:=mapS_inv h
    simp only[DC.mref.injEq]at hd
    subst hd
    exact ⟨i,I,b,s,lt,ns,sn,B,c,n,q,tv,l,rfl,hI,h1,h2,h3,hc,r⟩
   ·exact h.elim
  ·exact h.elim
 ·exact h.elim
theorem iterCells {b ns:Nat} {s lt:Int} {sn:List Int} (h:sn.length=ns):concCs [.mref b,.p (.v (.int .i64 s)),.p (.v (.int .i64 lt)),.arr ns (.int .i64) sn]=.mref b :: .p (.v (.int .i64 s)) :: .p (.v (.int .i64 lt)) :: ((Ty.int .i64).rows sn).map .p:=by
 simp only[concCs_cons,concCs_nil,cellS,DC.conc,arr_eq (t:=.int .i64) h,List.append_nil,List.singleton_append]
theorem getLast_toNat {sn:List Int} {b:Int} (h:sn.getLast? = some b):(sn.map Int.toNat).getLast? = some b.toNat:=by simp[List.getLast?_map,h]
theorem m_nxt {kk vv:Nat} {x:Operand} (h:wpMS OpsS.real g ρ st K (.nxt kk vv x)):wpM (concE ρ) st.conc (KP K) (.nxt kk vv x):=by
 simp only[wpMS]at h
 obtain ⟨i,I,b,s,lt,ns,sn,B,c,n,q,tv,l,hd,hI,i1,i2,i3,ic,hB,h1,h2,rfl,h4,h5,hc,hv,hx⟩:=iterS_inv h
 have ex:ev (concE ρ) x=.ptr i 0:=by rw[evS_conc,hd];rfl
 have ec:B.conc.cells=.p (.v (.int .i64 c)) :: arrCells n (tEnt q tv) l:=by simp only[BoxS.conc,hc];exact mapCells
 have eI:I.conc.cells=.mref b :: .p (.v (.int .i64 s)) :: .p (.v (.int .i64 lt)) :: ((Ty.int .i64).rows sn).map .p:=by simp only[BoxS.conc,ic];exact iterCells hx.nsl
 have hc0:0≤c:=by have:=hx.cl;omega
 simp only[wpM,ex,StS.box_get hI]
 refine ⟨i1,i2,i3,?_⟩
 rw[eI]
 refine mapBox_of hB h1 h2 h4 h5 ?_
 have e0:kw 0+kw vv=1+tv.size:=by rw[hv];rfl
 have e1:kw 0+kw vv+1=kw vv+2:=by simp[kw];omega
 rw[ec]
 rw[e1,(mlen hv).1]
 simp only[List.headD_cons,List.drop_succ_cons,List.drop_zero,natD_int hc0,natD_int hx.cl.2.1,←hx.cl.1,e0,arr_eq hx.nl,natsD_rows sn hx.p]
 rw[←hx.nl,entsD_rows l fun e he=>(hx.b e he).1]
 refine ⟨rfl,by have:=hx.cl;omega,?_,?_,?_⟩
 ·intro e he
  obtain ⟨e',he',rfl⟩:=List.mem_map.1 he
  have:=hx.b e' he'
  simp only[entQ];omega
 ·intro ha
  have:∀ e∈l,e.2.2∈sn:=fun e he=>by
   have h1:=List.all_eq_true.1 ha (entQ q tv e) (List.mem_map_of_mem he)
   simp only[entQ,List.contains_iff_mem,List.mem_map]at h1
   obtain ⟨b',hb',e'⟩:=h1
   have:=hx.p b' hb'
   have:=(hx.b e he).1
   have:b'=e.2.2:=by omega
   exact this ▸ hb'
  exact .of rfl rfl (hx.z this)
 ·intro e he hn
  obtain ⟨⟨k,v,b'⟩,he',rfl⟩:=List.mem_map.1 he
  have hb0:0≤b':=(hx.b _ he').1
  have hnb:b'∉sn:=fun hm=>by
   have:(sn.map Int.toNat).contains b'.toNat=true:=List.contains_iff_mem.2 (List.mem_map_of_mem hm)
   simp only[entQ]at hn
   rw[hn]at this;cases this
  obtain ⟨y,hy,ey⟩:=valK_real hv (hx.st k v b' he' hnb _ _ rfl rfl) []
  refine .of ?_ ?_ hy
  ·simp only[DC.conc,List.map_cons,List.map_nil,concL]
   rw[←ey]
   simp[entQ,valD,kw]
  ·rw[set_conc (iterCells rfl)]
   congr 3
   rw[Ty.rows_append,List.map_append]
   have hcl:=hx.cl.1
   subst hcl
   simp[entQ,intD_nat hb0,Ty.cells]
theorem m_ent {kk vv:Nat} {x:Operand} (h:wpMS OpsS.real g ρ st K (.ent kk vv x)):wpM (concE ρ) st.conc (KP K) (.ent kk vv x):=by
 simp only[wpMS]at h
 obtain ⟨i,I,b,s,lt,ns,sn,B,c,n,q,tv,l,hd,hI,i1,i2,i3,ic,hB,h1,h2,rfl,h4,h5,hc,hv,hx⟩:=iterS_inv h
 have ex:ev (concE ρ) x=.ptr i 0:=by rw[evS_conc,hd];rfl
 have ec:B.conc.cells=.p (.v (.int .i64 c)) :: arrCells n (tEnt q tv) l:=by simp only[BoxS.conc,hc];exact mapCells
 have eI:I.conc.cells=.mref b :: .p (.v (.int .i64 s)) :: .p (.v (.int .i64 lt)) :: ((Ty.int .i64).rows sn).map .p:=by simp only[BoxS.conc,ic];exact iterCells hx.nsl
 simp only[wpM,ex,StS.box_get hI]
 refine ⟨i1,i2,i3,?_⟩
 rw[eI]
 refine mapBox_of hB h1 h2 h4 h5 ?_
 have e0:kw 0+kw vv=1+tv.size:=by rw[hv];rfl
 have e1:kw 0+kw vv+1=kw vv+2:=by simp[kw];omega
 rw[ec]
 rw[e1,(mlen hv).1]
 simp only[List.headD_cons,List.drop_succ_cons,List.drop_zero,natD_int hx.cl.2,←hx.cl.1,e0,arr_eq hx.nl,natsD_rows sn hx.p]
 rw[←hx.nl,entsD_rows l hx.b]
 refine ⟨rfl,?_⟩
 obtain ⟨k,v,b',hl,hf,hk⟩:=hx.e
 rw[getLast_toNat hl]
 have hb0:0≤b':=hx.p b' (List.mem_of_getLast? hl)
 have hfind:(l.map (entQ q tv)).find? (fun e=>e.2 == b'.toNat)=some (entQ q tv (k,v,b')):=by
  have gen:∀ l:List (tEnt q tv).den,(∀ e∈l,0≤e.2.2)→l.find? (fun e=>e.2.2 == b')=some (k,v,b')→(l.map (entQ q tv)).find? (fun e=>e.2 == b'.toNat)=some (entQ q tv (k,v,b')):=by
   intro l
   induction l with
   | nil=>intro _ h;cases h
   | cons e l ih=>
    intro hb h
    rw[List.map_cons,List.find?_cons]
    rw[List.find?_cons]at h
    cases he:(e.2.2 == b') with
    | true=>
     rw[he]at h
     simp only[Option.some.injEq]at h
     subst h
     simp[entQ]
    | false=>
     rw[he]at h
     have:((entQ q tv e).2 == b'.toNat)=false:=by
      have h0:=hb e (by simp)
      simp only[entQ,beq_eq_false_iff_ne,ne_eq]at he ⊢
      intro e'
      apply he
      have h1:=Int.toNat_of_nonneg h0
      have h2:=Int.toNat_of_nonneg hb0
      rw[←h1,←h2,e']
     simp only[this]
     exact ih (fun x hx=>hb x (by simp[hx])) h
  exact gen l hx.b hf
 show match (l.map (entQ q tv)).find? _ with | some q=>_ | none=>False
 rw[hfind]
 obtain ⟨y,hy,ey⟩:=valK_real hv hk []
 refine .of ?_ rfl hy
 simp only[DC.conc,List.map_cons,List.map_nil,concL]
 rw[←ey]
 simp[entQ,valD,kw]
theorem m_frz {size:Nat} {x:Operand} (h:wpMS OpsS.real g ρ st K (.frz size x)):wpM (concE ρ) st.conc (KP K) (.frz size x):=by
 simp only[wpMS]at h
 split at h
 ·rename_i b sz n hx
  split at h
  ·rename_i B hB
   obtain ⟨hf,hm,rfl,h⟩:=h
   split at h
   ·rename_i N t l hc
    obtain ⟨hs,hl,h⟩:=h
    have hl:=hl.h
    have ex:ev (concE ρ) x=.ms b 0 n:=by rw[evS_conc,hx];simp[DC.conc]
    have eB:st.conc.box[b]? = some B.conc:=by
     show (st.box.map BoxS.conc)[b]? = _
     rw[List.getElem?_map,←nthD_eq,hB];rfl
    have ec:B.conc.cells=(t.rows (t.norm N l)).map .p:=by
     show concCs B.cells=_
     rw[hc];simp[concCs_cons,concCs_nil,cellS,arrCells]
    have et:B.conc.cells.take (n*sz)=(t.rows ((t.norm N l).take n)).map .p:=by
     rw[ec,←List.map_take,←hs,Ty.rows_take]
    have ea:allP (B.conc.cells.take (n*sz))=some (t.rows ((t.norm N l).take n)):=by rw[et];exact allP_map _
    simp only[wpM,ex,eB]
    refine ⟨hf,hm,?_⟩
    rw[ea]
    refine .of ?_ ?_ h
    ·show _=(DC.tl (some false) t (vwR t N l 0 n)).conc
     simp only[DC.conc,vwR,List.drop_zero]
     rw[List.length_take,Ty.norm_length,Nat.min_eq_left hl]
    ·rw[StS.conc_set]
     simp[BoxS.conc,concCs_nil]
   ·exact h.elim
  ·exact h.elim
 ·exact h.elim
theorem m_ldF {size k esz i:Nat} {x:Operand} (h:wpMS OpsS.real g ρ st K (.ldF size k esz i x)):wpM (concE ρ) st.conc (KP K) (.ldF size k esz i x):=by
 simp only[wpMS]at h
 split at h
 ·rename_i b hx
  split at h
  ·rename_i B A hB hA
   obtain ⟨hf,hm,hAf,hAm,hib,h⟩:=h
   have hne:i≠b:=fun e=>by subst e;simp at hib
   split at h
   ·rename_i pc j sz n N t l hc hcA
    obtain ⟨rfl,rfl,rfl,rfl,hs,hl,h⟩:=h
    have hl:=hl.h
    have ex:ev (concE ρ) x=.ptr b 0:=by rw[evS_conc,hx];simp[DC.conc]
    have eB:st.conc.box[b]? = some B.conc:=by
     show (st.box.map BoxS.conc)[b]? = _
     rw[List.getElem?_map,←nthD_eq,hB];rfl
    have eA:st.conc.box[j]? = some A.conc:=by
     show (st.box.map BoxS.conc)[j]? = _
     rw[List.getElem?_map,←nthD_eq,hA];rfl
    have ec:B.conc.cells=[.p pc,.ms j 0 n]:=by
     show concCs B.cells=_
     rw[hc];simp[concCs_cons,concCs_nil,cellS,DC.conc]
    have et:A.conc.cells.take (n*sz)=(t.rows ((t.norm N l).take n)).map .p:=by
     have:A.conc.cells=(t.rows (t.norm N l)).map .p:=by
      show concCs A.cells=_
      rw[hcA];simp[concCs_cons,concCs_nil,cellS,arrCells]
     rw[this,←List.map_take,←hs,Ty.rows_take]
    have ea:allP (A.conc.cells.take (n*sz))=some (t.rows ((t.norm N l).take n)):=by rw[et];exact allP_map _
    have etl:(DC.tl (some false) t (vwR t N l 0 n)).conc=.p (.sl (some false) n (t.rows ((t.norm N l).take n))):=by
     simp only[DC.conc,vwR,List.drop_zero]
     rw[List.length_take,Ty.norm_length,Nat.min_eq_left hl]
    simp only[wpM,ex,eB]
    refine ⟨hf,hm,by rw[ec];simp,by decide,hne,?_⟩
    simp only[ec,eA,Nat.zero_add,List.getElem?_cons_succ,List.getElem?_cons_zero]
    refine ⟨trivial,hAf,hAm,?_⟩
    rw[ea]
    refine .of ?_ ?_ h
    ·show _=(DC.agg [DC.p pc,DC.tl (some false) t (vwR t N l 0 n)]).conc
     rw[show (DC.agg [DC.p pc,DC.tl (some false) t (vwR t N l 0 n)]).conc=mkAgg (concCs [DC.p pc,DC.tl (some false) t (vwR t N l 0 n)]) by simp only[DC.conc]]
     rw[concCs_cons,concCs_cons,concCs_nil]
     simp only[cellS,etl]
     simp[DC.conc]
    ·rw[StS.conc_set (st:={ st with box:=st.box.set j { A with cells:=[],fz:=true } }),StS.conc_set]
     simp only[BoxS.conc,concCs_nil,concCs_cons,cellS,List.append_nil]
     rw[show (OpsS.real.vw t N l 0 n)=vwR t N l 0 n from rfl,etl]
     simp[DC.conc]
   ·exact h.elim
  ·exact h.elim
 ·exact h.elim
theorem emptyS_D {d:DC} {nl:Bool} (h:emptyS d=some nl):emptyD d.conc=some (.p (.sl (some nl) 0 [])):=by
 unfold emptyS at h
 split at h
 ·obtain rfl:=Option.some.inj h;simp[DC.conc,emptyD]
 ·obtain rfl:=Option.some.inj h;simp[DC.conc,emptyD]
 ·cases h
theorem m_apn {e:TypeId} {size bytes:Nat} {s x:Operand} (h:wpMS OpsS.real g ρ st K (.apn e size bytes s x)):wpM (concE ρ) st.conc (KP K) (.apn e size bytes s x):=by
 simp only[wpMS]at h
 split at h
 ·rename_i t nl ht hs
  obtain ⟨hsz,h⟩:=h
  split at h
  ·rename_i l2 pl hl2
   obtain ⟨hpl,hlim,h⟩:=h
   obtain ⟨nlx,e1⟩:=srcS_P hl2 hpl
   rw[hsz]at e1
   have e0:(t.rows l2).length=l2.length*size:=by rw[Ty.rows_length,hsz]
   simp only[wpM,evS_conc,e1,emptyS_D hs]
   refine ⟨e0,hlim.b,hlim.l,?_⟩
   cases l2 with
   | nil=>rw[if_pos (show ([]:List t.den).length=0 from rfl)];exact .of (by simp[DC.conc]) rfl (h.t rfl)
   | cons y l2=>
    rw[if_neg (by simp)]
    refine .of ?_ ?_ (h.f rfl)
    ·simp[DC.conc,StS.box_len,OpsS.real]
    ·have e:t.norm (y :: l2).length (y :: l2)=y :: l2:=Ty.norm_eq t rfl
     rw[push_conc]
     congr 3
     simp only[BoxS.conc,concCs_one,cellS,arrCells,OpsS.real,e]
  ·exact h.elim
 ·exact h.elim
theorem m_apf {e:TypeId} {size bytes:Nat} {s x:Operand} (h:wpMS OpsS.real g ρ st K (.apf e size bytes s x)):wpM (concE ρ) st.conc (KP K) (.apf e size bytes s x):=by
 simp only[wpMS]at h
 split at h
 ·rename_i t nl ht hs
  obtain ⟨hsz,h⟩:=h
  split at h
  ·rename_i l2 pl hl2
   obtain ⟨hpl,hlim,h⟩:=h
   obtain ⟨nlx,e1⟩:=srcS_P hl2 hpl
   rw[hsz]at e1
   have e0:(t.rows l2).length=l2.length*size:=by rw[Ty.rows_length,hsz]
   simp only[wpM,evS_conc,e1,emptyS_D hs]
   exact ⟨e0,hlim.b,hlim.l,.of (by simp[DC.conc]) rfl h⟩
  ·exact h.elim
 ·exact h.elim
theorem m_apz {e:TypeId} {size bytes:Nat} {zero:List D} {s x:Operand} (h:wpMS OpsS.real g ρ st K (.apz e size bytes zero s x)):wpM (concE ρ) st.conc (KP K) (.apz e size bytes zero s x):=by
 simp only[wpMS]at h
 split at h
 ·rename_i t nl m z ht hs hx hz
  obtain ⟨hsz,hmk,hlim,h⟩:=h
  split at h
  ·rename_i y hy
   have h0:=hmk.le
   have e2:ev (concE ρ) x=.p (.v (.int .i64 m)):=by rw[evS_conc,hx];simp[DC.conc]
   simp only[wpM,e2]
   rw[evS_conc,emptyS_D hs]
   have hb:=hlim.b
   have hl:=hlim.l
   simp only[OpsS.real]at hb hl h
   refine ⟨h0,?_,by omega,?_⟩
   ·have e:m=(m.toNat:Int):=by omega
    rw[e,←Int.natCast_mul];omega
   ·by_cases hm:m=0
    ·subst hm;rw[if_pos rfl];exact .of (by simp[DC.conc]) rfl (h.t rfl)
    ·rw[if_neg hm]
     have hne:(List.replicate m.toNat y).isEmpty=false:=by
      cases hq:m.toNat with
      | zero=>omega
      | succ q=>rfl
     refine .of ?_ ?_ (h.f hne)
     ·simp[DC.conc,StS.box_len]
     ·rw[push_conc]
      have hv:=toDen_spec hy
      rw[concCs_nil,List.append_nil,zeroS_conc hz]at hv
      congr 3
      simp only[BoxS.conc,concCs_one,cellS,arrCells]
      rw[Ty.norm_eq t (by simp),rows_replicate,hv,map_flatten_replicate]
  ·exact h.elim
 ·exact h.elim
theorem wpMS_sound {m:MOp} (h:wpMS OpsS.real g ρ st K m):wpM (concE ρ) st.conc (KP K) m:=by
 cases m with
 | lit0 e=>exact .of (by simp[DC.conc]) rfl h
 | apn e size bytes s x=>exact m_apn h
 | apz e size bytes zero s x=>exact m_apz h
 | apf e size bytes s x=>exact m_apf h
 | capN x=>
  simp only[wpMS]at h
  split at h
  ·rename_i hx
   simp only[wpM,evS_conc,hx,DC.conc]
   exact .of (by simp[DC.conc,intD]) rfl h
  ·exact h.elim
 | frz size x=>exact m_frz h
 | ldF size k esz i x=>exact m_ldF h
 | look ok V zero x i=>exact m_look h
 | upd V x kx vx=>exact m_upd h
 | del V x kx=>exact m_del h
 | nxt kk vv x=>exact m_nxt h
 | ent kk vv x=>exact m_ent h
 | mk kk vv=>
  simp only[wpMS]at h
  obtain ⟨rfl,hv,h⟩:=h
  split at h
  ·refine ⟨hv,.of (by rw[StS.box_len];rfl) ?_ h⟩
   rw[push_conc]
   simp[BoxS.conc,concCs_cons,concCs_nil,cellS,DC.conc,arrCells,Ty.norm,intD]
  ·exact h.elim
 | len kk vv x=>
  simp only[wpMS]at h
  split at h
  ·rename_i hx
   have ex:ev (concE ρ) x=.p (.v (.map none)):=by rw[evS_conc,hx];rfl
   simp only[wpM,ex]
   exact .of (by simp[DC.conc,intD]) rfl h
  ·obtain ⟨b,B,c,n,q',tv,l,hd,hB,h1,h2,rfl,h4,h5,hc,hv,hk⟩:=mapS_inv h
   have ex:ev (concE ρ) x=.mref b:=by rw[evS_conc,hd];rfl
   have ec:B.conc.cells=.p (.v (.int .i64 c)) :: arrCells n (tEnt q' tv) l:=by simp only[BoxS.conc,hc];exact mapCells
   simp only[wpM,ex]
   refine mapBox_of hB h1 h2 h4 h5 ?_
   rw[ec,show kw 0+kw vv+1=kw vv+2 by simp[kw];omega,(mlen hv).1]
   exact .of (by simp[DC.conc,intD,OpsS.real]) rfl hk
 | rng kk vv x=>
  simp only[wpMS]at h
  obtain ⟨b,B,c,n,q',tv,l,hd,hB,h1,h2,rfl,h4,h5,hc,hv,hn,hk⟩:=mapS_inv h
  have ex:ev (concE ρ) x=.mref b:=by rw[evS_conc,hd];rfl
  have ec:B.conc.cells=.p (.v (.int .i64 c)) :: arrCells n (tEnt q' tv) l:=by simp only[BoxS.conc,hc];exact mapCells
  simp only[wpM,ex]
  refine mapBox_of hB h1 h2 h4 h5 ?_
  rw[ec,List.headD_cons,natD_int hn.h]
  refine .of (by rw[StS.box_len];rfl) ?_ hk
  rw[push_conc]
  simp[BoxS.conc,concCs_cons,concCs_nil,cellS,DC.conc,arrCells,Ty.norm,intD_nat hn.h]
 | eqN neg x y=>
  simp only[wpMS]at h
  split at h
  ·rename_i hy
   have ey:ev (concE ρ) y=.p (.v (.map none)):=by rw[evS_conc,hy];rfl
   split at h
   ·rename_i b hx
    have ex:ev (concE ρ) x=.mref b:=by rw[evS_conc,hx];rfl
    simp only[wpM,ex,ey]
    exact .mk h
   ·rename_i hx
    have ex:ev (concE ρ) x=.p (.v (.map none)):=by rw[evS_conc,hx];rfl
    simp only[wpM,ex,ey]
    exact .mk h
   ·exact h.elim
  ·exact h.elim
end
end Go.Ab
namespace Go.Ab
open Go.RowKit
theorem parts_conc (ρ:EnvS) (parts:List (Nat×Nat×Operand)):(parts.map fun (q:Nat×Nat×Operand)=>(q.1,q.2.1,ev (concE ρ) q.2.2))=(parts.map fun q=>(q.1,q.2.1,evS ρ q.2.2)).map fun q=>(q.1,q.2.1,q.2.2.conc):=by
 rw[List.map_map]
 exact List.map_congr_left fun q _=>by simp[evS_conc]
section
variable {g:Cfg} {C:CallS} {D':CallW} {ρ:EnvS} {st:StS} {K:DC→StS→Prop}
theorem s_eqA {ks:List Bool} {neg:Bool} {x y:Operand} (h:wpOpS OpsS.real g C ρ st K (.eqA ks neg x y)):wpOp D' (concE ρ) st.conc (KP K) (.eqA ks neg x y):=by
 simp only[wpOpS]at h
 simp only[wpOp,evS_conc]
 split at h
 ·rename_i b hb
  split at h
  ·rename_i hx hy
   obtain ⟨ps,qs,e1,e2,e3⟩:=eqS_sound hb
   rw[toP_agg hx e1,toP_agg hy e2]
   refine ⟨b,e3,?_⟩
   cases b
   ·exact KP.of (by simp[DC.conc]) rfl (h.f rfl)
   ·exact KP.of (by simp[DC.conc]) rfl (h.t rfl)
  ·exact h.elim
 ·exact h.elim
theorem s_eqN {neg:Bool} {x y:Operand} (h:wpOpS OpsS.real g C ρ st K (.eqN neg x y)):wpOp D' (concE ρ) st.conc (KP K) (.eqN neg x y):=by
 have br:∀ {b:Bool},BR b (K (.p (.v (.bool (!neg)))) st) (K (.p (.v (.bool neg))) st)→KP K (.p (.v (.bool (b ^^ neg)))) st.conc:=fun {b} h=>by
  cases b
  ·exact KP.of (by simp[DC.conc]) rfl (h.f rfl)
  ·exact KP.of (by simp[DC.conc]) rfl (h.t rfl)
 simp only[wpOpS]at h
 simp only[wpOp,evS_conc]
 split at h
 ·rename_i n c hy
  simp only[hy,DC.conc]
  split at h
  ·rename_i nl n' c' hx;simp only[hx,DC.conc];exact br h
  ·rename_i nl t l hx;simp only[hx,DC.conc];exact br h
  ·rename_i G t l hx
   cases l with
   | nil=>simp only[hx,DC.conc];exact br (b:=true) h
   | cons z r=>simp only[hx,DC.conc];have:=br (b:=false) h;simpa using this
  ·rename_i hx;simp only[hx,DC.conc];exact KP.of (by simp[DC.conc]) rfl h
  ·rename_i hx;simp only[hx,DC.conc];exact KP.of (by simp[DC.conc]) rfl h
  ·exact h.elim
 ·exact h.elim
theorem s_eqP {neg:Bool} {x y:Operand} (h:wpOpS OpsS.real g C ρ st K (.eqP neg x y)):wpOp D' (concE ρ) st.conc (KP K) (.eqP neg x y):=by
 simp only[wpOpS]at h
 simp only[wpOp,evS_conc]
 split at h
 ·rename_i hy
  simp only[hy,DC.conc]
  split at h <;> first | exact h.elim | (rename_i hx;simp only[hx,DC.conc];exact KP.of (by simp[DC.conc]) rfl h)
 ·exact h.elim
theorem s_idx {size:Nat} {x i:Operand} (h:wpOpS OpsS.real g C ρ st K (.idx size x i)):wpOp D' (concE ρ) st.conc (KP K) (.idx size x i):=by
 simp only[wpOpS]at h
 simp only[wpOp,evS_conc]
 split at h
 ·rename_i kd k hi
  simp only[hi,DC.conc]
  split at h
  ·rename_i nl t l hx
   obtain ⟨hs,hb,h⟩:=h
   subst hs
   simp only[hx,DC.conc]
   exact ⟨hb.lo,hb.hi,KP.of (by simp only[DC.conc,List.drop_zero,Ty.rows_drop]) rfl h⟩
  ·rename_i G t l hx
   obtain ⟨hs,hb,h⟩:=h
   subst hs
   have h1:=hb.lo;have h2:=hb.hi
   simp only[OpsS.real]at h2
   cases l with
   | nil=>simp at h2;omega
   | cons y r=>simp only[hx,DC.conc];exact ⟨h1,h2,KP.of (by simp only[DC.conc,List.drop_zero,Ty.rows_drop]) rfl h⟩
  ·rename_i G t l hx
   obtain ⟨hs,hb,h⟩:=h
   subst hs
   simp only[hx,DC.conc]
   exact ⟨hb.lo,hb.hi,KP.of (by simp only[DC.conc,List.drop_zero,Ty.rows_drop]) rfl h⟩
  ·rename_i b off sz lo n hx
   obtain ⟨hs,hb,h⟩:=h
   subst hs
   have h1:=hb.lo
   simp only[hx,DC.conc]
   refine ⟨h1,hb.hi,KP.of ?_ rfl h⟩
   simp only[DC.conc,Nat.add_zero]
   cases lo with
   | none=>simp[kLo]
   | some a=>
    have:((a:Int)+k).toNat=a+k.toNat:=by omega
    simp[kLo,OpsS.real,this,Nat.add_mul,Nat.add_assoc]
  ·exact h.elim
 ·exact h.elim
theorem s_idxA {len size:Nat} {x i:Operand} (h:wpOpS OpsS.real g C ρ st K (.idxA len size x i)):wpOp D' (concE ρ) st.conc (KP K) (.idxA len size x i):=by
 simp only[wpOpS]at h
 simp only[wpOp,evS_conc]
 split at h
 ·rename_i b off kd k hx hi
  obtain ⟨hb,h⟩:=h
  have h1:=hb.lo;have h2:=hb.hi
  simp only[OpsS.real]at h2
  simp only[hi,hx,DC.conc]
  refine ⟨h1,h2,?_⟩
  split at h
  ·split at h
   ·exact KP.of (by simp only[DC.conc,Nat.add_zero]) rfl h
   ·split at h
    ·rename_i m hm
     rw[litOf_ev hm hi]at h
     exact KP.of (by simp only[DC.conc]) rfl h
    ·have:=casesK_spec h.2 h1 h2
     exact KP.of (by simp only[DC.conc]) rfl this
  ·exact h.elim
 ·rename_i t l k0 q kd k hx hi
  obtain ⟨hb,h⟩:=h
  have h1:=hb.lo;have h2:=hb.hi
  simp only[OpsS.real]at h2
  simp only[hi,hx,DC.conc]
  refine ⟨h1,h2,?_⟩
  split at h
  ·rename_i m hm
   rw[litOf_ev hm hi]at h
   exact KP.of (by simp only[DC.conc,List.drop_drop]) rfl h
  ·have:=casesK_spec h.2 h1 h2
   exact KP.of (by simp only[DC.conc,List.drop_drop]) rfl this
 ·rename_i b off sz k0 q kd k hx hi
  obtain ⟨hb,h⟩:=h
  have h1:=hb.lo;have h2:=hb.hi
  simp only[OpsS.real]at h2
  simp only[hi,hx,DC.conc]
  refine ⟨h1,h2,?_⟩
  split at h
  ·rename_i m hm
   rw[litOf_ev hm hi]at h
   exact KP.of (by simp only[DC.conc,Nat.add_assoc]) rfl h
  ·have:=casesK_spec h.2 h1 h2
   exact KP.of (by simp only[DC.conc,Nat.add_assoc]) rfl this
 ·exact h.elim
theorem s_mk {e:TypeId} {cs:List DC} {z:List D} (hz:concCs cs=z) (h:K (.ptr st.box.length 0) { st with box:=st.box ++ [{ cells:=cs,e:=e,fz:=false }] }) :
  KP K (.ptr st.conc.box.length 0) { st.conc with box:=st.conc.box ++ [{ cells:=z,e:=e,fz:=false }] }:=by
 refine KP.of (by simp[DC.conc,StS.box_len]) ?_ h
 subst hz
 simp[StS.conc,BoxS.conc]
theorem s_bslice {own:Bool} {e:TypeId} {n size:Nat} {zero:List D} {parts:List (Nat×Nat×Operand)} (h:wpOpS OpsS.real g C ρ st K (.bslice own e n size zero parts)):wpOp D' (concE ρ) st.conc (KP K) (.bslice own e n size zero parts):=by
 simp only[wpOpS]at h
 simp only[wpOp,parts_conc]
 split at h
 ·rename_i z t hz ht
  obtain ⟨hs,h⟩:=h
  split at h
  ·rename_i cs hcs
   split at h
   ·rename_i l hl
    obtain ⟨hn,hc⟩:=elemsD_conc hl
    have hf:=fillS_conc hcs
    rw[zeroS_conc hz]at hf
    rw[hf,hc,Option.bind_some,allP_map]
    cases own
    ·exact KP.of (by simp only[DC.conc,hn]) rfl h
    ·refine KP.of (by simp only[DC.conc,hn];rfl) ?_ h
     simp only[StS.conc,Ty.rows_length,hn,hs]
   ·exact h.elim
  ·exact h.elim
 ·exact h.elim
theorem s_bsliceM {e:TypeId} {n size:Nat} {zero:List D} {parts:List (Nat×Nat×Operand)} (h:wpOpS OpsS.real g C ρ st K (.bsliceM e n size zero parts)):wpOp D' (concE ρ) st.conc (KP K) (.bsliceM e n size zero parts):=by
 simp only[wpOpS]at h
 simp only[wpOp,parts_conc]
 split at h
 ·rename_i z t hz ht
  obtain ⟨hs,h⟩:=h
  split at h
  ·rename_i cs hcs
   split at h
   ·rename_i l hl
    obtain ⟨hn,hc⟩:=elemsD_conc hl
    have hf:=fillS_conc hcs
    rw[zeroS_conc hz]at hf
    rw[hf,hc]
    refine KP.of (by simp[DC.conc,StS.box_len]) ?_ h
    simp[StS.conc,BoxS.conc,concCs_one,cellS,arrCells,Ty.norm_eq t hn]
   ·exact h.elim
  ·exact h.elim
 ·exact h.elim
theorem s_mslice {e:TypeId} {size bytes:Nat} {zero:List D} {l c:Operand} (h:wpOpS OpsS.real g C ρ st K (.mslice e size bytes zero l c)):wpOp D' (concE ρ) st.conc (KP K) (.mslice e size bytes zero l c):=by
 simp only[wpOpS]at h
 simp only[wpOp,evS_conc]
 split at h
 ·rename_i n _ m t z h1 h2 ht hz
  obtain ⟨hs,hb,h⟩:=h
  simp only[h1,h2,DC.conc]
  refine ⟨hb.lo,hb.le,hb.b,hb.l,?_⟩
  split at h
  ·rename_i x hx
   have hv:=toDen_spec hx
   rw[concCs_nil,List.append_nil,zeroS_conc hz]at hv
   refine KP.of (by simp[DC.conc,StS.box_len,OpsS.real]) ?_ h
   simp only[StS.conc,BoxS.conc,List.map_append,List.map_cons,List.map_nil,concCs_one,cellS,arrCells,OpsS.real]
   rw[Ty.norm_eq t (by simp),rows_replicate,hv,map_flatten_replicate]
  ·exact h.elim
 ·exact h.elim
theorem s_msliceP {e:TypeId} {size bytes:Nat} {zero:List D} {l c:Operand} (h:wpOpS OpsS.real g C ρ st K (.msliceP e size bytes zero l c)):wpOp D' (concE ρ) st.conc (KP K) (.msliceP e size bytes zero l c):=by
 simp only[wpOpS]at h
 simp only[wpOp,evS_conc]
 split at h
 ·rename_i n _ m t z h1 h2 ht hz
  obtain ⟨hs,hb,h⟩:=h
  split at h
  ·rename_i x hx
   have hv:=toDen_spec hx
   rw[concCs_nil,List.append_nil,zeroS_conc hz]at hv
   simp only[h1,h2,DC.conc,hv,allP_map]
   refine ⟨hb.lo,hb.le,hb.b,hb.l,KP.of ?_ rfl h⟩
   simp[DC.conc,OpsS.real]
   rw[←rows_replicate]
  ·exact h.elim
 ·exact h.elim
theorem s_field {off:Nat} {size:Option Nat} {x:Operand} (h:wpOpS OpsS.real g C ρ st K (.field off size x)):wpOp D' (concE ρ) st.conc (KP K) (.field off size x):=by
 simp only[wpOpS]at h
 split at h
 ·rename_i ha
  split at h
  ·rename_i cs hs
   refine field_agg (by rw[evS_conc,isAggS_spec ha]) off size ?_
   cases size with
   | none=>
    simp only at h ⊢
    split at h
    ·rename_i c r
     obtain ⟨h1,hK⟩:=KC_real (K':=fun d=>KP K d st.conc) (fun x hx=>KP.mk hx) h
     exact ⟨c.conc,seek_head hs h1,hK⟩
    ·exact h.elim
   | some s=>
    simp only at h ⊢
    split at h
    ·rename_i cs2 ht
     obtain ⟨a1,a2⟩:=seekC_spec hs
     obtain ⟨b1,b2⟩:=takeC_spec ht
     rw[←a2]at b1 b2
     refine ⟨by simp at b1;omega,KP.of ?_ rfl h⟩
     simp only[DC.conc];rw[b2]
    ·exact h.elim
  ·exact h.elim
 ·exact h.elim
theorem s_index {len size:Nat} {agg:Bool} {x i:Operand} (h:wpOpS OpsS.real g C ρ st K (.index len size agg x i)):wpOp D' (concE ρ) st.conc (KP K) (.index len size agg x i):=by
 simp only[wpOpS]at h
 split at h
 ·rename_i kd k hi ha
  obtain ⟨hb,h⟩:=h
  have h1:=hb.lo;have h2:=hb.hi
  simp only[OpsS.real]at h2
  have fin:∀ {c:D},(concCs (cellsS (evS ρ x)))[k.toNat*size]? = some c→KP K c st.conc→wpOp D' (concE ρ) st.conc (KP K) (.index len size false x i):=fun {c} hc hk=>
   index_agg (by rw[evS_conc,isAggS_spec ha]) (conc_int hi) len size h1 h2 hc hk
  split at h
  ·rename_i n t l r hcs
   obtain ⟨hs,hle,h⟩:=h
   split at h
   ·rename_i c hc
    obtain ⟨hq,hget⟩:=elemS_nth hc
    obtain ⟨_,hK⟩:=KC_real (K':=fun d=>KP K d st.conc) (fun x hx=>KP.mk hx) h
    subst hs
    simp only[OpsS.real]at hget
    refine fin ?_ hK
    have hsk:seekC (cellsS (evS ρ x)) 0=some (.arr n t l :: r):=by rw[hcs];rfl
    have:=seg_elem hsk (show k.toNat<n by omega)
    have h3:=take_get this hq
    simpa using h3.trans hget
   ·exact h.elim
  ·split at h
   ·rename_i m hm
    rw[litOf_ev hm hi]at h
    split at h
    ·rename_i c r hs
     obtain ⟨h1,hK⟩:=KC_real (K':=fun d=>KP K d st.conc) (fun x hx=>KP.mk hx) h
     exact fin (seek_head hs h1) hK
    ·exact h.elim
   ·have:=casesK_spec h.2 h1 h2
    split at this
    ·rename_i c r hs
     obtain ⟨h1,hK⟩:=KC_real (K':=fun d=>KP K d st.conc) (fun x hx=>KP.mk hx) this
     exact fin (seek_head hs h1) hK
    ·exact this.elim
 ·exact h.elim
theorem s_sliceA {len size:Nat} {x:Operand} (h:wpOpS OpsS.real g C ρ st K (.sliceA len size x)):wpOp D' (concE ρ) st.conc (KP K) (.sliceA len size x):=by
 simp only[wpOpS]at h
 simp only[wpOp,evS_conc]
 split at h
 ·rename_i b off hx
  obtain ⟨B,n,t,l,r,e1,_,hf,hs,hap,hn,hsz,h⟩:=segAt_spec h
  simp only[hx,DC.conc,e1]
  exact ⟨hf,hap,KP.of (by simp[DC.conc]) rfl h⟩
 ·rename_i t l k q hx
  obtain ⟨hb,rfl,h⟩:=h
  simp only[hx,DC.conc]
  split at h
  ·rename_i cs hs1
   split at h
   ·rename_i ik hk
    split at h
    ·rename_i xs hxs
     obtain ⟨a1,a2⟩:=seekC_spec hs1
     obtain ⟨b1,b2⟩:=elemsR_conc (r:=xs.2) (l:=xs.1) hxs
     have hlo:=hb.lo
     have hhi:=hb.hi
     simp only[OpsS.real]at hhi a1 a2 b2
     have hlt:k.toNat<l.length:=by omega
     rw[elemS_conc]at a1 a2
     have e0:=congrArg List.length (a2.trans b2)
     simp only[List.length_drop,List.length_map,List.length_append,Ty.rows_length,Ty.cells_length]at e0 a1
     have hr1:(Ty.int ik).size=1:=rfl
     have e4:((Ty.int ik).rows xs.1).length=len:=by rw[Ty.rows_length,hr1,b1,Nat.mul_one]
     rw[e4]at e0
     rw[←Ty.rows_drop,Ty.rows_at t hlt,List.drop_append_of_le_length (by rw[Ty.cells_length];omega),Nat.mul_one]
     refine ⟨by simp only[List.length_append,List.length_drop,Ty.cells_length];omega,KP.of ?_ rfl h⟩
     simp only[DC.conc]
     rw[List.take_append_of_le_length (by rw[List.length_drop,Ty.cells_length];omega),b1]
     have e1:((t.cells (gtR t l k)).drop q).take len=(Ty.int ik).rows xs.1:=by
      have e2:=a2.trans b2
      rw[←List.map_drop]at e2
      have e3:=congrArg (List.take len) e2
      rw[←List.map_take,List.take_left' (by rw[List.length_map];exact e4)]at e3
      exact (List.map_inj_right (f:=D.p) (fun _ _ h=>by cases h;rfl)).1 e3
     show D.p (.sl (some false) len (((t.cells (gtR t l k)).drop q).take len))=_
     rw[e1]
    ·exact h.elim
   ·exact h.elim
  ·exact h.elim
 ·exact h.elim
theorem s_copy {size:Nat} {d s:Operand} (h:wpOpS OpsS.real g C ρ st K (.copy size d s)):wpOp D' (concE ρ) st.conc (KP K) (.copy size d s):=by
 simp only[wpOpS]at h
 simp only[wpOp,evS_conc]
 split at h
 ·rename_i b off sz lo n hx
  obtain ⟨rfl,h⟩:=h
  obtain ⟨B,N,t,l,r,e1,_,hf,hs,hsz,h'⟩:=segAt_spec h
  replace h:=h';clear h'
  split at h
  ·rename_i src psrc hsrc
   obtain ⟨hpsrc,hle,h⟩:=h
   have hle:=hle.h
   split at h
   ·rename_i cs hu
    obtain ⟨nl,e2⟩:=srcS_P hsrc hpsrc
    simp only[OpsS.real]at hle hu h
    subst hsz
    simp only[hx,DC.conc,e1,e2]
    have hlo:loOf lo=lo.getD 0:=by cases lo <;> rfl
    rw[hlo]at hle hu
    generalize lo.getD 0=a at *
    have hm:min src.length n≤src.length:=Nat.min_le_left _ _
    generalize min src.length n=m at *
    have hmul:(a+m)*t.size≤N*t.size:=Nat.mul_le_mul_right _ hle
    rw[Nat.add_mul]at hmul
    have hlen:(((t.rows src).take (m*t.size)).map D.p).length=m*t.size:=by
     rw[List.length_map,List.length_take,Ty.rows_length]
     exact Nat.min_eq_left (Nat.mul_le_mul_right _ hm)
    have hput:putCells (arrCells N t l) (a*t.size) (((t.rows src).take (m*t.size)).map D.p)=arrCells N t (cpR t N l a src m):=by
     have hn:t.norm N (cpR t N l a src m)=cpR t N l a src m:=Ty.norm_eq t (by simp[cpR,Ty.norm_length];omega)
     simp only[putCells,hlen,arrCells,hn]
     simp only[cpR,Ty.rows_append,List.map_append]
     rw[←List.map_take,←List.map_drop,Ty.rows_take,Ty.rows_take,←Nat.add_mul,Ty.rows_drop]
    obtain ⟨c1,c2⟩:=updC_spec hs hu (a*t.size) _ (by rw[hlen];omega) hput
    rw[hlen]at c1
    refine ⟨hf,by rw[Ty.rows_length],by simp only[BoxS.conc];omega,KP.of (by simp[DC.conc]) ?_ h⟩
    rw[StS.conc_set]
    simp only[BoxS.conc,c2]
   ·exact h.elim
  ·exact h.elim
 ·exact h.elim
theorem mkTup_conc (vs:List DC):(DC.tup vs).conc=mkTup (vs.map DC.conc):=by simp only[DC.conc,concL_eq]
theorem wpOpS_sound (hC:∀ f ds st K,C f ds st K→D' f (concL ds) st.conc (KP K)) {op:AOp} (h:wpOpS OpsS.real g C ρ st K op):wpOp D' (concE ρ) st.conc (KP K) op:=by
 cases op
 case mop m=>exact wpMS_sound h
 case load=>exact s_load h
 case loadA=>exact s_loadA h
 case store=>exact s_store h
 case append=>exact s_append h
 case slice=>exact s_slice h
 case eqA=>exact s_eqA h
 case eqN=>exact s_eqN h
 case eqP=>exact s_eqP h
 case idx=>exact s_idx h
 case idxA=>exact s_idxA h
 case bslice=>exact s_bslice h
 case bsliceM=>exact s_bsliceM h
 case mslice=>exact s_mslice h
 case msliceP=>exact s_msliceP h
 case field=>exact s_field h
 case index=>exact s_index h
 case sliceA=>exact s_sliceA h
 case copy=>exact s_copy h
 case mv x=>simp only[wpOp,evS_conc];exact KP.mk h
 case mkfn f a b=>simp only[wpOp,evS_map];exact KP.of (by simp only[DC.conc]) rfl h
 case mkifc t x=>simp only[wpOp,evS_conc];exact KP.of (by simp only[DC.conc]) rfl h
 case call f args=>simp only[wpOp,evS_map];exact hC _ _ _ _ h
 case callv x args=>
  simp only[wpOpS]at h
  simp only[wpOp,evS_conc,evS_map]
  split at h
  ·rename_i f first captured hx
   have:=hC _ _ _ _ h
   simp only[hx,DC.conc]
   simpa [concL_eq] using this
  ·exact h.elim
 case alloc e zero=>
  simp only[wpOpS]at h
  simp only[wpOp]
  split at h
  ·rename_i cs hz;exact s_mk (zeroS_conc hz) h
  ·exact h.elim
 case allocL e lay=>
  simp only[wpOpS]at h
  simp only[wpOp]
  split at h
  ·exact s_mk h.1.h.symm h.2
  ·split at h
   ·rename_i cs hz;exact s_mk (zeroS_conc hz) h
   ·exact h.elim
 case box e x=>
  simp only[wpOpS]at h
  simp only[wpOp,evS_conc,cellsD_conc]
  obtain ⟨h1,h⟩:=h
  refine ⟨allS_conc h1,?_⟩
  split at h
  ·split at h
   ·rename_i cs hz;exact s_mk (segsS_conc hz) h
   ·exact h.elim
  ·exact s_mk rfl h
 case build zero parts=>
  simp only[wpOpS]at h
  simp only[wpOp,parts_conc]
  split at h
  ·rename_i z hz
   split at h
   ·rename_i cs hcs
    have hf:=fillS_conc hcs
    rw[zeroS_conc hz]at hf
    rw[hf]
    exact KP.of (by simp only[DC.conc]) rfl h
   ·exact h.elim
  ·exact h.elim
 case pick c a b=>
  simp only[wpOpS]at h
  simp only[wpOp,evS_conc]
  split at h
  ·rename_i t ht
   simp only[ht,DC.conc]
   cases t
   ·exact ⟨fun h=>(Bool.false_ne_true h).elim,fun _=>KP.mk h⟩
   ·exact ⟨fun _=>KP.mk h,fun h=>(Bool.false_ne_true h.symm).elim⟩
  ·exact h.elim
 case bin op x y=>
  simp only[wpOpS]at h
  simp only[wpOp,evS_conc]
  split at h
  ·rename_i h1 h2
   simp only[h1,h2,DC.conc]
   have h3:=sBinS_sound h
   exact sBin_mono (fun v hv=>KP.of (by simp[DC.conc]) rfl hv) h3
  ·exact h.elim
 case binB neg x y=>
  simp only[wpOpS]at h
  simp only[wpOp,evS_conc]
  split at h
  ·rename_i h1 h2;simp only[h1,h2,DC.conc];exact KP.of (by simp[DC.conc]) rfl h
  ·exact h.elim
 case un op x=>
  simp only[wpOpS]at h
  simp only[wpOp,evS_conc]
  split at h
  ·rename_i b hx;simp only[hx,DC.conc];exact KP.of (by simp[DC.conc]) rfl h
  ·rename_i k n hx;simp only[hx,DC.conc];exact KP.of (by simp[DC.conc,OpsS.real,arR]) rfl h
  ·rename_i k n hx;simp only[hx,DC.conc];exact KP.of (by simp[DC.conc,OpsS.real,arR]) rfl h
  ·exact h.elim
 case conv k x=>
  simp only[wpOpS]at h
  simp only[wpOp,evS_conc]
  split at h
  ·rename_i hx;simp only[hx,DC.conc];exact KP.of (by simp[DC.conc,OpsS.real]) rfl h
  ·exact h.elim
 case len x=>
  simp only[wpOpS]at h
  simp only[wpOp,evS_conc]
  split at h
  ·rename_i hx;simp only[hx,DC.conc];exact KP.of (by simp[DC.conc,OpsS.real]) rfl h
  ·rename_i hx;simp only[hx,DC.conc];exact KP.of (by simp[DC.conc,OpsS.real]) rfl h
  ·rename_i G t l hx
   cases l <;> (simp only[hx,DC.conc];exact KP.of (by simp[DC.conc,OpsS.real]) rfl h)
  ·rename_i hx;simp only[hx,DC.conc];exact KP.of (by simp[DC.conc,OpsS.real]) rfl h
  ·rename_i hx;simp only[hx,DC.conc];exact KP.of (by simp[DC.conc,OpsS.real]) rfl h
  ·exact h.elim
 case extract x i=>
  simp only[wpOpS]at h
  simp only[wpOp,evS_conc]
  split at h
  ·rename_i ps hx
   simp only[hx,DC.conc]
   split at h
   ·rename_i p hp
    rw[nthD_eq]at hp
    rw[hp];exact KP.of (by simp[DC.conc]) rfl h
   ·exact h.elim
  ·rename_i ds hx
   simp only[hx,mkTup_conc]
   split at h
   ·rename_i d hd
    rw[nthD_eq]at hd
    have hd':(ds.map DC.conc)[i]? = some d.conc:=by rw[List.getElem?_map,hd];rfl
    have hK:=KBS_real (K':=fun d=>KP K d st.conc) (fun x hx=>KP.mk hx) h
    unfold mkTup
    cases hp:allP (ds.map DC.conc) with
    | none=>simp only[hd'];exact hK
    | some ps=>
     have e:=allP_spec hp
     rw[e,List.getElem?_map]at hd'
     obtain ⟨q,hq,hqd⟩:=Option.map_eq_some_iff.1 hd'
     simp only[hq]
     rw[hqd];exact hK
   ·exact h.elim
  ·exact h.elim
 case fieldA off x=>
  simp only[wpOpS]at h
  simp only[wpOp,evS_conc]
  split at h
  ·rename_i hx;simp only[hx,DC.conc];exact KP.of (by simp[DC.conc]) rfl h
  ·rename_i hx;simp only[hx,DC.conc];exact KP.of (by simp[DC.conc,Nat.add_assoc]) rfl h
  ·rename_i hx;simp only[hx,DC.conc];exact KP.of (by simp only[DC.conc,List.drop_drop]) rfl h
  ·exact h.elim
 case nilck x=>
  simp only[wpOpS]at h
  simp only[wpOp,evS_conc]
  split at h
  ·rename_i hx;simp only[hx,DC.conc];exact KP.of (by simp[DC.conc]) rfl h
  ·rename_i hx;simp only[hx,DC.conc];exact KP.of (by simp[DC.conc]) rfl h
  ·rename_i hx;simp only[hx,DC.conc];exact KP.of (by simp only[DC.conc]) rfl h
  ·exact h.elim
 case minmax mx args=>
  simp only[wpOpS]at h
  simp only[wpOp,evS_map,concL_eq]
  split at h
  ·rename_i k a k' b hx
   simp only[hx,List.map_cons,List.map_nil,DC.conc]
   exact ⟨h.1,KP.of (by simp[DC.conc,OpsS.real,mxR]) rfl h.2⟩
  ·exact h.elim
 case tassert t ok x=>
  simp only[wpOpS]at h
  simp only[wpOp,evS_conc]
  split at h
  ·rename_i u d hx
   simp only[hx,DC.conc]
   refine ⟨h.1,?_⟩
   cases ok
   ·exact KP.of rfl rfl h.2
   ·exact KP.of (by simp[mkTup_conc,DC.conc,concL]) rfl h.2
  ·exact h.elim
 case invk tbl x args=>
  simp only[wpOpS]at h
  simp only[wpOp,evS_conc]
  split at h
  ·rename_i t d hx
   simp only[hx,DC.conc]
   split at h
   ·rename_i f hl
    simp only[hl]
    have:=hC _ _ _ _ h
    simp only[concL]at this
    rw[evS_map];exact this
   ·rename_i f hl
    simp only[hl]
    split at h
    ·rename_i b off
     simp only[DC.conc]
     split at h
     ·rename_i B hB
      obtain ⟨hf,h⟩:=h
      rw[StS.box_get hB]
      split at h
      ·exact h.elim
      ·rename_i c r hne hs
       have:=hC _ _ _ _ h
       simp only[concL]at this
       refine ⟨hf,c.conc,seek_head hs ?_,by rw[evS_map];exact this⟩
       exact cellS_of fun n t l e=>hne n t l (by simpa using e)
      ·exact h.elim
     ·exact h.elim
    ·exact h.elim
   ·exact h.elim
  ·exact h.elim
end
end Go.Ab
namespace Go.Ab
open Go.RowKit
def pure1:DC→Option DC
 | .p x=>some (.p x)
 | .sb b=>some (.sb b)
 | .arr n t l=>some (.arr n t l)
 | .tl nl t l=>some (.tl nl t l)
 | .og _ t l=>some (.tl none t l)
 | .gr _ t l=>some (.tl (some false) t l)
 | .tel t l k q=>some (.tel t l k q)
 | .fn f [] []=>some (.fn f [] [])
 | _=>none
def pureN (f:DC→Option DC):List DC→Option (List DC)
 | []=>some []
 | d :: r=>match f d,pureN f r with | some x,some l=>some (x :: l) | _,_=>none
def pure2:DC→Option DC
 | .agg cs=>match pureN pure1 cs with | some l=>some (.agg l) | none=>none
 | d=>pure1 d
def view1 (o:OpsS) (st:StS):DC→Option (DC×Prop)
 | .ms b off sz lo n=>match nthD st.box b with
  | some B=>(match B.fz with
   | true=>none
   | false=>(match seekC B.cells off with
    | some (.arr N t l :: _)=>if t.size=sz then some (.tl (some false) t (o.vw t N l (loOf lo) n),LEN (o.ad (loOf lo) n) N) else none
    | _=>none))
  | none=>none
 | .ptr b off=>match nthD st.box b with
  | some B=>(match B.fz with
   | true=>none
   | false=>(match seekC B.cells off with
    | some (.arr N t l :: _)=>some (.tel t (o.vw t N l 0 N) 0 0,True)
    | _=>none))
  | none=>none
 | d=>match pure1 d with | some x=>some (x,True) | none=>none
def viewCs (o:OpsS) (st:StS):List DC→Option (List DC×Prop)
 | []=>some ([],True)
 | d :: r=>match view1 o st d,viewCs o st r with | some (x,p),some (l,q)=>some (x :: l,p∧q) | _,_=>none
def view2 (o:OpsS) (st:StS):DC→Option (DC×Prop)
 | .agg cs=>match viewCs o st cs with | some (l,p)=>some (.agg l,p) | none=>none
 | d=>view1 o st d
def viewN (o:OpsS) (st:StS):List DC→Option (List DC×Prop)
 | []=>some ([],True)
 | d :: r=>match view2 o st d,viewN o st r with | some (x,p),some (l,q)=>some (x :: l,p∧q) | _,_=>none
theorem getD_mapP {l:List PD} {i:Nat} (h:i<l.length):(l.map D.p).getD i default=.p (l.getD i default):=by simp[List.getD,h]
theorem RD.mkAgg_inv {E:Em} {ds:List D} {u:Value} (h:RD E (Ab.mkAgg ds) u):∃ us:Array Value,u=.agg us∧us.size=ds.length∧∀ i,i<ds.length→RD E (ds.getD i default) (us.getD i undef):=by
 unfold Ab.mkAgg at h
 split at h
 ·rename_i ps hp
  obtain rfl:=allP_spec hp
  obtain ⟨us,rfl,hs,hR⟩:=h.p_inv.agg_inv
  refine ⟨us,rfl,by simpa using hs,fun i hi=>?_⟩
  rw[getD_mapP (by simpa using hi)]
  exact .p _ _ (hR i (by simpa using hi))
 ·obtain ⟨us,rfl,hs,hR⟩:=h.agg_inv
  exact ⟨us,rfl,hs,hR⟩
section
variable {E:Em} {u:Value}
theorem pure1_RD {d x:DC} (h:pure1 d=some x) (hr:RD E d.conc u):RD (noE E.G) x.conc u:=by
 have gen:∀ {y:PD},RD E (.p y) u→RD (noE E.G) (.p y) u:=fun hr=>.p _ _ hr.p_inv
 unfold pure1 at h
 split at h <;> first | cases h | (obtain rfl:=Option.some.inj h)
 ·exact gen hr
 ·exact gen hr
 ·rename_i n t l
  have e:(DC.arr n t l).conc=.p (.agg (t.rows (t.norm n l))):=by simp only[DC.conc,arrCells,mkAgg_map]
  rw[e]at hr ⊢;exact gen hr
 ·exact gen hr
 ·rename_i g t l
  cases l with
  | nil=>
   simp only[DC.conc]at hr ⊢
   rcases hr.p_inv.sl_inv with ⟨rfl,_⟩ | ⟨_,_,_,_,_,_,_,h',_⟩
   ·exact .p _ _ (.nil _ (by simp))
   ·exact absurd rfl h'
  | cons y r=>
   simp only[DC.conc]at hr ⊢
   have:=hr.grp_sl
   rcases this.sl_inv with ⟨_,e0,_,_⟩ | ⟨b,q,sp,cap,us,rfl,h1,h2,hG,hR,hs⟩
   ·exact absurd e0 (Nat.succ_ne_zero _)
   ·exact .p _ _ (.sl' _ _ _ b q cap us sp (by simp) h1 hG hR hs)
 ·simp only[DC.conc]at hr ⊢
  exact .p _ _ hr.grp_sl
 ·simp only[DC.conc]at hr ⊢
  obtain ⟨b,q,us,rfl,hG,hR⟩:=hr.el_inv
  exact .el _ _ _ us hG hR
 ·simp only[DC.conc,concL]at hr ⊢
  obtain ⟨us,ws,rfl,q1,q2,q3,q4⟩:=hr.fn_inv
  exact .fn _ _ _ us ws q1 q2 (fun i hi=>absurd hi (Nat.not_lt_zero _)) (fun i hi=>absurd hi (Nat.not_lt_zero _))
theorem pureN_RDs {f:DC→Option DC} (hf:∀ d x u,f d=some x→RD E d.conc u→RD (noE E.G) x.conc u):∀ {ds xs:List DC},pureN f ds=some xs→xs.length=ds.length∧∀ us:Nat→Value,(∀ i,i<ds.length→RD E ((ds.map DC.conc).getD i default) (us i)) →
  ∀ i,i<xs.length→RD (noE E.G) ((xs.map DC.conc).getD i default) (us i)
 | [],xs,h=>by simp only[pureN,Option.some.injEq]at h;subst h;exact ⟨rfl,fun _ _ i hi=>absurd hi (Nat.not_lt_zero _)⟩
 | d :: ds,xs,h=>by
  simp only[pureN]at h
  split at h
  ·rename_i x r h1 h2
   obtain rfl:=Option.some.inj h
   obtain ⟨k1,k2⟩:=pureN_RDs hf h2
   refine ⟨by simp[k1],fun us hR i hi=>?_⟩
   cases i with
   | zero=>exact hf _ _ _ h1 (hR 0 (by simp))
   | succ i=>exact k2 (fun i=>us (i+1)) (fun i hi=>hR (i+1) (by simpa using hi)) i (by simpa using hi)
  ·cases h
theorem pure1_cell {d x:DC} (h:pure1 d=some x):(∃ n t l,d=.arr n t l∧x=.arr n t l)∨(cellS d=[d.conc]∧cellS x=[x.conc]):=by
 unfold pure1 at h
 split at h <;> first | cases h | (obtain rfl:=Option.some.inj h)
 all_goals first | exact .inl ⟨_,_,_,rfl,rfl⟩ | exact .inr ⟨rfl,rfl⟩
theorem pureN_cells:∀ {ds xs:List DC},pureN pure1 ds=some xs→(concCs xs).length=(concCs ds).length∧∀ us:Nat→Value,(∀ i,i<(concCs ds).length→RD E ((concCs ds).getD i default) (us i)) →
  ∀ i,i<(concCs xs).length→RD (noE E.G) ((concCs xs).getD i default) (us i)
 | [],xs,h=>by simp only[pureN,Option.some.injEq]at h;subst h;simp[concCs_nil]
 | d :: ds,xs,h=>by
  simp only[pureN]at h
  split at h
  ·rename_i x r h1 h2
   obtain rfl:=Option.some.inj h
   obtain ⟨k1,k2⟩:=pureN_cells h2
   rw[concCs_cons,concCs_cons]
   have hlen:(cellS x).length=(cellS d).length:=by
    rcases pure1_cell h1 with ⟨n,t,l,rfl,rfl⟩ | ⟨e1,e2⟩
    ·rfl
    ·rw[e1,e2];rfl
   refine ⟨by simp[k1,hlen],fun us hR i hi=>?_⟩
   have split:∀ (A B:List D) (i:Nat),(A ++ B).getD i default=if i<A.length then A.getD i default else B.getD (i - A.length) default:=fun A B i=>by
    simp only[List.getD]
    by_cases h:i<A.length
    ·rw[if_pos h,List.getElem?_append_left h]
    ·rw[if_neg h,List.getElem?_append_right (by omega)]
   rw[split]
   by_cases hlt:i<(cellS x).length
   ·rw[if_pos hlt]
    have h0:=hR i (by simp;omega)
    rw[split,if_pos (by omega)]at h0
    rcases pure1_cell h1 with ⟨n,t,l,rfl,rfl⟩ | ⟨e1,e2⟩
    ·simp only[cellS,arrCells]at h0 ⊢
     simp only[cellS,arrCells,List.length_map]at hlt
     rw[getD_mapP hlt]at h0 ⊢
     exact .p _ _ h0.p_inv
    ·rw[e2]at hlt ⊢
     rw[e1]at h0
     simp only[List.length_singleton]at hlt
     have:i=0:=by omega
     subst this
     exact pure1_RD h1 h0
   ·rw[if_neg hlt]
    have:=k2 (fun j=>us (j+(cellS d).length)) (fun j hj=>by
     have h0:=hR (j+(cellS d).length) (by simp;omega)
     rw[split,if_neg (by omega),Nat.add_sub_cancel]at h0
     exact h0) (i - (cellS x).length) (by simp at hi;omega)
    rw[show i - (cellS x).length+(cellS d).length=i by omega]at this
    exact this
  ·cases h
theorem pure2_RD {d x:DC} (h:pure2 d=some x) (hr:RD E d.conc u):RD (noE E.G) x.conc u:=by
 unfold pure2 at h
 split at h
 ·rename_i cs
  split at h
  ·rename_i l hl
   obtain rfl:=Option.some.inj h
   obtain ⟨k1,k2⟩:=pureN_cells (E:=E) hl
   simp only[DC.conc]at hr ⊢
   obtain ⟨us,rfl,hs,hR⟩:=hr.mkAgg_inv
   exact RD.mkAgg (.agg _ us (by omega) (k2 (fun i=>us.getD i undef) hR))
  ·cases h
 ·exact pure1_RD h hr
end
end Go.Ab
namespace Go.Ab
open Go.RowKit
theorem pureN_as {ds xs:List DC} (h:pureN pure2 ds=some xs):PureAs (concL ds) (concL xs):=by
 refine ⟨?_,fun E=>?_⟩
 ·have:=(pureN_RDs (E:=noE fun _ _=>none) (f:=pure2) (fun d x u h hr=>pure2_RD h hr) h).1
  simpa [concL_eq] using this
 ·have:=(pureN_RDs (E:=E) (f:=pure2) (fun d x u h hr=>pure2_RD h hr) h).2
  simpa [concL_eq] using this
theorem RD.toNow {E:Em} {w:World} (hg:GOK E.G w) {d:DC} {u:Value} (h:RD (noE E.G) d.conc u):RD (noE (nowG E w)) d.conc u:=
 RD.mono (E:=noE E.G) (E':=noE (nowG E w)) ⟨fun b o u hu=>nowG_le hg b o u hu,(fun i b h=>absurd h (by rintro (h | h) <;> cases h)),(fun _ _ _=>rfl),(fun g b cap cur h=>absurd h (by intro h;cases h))⟩ h
theorem seg_now {E:Em} {w:World} {st:StS} {bs':List Box} (hb:boxLe st.conc.box bs') (hg:GOK E.G w) (hB:BoxOK E bs' w) {b off N:Nat} {t:Ty} {l:List t.den} {r:List DC} {B:BoxS} (hn:nthD st.box b=some B) (hf:B.fz=false) (hs:seekC B.cells off=some (.arr N t l :: r))
  {blk:Nat} (hN:E.N b blk):∃ vs:Nat→Value,(∀ j,j<N*t.size→nowG E w blk (off+j)=some (vs j))∧∀ j,j<N*t.size→RP (nowG E w) ((t.rows (t.norm N l)).getD j default) (vs j):=by
 have h1:=hb _ _ (StS.box_get hn)
 have hι:=hB.live hN h1 (by simpa [BoxS.conc] using hf)
 obtain ⟨vs,k2,k3,k4⟩:=hB.get hι h1 (by simpa [BoxS.conc] using hf)
 obtain ⟨q1,q2⟩:=seg_get hs
 simp only[BoxS.conc]at k3 k4
 have hget:∀ j,j<N*t.size→(concCs B.cells).getD (off+j) default=.p ((t.rows (t.norm N l)).getD j default):=fun j hj=>by
  have e:(concCs B.cells).getD (off+j) default=((concCs B.cells).drop off).getD j default:=by simp[List.getD]
  rw[e,q2]
  simp only[List.getD]
  rw[List.getElem?_append_left (by rw[arrCells_length];exact hj)]
  have:=getD_mapP (l:=t.rows (t.norm N l)) (i:=j) (by rw[Ty.rows_length,Ty.norm_length];exact hj)
  simpa [List.getD,arrCells] using this
 refine ⟨fun j=>vs.getD (off+j) undef,fun j hj=>?_,fun j hj=>?_⟩
 ·exact nowG_box hι k2 (by omega) (k4 _ (by omega)).2
 ·have h3:=(k4 (off+j) (by omega)).1
  rw[hget j hj]at h3
  exact h3.p_inv.mono (nowG_le hg)
theorem rows_vw_get {t:Ty} {N a n i:Nat} {l:List t.den} (h:a+n≤N) (hi:i<n*t.size):(t.rows (vwR t N l a n)).getD i default=(t.rows (t.norm N l)).getD (a*t.size+i) default:=by
 have e:t.rows (vwR t N l a n)=((t.rows (t.norm N l)).drop (a*t.size)).take (n*t.size):=by
  rw[Ty.rows_drop,Ty.rows_take];rfl
 rw[e]
 simp only[List.getD]
 rw[List.getElem?_take,if_pos hi,List.getElem?_drop]
theorem view1_RD {st:StS} {d x:DC} {p:Prop} (h:view1 OpsS.real st d=some (x,p)) (hp:p) {bs':List Box} (hb:boxLe st.conc.box bs') {E:Em} {w:World} (hg:GOK E.G w) (hB:BoxOK E bs' w) {u:Value} (hr:RD E d.conc u):RD (noE (nowG E w)) x.conc u:=by
 unfold view1 at h
 split at h
 ·rename_i b off sz lo n
  split at h
  ·rename_i B hn
   split at h
   ·cases h
   ·rename_i hf
    split at h
    ·rename_i N t l r hs
     split at h
     ·rename_i hsz
      simp only[Option.some.injEq,Prod.mk.injEq]at h
      obtain ⟨rfl,rfl⟩:=h
      have hp:=hp.h
      have hlo:loOf lo=lo.getD 0:=by cases lo <;> rfl
      simp only[OpsS.real]at hp ⊢
      rw[hlo]at hp ⊢
      simp only[DC.conc]at hr ⊢
      generalize lo.getD 0=a at *
      obtain ⟨blk,cap,hN,hc,_,rfl⟩:=hr.ms_inv
      obtain ⟨vs,q1,q2⟩:=seg_now hb hg hB hn hf hs hN
      have hlen:(vwR t N l a n).length=n:=by simp[vwR,Ty.norm_length];omega
      have hrl:(t.rows (vwR t N l a n)).length=n*t.size:=by rw[Ty.rows_length,hlen]
      have hmul:(a+n)*t.size≤N*t.size:=Nat.mul_le_mul_right _ hp
      rw[Nat.add_mul]at hmul
      rw[hlen]
      refine .p _ _ (.sl _ _ _ blk (off+a*sz) cap (fun j=>vs (a*t.size+j)) (by simp) hc (fun i hi=>?_) (fun i hi=>?_))
      ·rw[hrl]at hi
       have:=q1 (a*t.size+i) (by omega)
       rw[←hsz,Nat.add_assoc];exact this
      ·rw[hrl]at hi
       rw[rows_vw_get hp hi]
       exact q2 (a*t.size+i) (by omega)
     ·cases h
    ·cases h
  ·cases h
 ·rename_i b off
  split at h
  ·rename_i B hn
   split at h
   ·cases h
   ·rename_i hf
    split at h
    ·rename_i N t l r hs
     simp only[Option.some.injEq,Prod.mk.injEq]at h
     obtain ⟨rfl,rfl⟩:=h
     simp only[DC.conc]at hr ⊢
     obtain ⟨blk,hN,rfl⟩:=hr.ptr_inv
     obtain ⟨vs,q1,q2⟩:=seg_now hb hg hB hn hf hs hN
     have e:vwR t N l 0 N=t.norm N l:=by simp[vwR,Ty.norm_length,List.take_of_length_le]
     simp only[OpsS.real,e,Int.toNat_zero,List.drop_zero]
     have hrl:(t.rows (t.norm N l)).length=N*t.size:=by rw[Ty.rows_length,Ty.norm_length]
     exact .el _ blk off vs (fun i hi=>q1 i (by omega)) (fun i hi=>q2 i (by omega))
    ·cases h
  ·cases h
 ·split at h
  ·rename_i y hy
   simp only[Option.some.injEq,Prod.mk.injEq]at h
   obtain ⟨rfl,rfl⟩:=h
   exact RD.toNow hg (pure1_RD hy hr)
  ·cases h
theorem view1_cell {st:StS} {d x:DC} {p:Prop} (h:view1 OpsS.real st d=some (x,p)):(∃ n t l,d=.arr n t l∧x=.arr n t l)∨(cellS d=[d.conc]∧cellS x=[x.conc]):=by
 unfold view1 at h
 split at h
 ·right
  split at h
  ·split at h
   ·cases h
   ·split at h
    ·split at h
     ·simp only[Option.some.injEq,Prod.mk.injEq]at h;obtain ⟨rfl,_⟩:=h;exact ⟨rfl,rfl⟩
     ·cases h
    ·cases h
  ·cases h
 ·right
  split at h
  ·split at h
   ·cases h
   ·split at h
    ·simp only[Option.some.injEq,Prod.mk.injEq]at h;obtain ⟨rfl,_⟩:=h;exact ⟨rfl,rfl⟩
    ·cases h
  ·cases h
 ·split at h
  ·rename_i y hy
   simp only[Option.some.injEq,Prod.mk.injEq]at h
   obtain ⟨rfl,_⟩:=h
   exact pure1_cell hy
  ·cases h
theorem getD_app (A B:List D) (i:Nat):(A ++ B).getD i default=if i<A.length then A.getD i default else B.getD (i - A.length) default:=by
 simp only[List.getD]
 by_cases h:i<A.length
 ·rw[if_pos h,List.getElem?_append_left h]
 ·rw[if_neg h,List.getElem?_append_right (by omega)]
theorem viewCs_cells {st:StS} {bs':List Box} (hb:boxLe st.conc.box bs') {E:Em} {w:World} (hg:GOK E.G w) (hB:BoxOK E bs' w):∀ {ds xs:List DC} {p:Prop},viewCs OpsS.real st ds=some (xs,p)→p→(concCs xs).length=(concCs ds).length∧∀ us:Nat→Value,(∀ i,i<(concCs ds).length→RD E ((concCs ds).getD i default) (us i)) →
  ∀ i,i<(concCs xs).length→RD (noE (nowG E w)) ((concCs xs).getD i default) (us i)
 | [],xs,p,h,hp=>by
  simp only[viewCs,Option.some.injEq,Prod.mk.injEq]at h
  obtain ⟨rfl,rfl⟩:=h
  simp[concCs_nil]
 | d :: ds,xs,p,h,hp=>by
  simp only[viewCs]at h
  split at h
  ·rename_i x q r q' h1 h2
   simp only[Option.some.injEq,Prod.mk.injEq]at h
   obtain ⟨rfl,rfl⟩:=h
   obtain ⟨k1,k2⟩:=viewCs_cells hb hg hB h2 hp.2
   rw[concCs_cons,concCs_cons]
   have hlen:(cellS x).length=(cellS d).length:=by
    rcases view1_cell h1 with ⟨n,t,l,rfl,rfl⟩ | ⟨e1,e2⟩
    ·rfl
    ·rw[e1,e2];rfl
   refine ⟨by simp[k1,hlen],fun us hR i hi=>?_⟩
   rw[getD_app]
   by_cases hlt:i<(cellS x).length
   ·rw[if_pos hlt]
    have h0:=hR i (by simp;omega)
    rw[getD_app,if_pos (by omega)]at h0
    rcases view1_cell h1 with ⟨n,t,l,rfl,rfl⟩ | ⟨e1,e2⟩
    ·simp only[cellS,arrCells]at h0 ⊢
     simp only[cellS,arrCells,List.length_map]at hlt
     rw[getD_mapP hlt]at h0 ⊢
     exact .p _ _ (h0.p_inv.mono (nowG_le hg))
    ·rw[e2]at hlt ⊢
     rw[e1]at h0
     simp only[List.length_singleton]at hlt
     have:i=0:=by omega
     subst this
     exact view1_RD h1 hp.1 hb hg hB h0
   ·rw[if_neg hlt]
    have:=k2 (fun j=>us (j+(cellS d).length)) (fun j hj=>by
     have h0:=hR (j+(cellS d).length) (by simp;omega)
     rw[getD_app,if_neg (by omega),Nat.add_sub_cancel]at h0
     exact h0) (i - (cellS x).length) (by simp at hi;omega)
    rw[show i - (cellS x).length+(cellS d).length=i by omega]at this
    exact this
  ·cases h
theorem view2_RD {st:StS} {d x:DC} {p:Prop} (h:view2 OpsS.real st d=some (x,p)) (hp:p) {bs':List Box} (hb:boxLe st.conc.box bs') {E:Em} {w:World} (hg:GOK E.G w) (hB:BoxOK E bs' w) {u:Value} (hr:RD E d.conc u):RD (noE (nowG E w)) x.conc u:=by
 unfold view2 at h
 split at h
 ·rename_i cs
  split at h
  ·rename_i l q hl
   simp only[Option.some.injEq,Prod.mk.injEq]at h
   obtain ⟨rfl,rfl⟩:=h
   obtain ⟨k1,k2⟩:=viewCs_cells hb hg hB hl hp
   simp only[DC.conc]at hr ⊢
   obtain ⟨us,rfl,hs,hR⟩:=hr.mkAgg_inv
   exact RD.mkAgg (.agg _ us (by omega) (k2 (fun i=>us.getD i undef) hR))
  ·cases h
 ·exact view1_RD h hp hb hg hB hr
theorem viewN_as {st:StS}:∀ {ds xs:List DC} {p:Prop},viewN OpsS.real st ds=some (xs,p)→p→ViewAs st.conc.box (concL ds) (concL xs)
 | [],xs,p,h,hp=>by
  simp only[viewN,Option.some.injEq,Prod.mk.injEq]at h
  obtain ⟨rfl,rfl⟩:=h
  exact ⟨rfl,fun _ _ _ _ _ _ _ _ i hi=>absurd hi (Nat.not_lt_zero _)⟩
 | d :: ds,xs,p,h,hp=>by
  simp only[viewN]at h
  split at h
  ·rename_i x q l q' h1 h2
   simp only[Option.some.injEq,Prod.mk.injEq]at h
   obtain ⟨rfl,rfl⟩:=h
   obtain ⟨k1,k2⟩:=viewN_as h2 hp.2
   refine ⟨by simp[concL,k1],fun bs' hb E w hg hB us hR i hi=>?_⟩
   cases i with
   | zero=>exact view2_RD h1 hp.1 hb hg hB (hR 0 (by simp[concL]))
   | succ i=>exact k2 bs' hb E w hg hB (fun i=>us (i+1)) (fun i hi=>hR (i+1) (by simpa [concL] using hi)) i (by simpa [concL] using hi)
  ·cases h
end Go.Ab
