/- Abstract values and states for the functions of a translated program,and preconditions over them: evaluation with symbols: code,contracts,laws over typed data. What is proved holds for every program,without conditions. -/
import Derived.Test.YteiolnofaebknaaAbD
import Derived.WalkKit
import Derived.ProofKit
import Derived.OpenShut
import Derived.ReadAgain
set_option linter.unusedSimpArgs false
set_option linter.unusedVariables false
namespace Go.Ab
open Go.RowKit
structure nlLe (a b:Option Bool):Prop where
 h:b=none∨a=b
theorem nlLe_self {a:Option Bool}:nlLe a a↔True:=⟨fun _=>trivial,fun _=>⟨.inr rfl⟩⟩
theorem nlLe_none {a:Option Bool}:nlLe a none↔True:=⟨fun _=>trivial,fun _=>⟨.inl rfl⟩⟩
def lstEq (t t':Ty) (l:List t.den) (l':List t'.den):Prop:=match castL t' t l with
 | some x=>x=l'
 | none=>False
def fN (fl:List (Option Nat)) (j:Nat):Option Nat:=match nthD fl j with
 | some (some i)=>some i
 | _=>none
def isN:Option Nat→Nat→Bool
 | some i,j=>Nat.beq i j
 | none,_=>false
def lePD:PD→PD→Prop
 | .v (.int k a),.v (.int k' b)=>k=k'∧a=b
 | .v (.bool a),.v (.bool b)=>a=b
 | .sl nl 0 [],.sl nl' 0 []=>nlLe nl nl'
 | x,y=>x=y
def loEq:Option Nat→Option Nat→Prop
 | none,none=>True
 | some a,some b=>a=b
 | _,_=>False
def isArr:DC→Bool
 | .arr _ _ _=>true
 | _=>false
section
variable (fl hl:List (Option Nat))
mutual
def leS:DC→DC→Prop
 | _,.bad=>True
 | .p x,.p y=>lePD x y
 | .sb a,.sb b=>a=b
 | .p (.v (.bool a)),.sb b=>a=b
 | .tl nl t l,.tl nl' t' l'=>nlLe nl nl'∧lstEq t t' l l'
 | .p (.sl nl 0 []),.tl nl' _ l'=>nlLe nl nl'∧l'=[]
 | .p (.sl (some true) 0 []),.og _ _ l=>l=[]
 | .og g t l,.og g' t' l'=>isN (fN hl g') g=true∧lstEq t t' l l'
 | .og _ t l,.tl none t' l'=>lstEq t t' l l'
 | .gr g t l,.gr g' t' l'=>isN (fN hl g') g=true∧lstEq t t' l l'
 | .gr _ t l,.tl nl' t' l'=>nlLe (some false) nl'∧lstEq t t' l l'
 | .tel t l k q,.tel t' l' k' q'=>lstEq t t' l l'∧k=k'∧q=q'
 | .ptr b off,.ptr b' off'=>isN (fN fl b') b=true∧off=off'
 | .ept b off sz k q,.ept b' off' sz' k' q'=>isN (fN fl b') b=true∧off=off'∧sz=sz'∧k=k'∧q=q'
 | .ms b off sz lo n,.ms b' off' sz' lo' n'=>isN (fN fl b') b=true∧off=off'∧sz=sz'∧loEq lo lo'∧n=n'
 | .agg cs,.agg cs'=>leCs cs cs'
 | .p (.agg ps),.agg cs'=>leCs (ps.map .p) cs'
 | .tup ds,.tup ds'=>leSs ds ds'
 | .fn f a b,.fn f' a' b'=>f=f'∧leSs a a'∧leSs b b'
 | .ifc t x,.ifc t' x'=>t=t'∧leS x x'
 | .mref b,.mref b'=>isN (fN fl b') b=true
 | .rel d,.rel d'=>leS d d'
 | _,_=>False
def leSs:List DC→List DC→Prop
 | [],[]=>True
 | d :: ds,d' :: ds'=>leS d d'∧leSs ds ds'
 | _,_=>False
def leCs:List DC→List DC→Prop
 | [],[]=>True
 | .arr n t l :: ds,.arr n' t' l' :: ds'=>n=n'∧lstEq t t' l l'∧leCs ds ds'
 | d :: ds,d' :: ds'=>isArr d=false∧isArr d'=false∧leS d d'∧leCs ds ds'
 | _,_=>False
end
end
theorem RP.fl {G:Mem} {nl nl':Option Bool} {n:Nat} {c:List PD} {u:Value} (h:RP G (.sl nl n c) u) (hl:nlLe nl nl'):RP G (.sl nl' n c) u:=by
 have e:nl'=none∨nl=nl':=hl.h
 rcases e with rfl | rfl
 ·rcases h.sl_inv with ⟨rfl,rfl,rfl,h4⟩ | ⟨b,q,sp,cap,us,rfl,h1,h2,hG,hR,hs⟩
  ·exact .nil _ (by simp)
  ·exact .sl' _ _ _ b q cap us sp (by simp) h1 hG hR hs
 ·exact h
theorem lePD_RP {G:Mem} {x y:PD} {u:Value} (hl:lePD x y) (h:RP G x u):RP G y u:=by
 unfold lePD at hl
 split at hl
 ·obtain ⟨rfl,rfl⟩:=hl;exact h
 ·subst hl;exact h
 ·exact h.fl hl
 ·subst hl;exact h
theorem lstEq_eq {t t':Ty} {l:List t.den} {l':List t'.den} (h:lstEq t t' l l'):t=t'∧HEq l l':=by
 unfold lstEq at h
 split at h
 ·rename_i x hx
  obtain ⟨rfl,e⟩:=castL_eq hx
  subst h
  exact ⟨rfl,e⟩
 ·exact h.elim
theorem isN_eq {a:Option Nat} {b:Nat} (h:isN a b=true):a=some b:=by
 unfold isN at h
 split at h
 ·rename_i i;rw[Nat.eq_of_beq_eq_true h]
 ·cases h
theorem loEq_eq {a b:Option Nat} (h:loEq a b):a=b:=by
 unfold loEq at h
 split at h
 ·rfl
 ·rw[h]
 ·exact h.elim
section
variable {fl hl:List (Option Nat)}
theorem LeD.p {f h:Nat→Option Nat} {x y:PD} (hl:∀ G u,RP G x u→RP G y u):LeD f h (.p x) (.p y):=fun E E' u hn hr=>by
 have:=hl _ _ hr.p_inv
 exact .p _ _ (by rw[hn.G];exact this)
theorem og_sl {E:Em} {g:Nat} {t:Ty} {l:List t.den} {u:Value} (h:RD E (DC.og g t l).conc u):RP E.G (.sl none l.length (t.rows l)) u:=by
 cases l with
 | nil=>simp only[DC.conc]at h;exact h.p_inv.fl ⟨.inl rfl⟩
 | cons y r=>simp only[DC.conc]at h;exact h.grp_sl.fl ⟨.inl rfl⟩
theorem LeD.list {f h:Nat→Option Nat} {E E':Em} (hn:Nm f h E E'):∀ {ds ds':List D},ds.length=ds'.length→(∀ i,i<ds'.length→LeD f h (ds.getD i default) (ds'.getD i default))→∀ us:Nat→Value,(∀ i,i<ds.length→RD E (ds.getD i default) (us i)) →
  ∀ i,i<ds'.length→RD E' (ds'.getD i default) (us i):=fun {ds ds'} hl hd us hR i hi=>hd i hi E E' _ hn (hR i (by omega))
def LeDs (f h:Nat→Option Nat) (ds ds':List D):Prop:=ds.length=ds'.length∧∀ i,i<ds'.length→LeD f h (ds.getD i default) (ds'.getD i default)
theorem LeDs.cons {f h:Nat→Option Nat} {d d':D} {ds ds':List D} (hd:LeD f h d d') (hs:LeDs f h ds ds'):LeDs f h (d :: ds) (d' :: ds'):=⟨by simp[hs.1],fun i hi=>by
 cases i with
 | zero=>exact hd
 | succ i=>exact hs.2 i (by simpa using hi)⟩
theorem LeDs.append {f h:Nat→Option Nat}:∀ {a a' b b':List D},LeDs f h a a'→LeDs f h b b'→LeDs f h (a ++ b) (a' ++ b')
 | [],[],_,_,_,hb=>hb
 | [],_ :: _,_,_,ha,_=>by have:=ha.1;simp at this
 | _ :: _,[],_,_,ha,_=>by have:=ha.1;simp at this
 | x :: a,x' :: a',b,b',ha,hb=>.cons (ha.2 0 (by simp)) (LeDs.append ⟨by have:=ha.1;simpa using this,fun i hi=>ha.2 (i+1) (by simpa using hi)⟩ hb)
theorem LeD.same {f h:Nat→Option Nat} (x:PD):LeD f h (.p x) (.p x):=.p fun _ _ h=>h
theorem LeDs.same {f h:Nat→Option Nat}:∀ l:List PD,LeDs f h (l.map .p) (l.map .p)
 | []=>⟨rfl,fun i hi=>absurd hi (Nat.not_lt_zero _)⟩
 | x :: l=>.cons (.same x) (LeDs.same l)
theorem LeD.agg {f h:Nat→Option Nat} {ds ds':List D} (hd:LeDs f h ds ds'):LeD f h (mkAgg ds) (mkAgg ds'):=fun E E' u hn hr=>by
 obtain ⟨us,rfl,hs,hR⟩:=hr.mkAgg_inv
 exact RD.mkAgg (.agg _ us (by rw[hs,hd.1]) (LeD.list hn hd.1 hd.2 (fun i=>us.getD i undef) hR))
theorem RD.mkTup_inv {E:Em} {ds:List D} {u:Value} (h:RD E (Ab.mkTup ds) u):∃ us:Array Value,u=.tuple us∧us.size=ds.length∧∀ i,i<ds.length→RD E (ds.getD i default) (us.getD i undef):=by
 unfold Ab.mkTup at h
 split at h
 ·rename_i ps hp
  obtain rfl:=allP_spec hp
  obtain ⟨us,rfl,hs,hR⟩:=h.p_inv.tup_inv
  refine ⟨us,rfl,by simpa using hs,fun i hi=>?_⟩
  rw[getD_mapP (by simpa using hi)]
  exact .p _ _ (hR i (by simpa using hi))
 ·obtain ⟨us,rfl,hs,hR⟩:=h.tup_inv
  exact ⟨us,rfl,hs,hR⟩
theorem LeD.tup {f h:Nat→Option Nat} {ds ds':List D} (hd:LeDs f h ds ds'):LeD f h (mkTup ds) (mkTup ds'):=fun E E' u hn hr=>by
 obtain ⟨us,rfl,hs,hR⟩:=RD.mkTup_inv hr
 exact RD.mkTup (.tup _ us (by rw[hs,hd.1]) (LeD.list hn hd.1 hd.2 (fun i=>us.getD i undef) hR))
mutual
theorem leS_sound (d d':DC) (h:leS fl hl d d'):LeD (fN fl) (fN hl) d.conc d'.conc:=by
 cases d' with
 | bad=>exact fun E E' u _ _=>by simp only[DC.conc];exact .bad _
 | p y=>
  cases d <;> simp only[leS]at h
  simp only[DC.conc];exact .p fun _ _ hr=>lePD_RP h hr
 | sb b=>
  cases d with
  | sb a=>simp only[leS]at h;subst h;simp only[DC.conc];exact .same _
  | p x=>
   rcases x with x | _ | _ | _
   ·cases x <;> simp only[leS]at h
    subst h;simp only[DC.conc];exact .same _
   all_goals simp only[leS]at h
  | _=>simp only[leS]at h
 | arr n t l=>cases d <;> simp only[leS]at h
 | tl nl' t' l'=>
  cases d with
  | tl nl t l=>
   simp only[leS]at h
   obtain ⟨rfl,e⟩:=lstEq_eq h.2
   obtain rfl:=eq_of_heq e
   simp only[DC.conc];exact .p fun _ _ hr=>hr.fl h.1
  | p x=>
   rcases x with x | ⟨nl,n,c⟩ | _ | _
   ·simp only[leS]at h
   ·rcases n with _ | n
    ·cases c with
     | nil=>
      simp only[leS]at h
      obtain ⟨h1,rfl⟩:=h
      simp only[DC.conc];exact .p fun _ _ hr=>hr.fl h1
     | cons=>simp only[leS]at h
    ·simp only[leS]at h
   all_goals simp only[leS]at h
  | og g t l=>
   cases nl' with
   | none=>
    simp only[leS]at h
    obtain ⟨rfl,e⟩:=lstEq_eq h
    obtain rfl:=eq_of_heq e
    intro E E' u hn hr
    have:=og_sl hr
    simp only[DC.conc]
    exact .p _ _ (by rw[hn.G];exact this)
   | some b=>simp only[leS]at h
  | gr g t l=>
   simp only[leS]at h
   obtain ⟨rfl,e⟩:=lstEq_eq h.2
   obtain rfl:=eq_of_heq e
   intro E E' u hn hr
   simp only[DC.conc]at hr ⊢
   exact .p _ _ (by rw[hn.G];exact hr.grp_sl.fl h.1)
  | _=>simp only[leS]at h
 | og g' t' l'=>
  cases d with
  | p x=>
   rcases x with x | ⟨nl,n,c⟩ | _ | _
   ·simp only[leS]at h
   ·rcases nl with _ | _ | _ <;> rcases n with _ | n <;> cases c <;> simp only[leS]at h
    subst h;simp only[DC.conc];exact .same _
   all_goals simp only[leS]at h
  | og g t l=>
   simp only[leS]at h
   obtain ⟨rfl,e⟩:=lstEq_eq h.2
   obtain rfl:=eq_of_heq e
   have hg:=isN_eq h.1
   intro E E' u hn hr
   cases l with
   | nil=>simp only[DC.conc]at hr ⊢;exact .p _ _ (by rw[hn.G];exact hr.p_inv)
   | cons y r=>
    simp only[DC.conc]at hr ⊢
    obtain ⟨b,cap,cur,q1,q2,q3,q4⟩:=hr.grp_inv
    exact .grp _ _ _ _ b cap cur (hn.g _ _ _ hg q1) q2 (by rw[hn.G];exact q3) q4
  | _=>simp only[leS]at h
 | gr g' t' l'=>
  cases d with
  | gr g t l=>
   simp only[leS]at h
   obtain ⟨rfl,e⟩:=lstEq_eq h.2
   obtain rfl:=eq_of_heq e
   have hg:=isN_eq h.1
   intro E E' u hn hr
   simp only[DC.conc]at hr ⊢
   obtain ⟨b,cap,cur,q1,q2,q3,q4⟩:=hr.grp_inv
   exact .grp _ _ _ _ b cap cur (hn.g _ _ _ hg q1) q2 (by rw[hn.G];exact q3) q4
  | _=>simp only[leS]at h
 | tel t' l' k' q'=>
  cases d with
  | tel t l k q=>
   simp only[leS]at h
   obtain ⟨h1,rfl,rfl⟩:=h
   obtain ⟨rfl,e⟩:=lstEq_eq h1
   obtain rfl:=eq_of_heq e
   intro E E' u hn hr
   simp only[DC.conc]at hr ⊢
   obtain ⟨b,o,us,rfl,hG,hR⟩:=hr.el_inv
   exact .el _ _ _ us (by rw[hn.G];exact hG) (by rw[hn.G];exact hR)
  | _=>simp only[leS]at h
 | ptr b' off'=>
  cases d with
  | ptr b off=>
   simp only[leS]at h
   obtain ⟨h1,rfl⟩:=h
   intro E E' u hn hr
   simp only[DC.conc]at hr ⊢
   obtain ⟨x,hN,rfl⟩:=hr.ptr_inv
   exact .ptr _ _ _ (hn.b _ _ _ (isN_eq h1) hN).1
  | _=>simp only[leS]at h
 | ept b' off' sz' k' q'=>
  cases d with
  | ept b off sz k q=>
   simp only[leS]at h
   obtain ⟨h1,rfl,rfl,rfl,rfl⟩:=h
   intro E E' u hn hr
   simp only[DC.conc]at hr ⊢
   obtain ⟨x,hN,rfl⟩:=hr.ptr_inv
   exact .ptr _ _ _ (hn.b _ _ _ (isN_eq h1) hN).1
  | _=>simp only[leS]at h
 | ms b' off' sz' lo' n'=>
  cases d with
  | ms b off sz lo n=>
   simp only[leS]at h
   obtain ⟨h1,rfl,rfl,h4,rfl⟩:=h
   obtain rfl:=loEq_eq h4
   intro E E' u hn hr
   simp only[DC.conc]at hr ⊢
   obtain ⟨x,cap,hN,hc,hk,rfl⟩:=hr.ms_inv
   obtain ⟨k1,k2⟩:=hn.b _ _ _ (isN_eq h1) hN
   exact .ms _ _ _ x cap k1 hc (fun c0 h0=>hk c0 (k2.symm.trans h0))
  | _=>simp only[leS]at h
 | agg cs'=>
  cases d with
  | agg cs=>
   simp only[leS]at h
   simp only[DC.conc]
   exact .agg (leCs_sound cs cs' h)
  | p x=>
   rcases x with _ | _ | ps | _ <;> simp only[leS]at h
   have:=leCs_sound _ cs' h
   rw[concCs_map]at this
   simp only[DC.conc]
   rw[←mkAgg_map]
   exact .agg this
  | _=>simp only[leS]at h
 | tup ds'=>
  cases d with
  | tup ds=>
   simp only[leS]at h
   simp only[DC.conc]
   exact .tup (leSs_sound ds ds' h)
  | _=>simp only[leS]at h
 | fn f' a' b'=>
  cases d with
  | fn f a b=>
   simp only[leS]at h
   obtain ⟨rfl,h1,h2⟩:=h
   obtain k1:=leSs_sound a a' h1
   obtain k2:=leSs_sound b b' h2
   intro E E' u hn hr
   simp only[DC.conc]at hr ⊢
   obtain ⟨us,ws,rfl,q1,q2,q3,q4⟩:=hr.fn_inv
   exact .fn _ _ _ us ws (by rw[q1,k1.1]) (by rw[q2,k2.1]) (LeD.list hn k1.1 k1.2 (fun i=>us.getD i undef) q3) (LeD.list hn k2.1 k2.2 (fun i=>ws.getD i undef) q4)
  | _=>simp only[leS]at h
 | ifc t' x'=>
  cases d with
  | ifc t x=>
   simp only[leS]at h
   obtain ⟨rfl,h1⟩:=h
   have k:=leS_sound x x' h1
   intro E E' u hn hr
   simp only[DC.conc]at hr ⊢
   obtain ⟨v,rfl,hv⟩:=hr.ifc_inv
   exact .ifc _ _ _ (k E E' v hn hv)
  | _=>simp only[leS]at h
 | mref b'=>
  cases d with
  | mref b=>
   simp only[leS]at h
   intro E E' u hn hr
   simp only[DC.conc]at hr ⊢
   obtain ⟨x,hN,rfl⟩:=hr.mref_inv
   exact .mref _ _ (hn.b _ _ _ (isN_eq h) hN).1
  | _=>simp only[leS]at h
 | rel x'=>
  cases d with
  | rel x=>
   simp only[leS]at h
   have k:=leS_sound x x' h
   intro E E' u hn hr
   simp only[DC.conc]at hr ⊢
   obtain ⟨b,o,v,rfl,hG,hv⟩:=hr.rel_inv
   exact .rel _ b o v (by rw[hn.G];exact hG) (k E E' v hn hv)
  | _=>simp only[leS]at h
termination_by SizeOf.sizeOf d'
theorem leSs_sound (ds ds':List DC) (h:leSs fl hl ds ds'):LeDs (fN fl) (fN hl) (concL ds) (concL ds'):=by
 cases ds' with
 | nil=>
  cases ds with
  | nil=>simp only[concL];exact ⟨rfl,fun i hi=>absurd hi (Nat.not_lt_zero _)⟩
  | cons=>simp only[leSs]at h
 | cons d' ds'=>
  cases ds with
  | nil=>simp only[leSs]at h
  | cons d ds=>
   simp only[leSs]at h
   simp only[concL]
   exact .cons (leS_sound d d' h.1) (leSs_sound ds ds' h.2)
termination_by SizeOf.sizeOf ds'
theorem leCs_sound (ds ds':List DC) (h:leCs fl hl ds ds'):LeDs (fN fl) (fN hl) (concCs ds) (concCs ds'):=by
 cases ds' with
 | nil=>
  cases ds with
  | nil=>simp only[concCs];exact ⟨rfl,fun i hi=>absurd hi (Nat.not_lt_zero _)⟩
  | cons d ds=>cases d <;> simp only[leCs]at h
 | cons d' ds'=>
  cases ds with
  | nil=>cases d' <;> simp only[leCs]at h
  | cons d ds=>
   rw[concCs_cons,concCs_cons]
   have gen:isArr d=false→isArr d'=false→leS fl hl d d'→leCs fl hl ds ds'→LeDs (fN fl) (fN hl) (cellS d ++ concCs ds) (cellS d' ++ concCs ds'):=fun h1 h2 h3 h4=>by
    rw[cellS_of (d:=d) (fun n t l e=>by rw[e]at h1;cases h1),cellS_of (d:=d') (fun n t l e=>by rw[e]at h2;cases h2)]
    exact .append (.cons (leS_sound d d' h3) ⟨rfl,fun i hi=>absurd hi (Nat.not_lt_zero _)⟩) (leCs_sound ds ds' h4)
   cases d with
   | arr n t l=>
    cases d' with
    | arr n' t' l'=>
     simp only[leCs]at h
     obtain ⟨rfl,h1,h2⟩:=h
     obtain ⟨rfl,e⟩:=lstEq_eq h1
     obtain rfl:=eq_of_heq e
     simp only[cellS,arrCells]
     exact .append (.same _) (leCs_sound ds ds' h2)
    | _=>simp[leCs,isArr]at h
   | _=>
    cases d' with
    | arr n' t' l'=>simp[leCs,isArr]at h
    | _=>simp only[leCs]at h;exact gen h.1 h.2.1 h.2.2.1 h.2.2.2
termination_by SizeOf.sizeOf ds'
end
end
end Go.Ab
namespace Go.Ab
open Go.RowKit
def memO:List (Option Nat)→Nat→Bool
 | [],_=>false
 | some i :: r,j=>if Nat.beq i j=true then true else memO r j
 | none :: r,j=>memO r j
def dupFree:List (Option Nat)→Bool
 | []=>true
 | some i :: r=>!memO r i && dupFree r
 | none :: r=>dupFree r
theorem memO_of:∀ {fl:List (Option Nat)} {j i:Nat},fN fl j=some i→memO fl i=true
 | [],j,i,h=>by simp[fN,nthD]at h
 | x :: fl,0,i,h=>by
  cases x with
  | none=>simp[fN,nthD]at h
  | some k=>simp only[fN,nthD,Option.some.injEq]at h;subst h;simp[memO]
 | x :: fl,j+1,i,h=>by
  have h':fN fl j=some i:=h
  have:=memO_of h'
  cases x with
  | none=>exact this
  | some k=>simp only[memO];split <;> first | rfl | exact this
theorem dupFree_inj:∀ {fl:List (Option Nat)},dupFree fl=true→∀ {j j' i:Nat},fN fl j=some i→fN fl j'=some i→j=j'
 | [],_,j,j',i,h,_=>by simp[fN,nthD]at h
 | x :: fl,hd,j,j',i,h,h'=>by
  have hr:dupFree fl=true:=by
   cases x with
   | none=>exact hd
   | some k=>simp only[dupFree,Bool.and_eq_true]at hd;exact hd.2
  have h0:∀ j,x=some i→fN fl j≠some i:=fun j hx he=>by
   subst hx
   simp only[dupFree,Bool.and_eq_true,Bool.not_eq_true']at hd
   rw[memO_of he]at hd;exact absurd hd.1 (by simp)
  have hx:fN (x :: fl) 0=some i→x=some i:=fun h=>by
   cases x with
   | none=>simp[fN,nthD]at h
   | some k=>simpa [fN,nthD] using h
  cases j with
  | zero=>
   cases j' with
   | zero=>rfl
   | succ j'=>exact absurd (show fN fl j'=some i from h') (h0 j' (hx h))
  | succ j=>
   cases j' with
   | zero=>exact absurd (show fN fl j=some i from h) (h0 j (hx h'))
   | succ j'=>rw[dupFree_inj hr (show fN fl j=some i from h) (show fN fl j'=some i from h')]
def lowB (dead:Bool):Nat→List (Option Nat)→Nat→Bool
 | 0,_,_=>true
 | b+1,some i :: r,j=>Nat.beq i j && lowB dead b r (j+1)
 | b+1,none :: r,j=>dead && lowB dead b r (j+1)
 | _+1,[],_=>false
theorem lowB_spec {dead:Bool}:∀ {b:Nat} {fl:List (Option Nat)} {k:Nat},lowB dead b fl k=true→∀ j,j<b→(fN fl j=some (k+j)∨(dead=true∧nthD fl j=some none))
 | 0,_,_,_,j,hj=>by omega
 | b+1,[],_,h,j,hj=>by simp[lowB]at h
 | b+1,x :: fl,k,h,j,hj=>by
  have hr:lowB dead b fl (k+1)=true:=by cases x <;> simp only[lowB,Bool.and_eq_true]at h <;> exact h.2
  cases j with
  | zero=>
   cases x with
   | none=>simp only[lowB,Bool.and_eq_true]at h;exact .inr ⟨h.1,rfl⟩
   | some i=>simp only[lowB,Bool.and_eq_true]at h;exact .inl (by simp only[fN,nthD];rw[Nat.eq_of_beq_eq_true h.1];rfl)
  | succ j=>
   have:=lowB_spec hr j (by omega)
   rw[show k+1+j=k+(j+1) by omega]at this
   exact this
section
variable (fl hl:List (Option Nat)) (bs:List BoxS) (b:Nat)
def leBoxes:Nat→List (Option Nat)→List BoxS→Prop
 | _,[],[]=>True
 | j,some i :: r,B' :: bs'=>(match nthD bs i with
   | some B=>B.fz=B.m∧B'.fz=B.m∧B'.m=B.m∧B'.e=B.e∧B'.ap=B.ap∧leCs fl hl B.cells B'.cells
   | none=>False)∧leBoxes (j+1) r bs'
 | j,none :: r,B' :: bs'=>(if j<b then B'.fz=true∧B'.m=false else True)∧leBoxes (j+1) r bs'
 | _,_,_=>False
end
theorem leBoxes_some {fl hl:List (Option Nat)} {bs:List BoxS} {b:Nat}:∀ {r:List (Option Nat)} {bs':List BoxS} {k:Nat},leBoxes fl hl bs b k r bs'→r.length=bs'.length ∧
  (∀ j i,fN r j=some i→∃ B B',nthD bs i=some B∧bs'[j]? = some B'∧B.fz=B.m∧B'.fz=B.m∧B'.m=B.m∧B'.e=B.e∧B'.ap=B.ap∧leCs fl hl B.cells B'.cells) ∧
  ∀ j,nthD r j=some none→k+j<b→∃ B',bs'[j]? = some B'∧B'.fz=true∧B'.m=false
 | [],[],k,_=>⟨rfl,fun j i h=>by simp[fN,nthD]at h,fun j h=>by simp[nthD]at h⟩
 | some i :: r,B' :: bs',k,h=>by
  simp only[leBoxes]at h
  obtain ⟨h1,h2⟩:=h
  obtain ⟨k1,k2,k3⟩:=leBoxes_some h2
  refine ⟨by simp[k1],fun j i' hj=>?_,fun j hj hlt=>?_⟩
  ·cases j with
   | zero=>
    simp only[fN,nthD,Option.some.injEq]at hj
    subst hj
    split at h1
    ·rename_i B hB;exact ⟨B,B',hB,rfl,h1⟩
    ·exact h1.elim
   | succ j=>exact k2 j i' hj
  ·cases j with
   | zero=>simp[nthD]at hj
   | succ j=>exact k3 j hj (by omega)
 | none :: r,B' :: bs',k,h=>by
  simp only[leBoxes]at h
  obtain ⟨h1,h2⟩:=h
  obtain ⟨k1,k2,k3⟩:=leBoxes_some h2
  refine ⟨by simp[k1],fun j i' hj=>?_,fun j hj hlt=>?_⟩
  ·cases j with
   | zero=>simp[fN,nthD]at hj
   | succ j=>exact k2 j i' hj
  ·cases j with
   | zero=>rw[if_pos (by omega)]at h1;exact ⟨B',rfl,h1⟩
   | succ j=>exact k3 j hj (by omega)
 | [],_ :: _,_,h=>by simp[leBoxes]at h
 | some _ :: _,[],_,h=>by simp[leBoxes]at h
 | none :: _,[],_,h=>by simp[leBoxes]at h
def leGrps (gs:List (Nat×TypeId)):List (Option Nat)→List (Nat×TypeId)→Prop
 | [],[]=>True
 | some i :: r,q' :: gs'=>(match nthD gs i with
   | some q=>q.1=q'.1∧q.2=q'.2
   | none=>False)∧leGrps gs r gs'
 | none :: r,_ :: gs'=>leGrps gs r gs'
 | _,_=>False
theorem leGrps_some {gs:List (Nat×TypeId)}:∀ {r:List (Option Nat)} {gs':List (Nat×TypeId)},leGrps gs r gs'→r.length=gs'.length∧∀ j i,fN r j=some i→∃ q,gs[i]? = some q∧gs'[j]? = some q
 | [],[],_=>⟨rfl,fun j i h=>by simp[fN,nthD]at h⟩
 | some i :: r,q' :: gs',h=>by
  simp only[leGrps]at h
  obtain ⟨h1,h2⟩:=h
  obtain ⟨k1,k2⟩:=leGrps_some h2
  refine ⟨by simp[k1],fun j i' hj=>?_⟩
  cases j with
  | zero=>
   simp only[fN,nthD,Option.some.injEq]at hj
   subst hj
   split at h1
   ·rename_i q hq
    rw[nthD_eq]at hq
    exact ⟨q,hq,by simp only[List.getElem?_cons_zero,Option.some.injEq];exact (Prod.ext h1.1 h1.2).symm⟩
   ·exact h1.elim
  | succ j=>exact k2 j i' hj
 | none :: r,q' :: gs',h=>by
  simp only[leGrps]at h
  obtain ⟨k1,k2⟩:=leGrps_some h
  refine ⟨by simp[k1],fun j i' hj=>?_⟩
  cases j with
  | zero=>simp[fN,nthD]at hj
  | succ j=>exact k2 j i' hj
 | [],_ :: _,h=>by simp[leGrps]at h
 | some _ :: _,[],h=>by simp[leGrps]at h
 | none :: _,[],h=>by simp[leGrps]at h
def leEnv (fl hl:List (Option Nat)) (ρ:EnvS):EnvS→Prop
 | []=>True
 | (t,d') :: r=>leS fl hl (ρ.get t) d'∧leEnv fl hl ρ r
theorem leEnv_get {fl hl:List (Option Nat)} {ρ:EnvS}:∀ {ρ':EnvS},leEnv fl hl ρ ρ'→∀ t,LeD (fN fl) (fN hl) ((concE ρ).get t) ((concE ρ').get t)
 | [],_,t=>fun E E' u _ _=>.bad _
 | (k,d') :: r,h,t=>by
  have:=leEnv_get h.2 t
  rw[concE_get,concE_get]at this ⊢
  simp only[EnvS.get]
  split
  ·rename_i e;subst e;exact leS_sound _ _ h.1
  ·exact this
structure SIM (b gb:Nat) (fl hl:List (Option Nat)) (ρ:EnvS) (st:StS) (ρ':EnvS) (st':StS):Prop where
 c:(Nat.ble b st'.box.length && Nat.ble gb st'.grp.length && dupFree fl && dupFree hl && lowB true b fl 0 && lowB false gb hl 0)=true
 box:leBoxes fl hl st.box b 0 fl st'.box
 grp:leGrps st.grp hl st'.grp
 env:leEnv fl hl ρ ρ'
theorem SIM.ok {b gb:Nat} {fl hl:List (Option Nat)} {ρ:EnvS} {st:StS} {ρ':EnvS} {st':StS} (h:SIM b gb fl hl ρ st ρ' st'):SimOK b gb (fN fl) (fN hl) (concE ρ) st.conc (concE ρ') st'.conc:=by
 have hc:=h.c
 simp only[Bool.and_eq_true,Nat.ble_eq]at hc
 obtain ⟨⟨⟨⟨⟨c1,c2⟩,c3⟩,c4⟩,c5⟩,c6⟩:=hc
 obtain ⟨b1,b2,b3⟩:=leBoxes_some h.box
 obtain ⟨g1,g2⟩:=leGrps_some h.grp
 refine ⟨by rw[StS.box_len];exact c1,c2,fun j i hj=>?_,fun j j' i hj hj'=>dupFree_inj c3 hj hj',fun j hj=>?_,fun j i hj=>g2 j i hj,fun j j' i hj hj'=>dupFree_inj c4 hj hj',fun j hj=>?_,leEnv_get h.env⟩
 ·obtain ⟨B,B',k1,k2,k3,k4,km,k5,k6,k7⟩:=b2 j i hj
  obtain ⟨l1,l2⟩:=leCs_sound _ _ k7
  exact ⟨B.conc,B'.conc,StS.box_get k1,by simp[StS.conc,k2],k3,k4.trans km.symm,⟨km,fun _=>l1.symm⟩,k5,k6,Nat.le_of_eq l1.symm,l2⟩
 ·rcases lowB_spec c5 j hj with h1 | ⟨_,h1⟩
  ·left;simpa using h1
  ·right
   refine ⟨by simp only[fN,h1],?_⟩
   obtain ⟨B',k1,k2⟩:=b3 j h1 (by omega)
   exact ⟨B'.conc,by simp[StS.conc,k1],k2⟩
 ·rcases lowB_spec c6 j hj with h1 | ⟨h1,_⟩
  ·simpa using h1
  ·cases h1
theorem SIM.sim {b gb:Nat} {fl hl:List (Option Nat)} {ρ:EnvS} {st:StS} {ρ':EnvS} {st':StS} (h:SIM b gb fl hl ρ st ρ' st'):Sim b gb (concE ρ) st.conc (concE ρ') st'.conc:=h.ok.sim
end Go.Ab
namespace Go.Ab
open Go.RowKit
def setS (dst:Option Nat) (d:DC) (ρ:EnvS):EnvS:=match dst with | some t=>(t,d) :: ρ | none=>ρ
def undefS:DC:=.p (.v undef)
def boolS (b:Bool):DC:=.p (.v (.bool b))
def readsS (ρ:EnvS):AOp→Option Nat
 | .load x=>match evS ρ x with | .ptr i _=>some i | .ept i _ _ _ _=>some i | _=>none
 | .loadA _ x=>match evS ρ x with | .ptr i _=>some i | .ept i _ _ _ _=>some i | _=>none
 | .mop (.look _ _ _ x _)=>match evS ρ x with | .mref i=>some i | _=>none
 | _=>none
def touchS (ρ:EnvS):AOp→Option Nat
 | .store _ a _=>match evS ρ a with | .ptr i _=>some i | .ept i _ _ _ _=>some i | _=>none
 | .append _ _ _ s _=>match evS ρ s with | .ms i _ _ _ _=>some i | _=>none
 | .copy _ d _=>match evS ρ d with | .ms i _ _ _ _=>some i | _=>none
 | .mop (.upd _ x _ _)=>match evS ρ x with | .mref i=>some i | _=>none
 | .mop (.del _ x _)=>match evS ρ x with | .mref i=>some i | _=>none
 | .mop (.nxt _ _ x)=>match evS ρ x with | .ptr i _=>some i | .ept i _ _ _ _=>some i | _=>none
 | .mop (.frz _ x)=>match evS ρ x with | .ms i _ _ _ _=>some i | _=>none
 | .mop (.ldF _ _ _ i _)=>some i
 | _=>none
def elemB:List Nat→Nat→Bool
 | [],_=>false
 | x :: l,j=>if x=j then true else elemB l j
def touchC (pl:List Nat) (ρ:EnvS) (op:AOp):Bool:=match touchS ρ op with | some i=>!elemB pl i | none=>true
def consO (a:Option Nat) (l:List Nat):List Nat:=match a with | some x=>x :: l | none=>l
def Ax.thnS (K:EnvS→StS→Prop) (Q:Ax→EnvS→StS→Prop):Ax→EnvS→StS→Prop
 | .n,ρ,st=>K ρ st
 | .x i,ρ,st=>Q (.x i) ρ st
 | .r,ρ,st=>Q .r ρ st
 | .jmp j,ρ,st=>Q (.jmp j) ρ st
def Ax.blkS (id:Nat) (Q:Ax→EnvS→StS→Prop):Ax→EnvS→StS→Prop
 | .x i,ρ,st=>if i=id then Q .n ρ st else Q (.x i) ρ st
 | .n,ρ,st=>Q .n ρ st
 | .r,ρ,st=>Q .r ρ st
 | .jmp j,ρ,st=>Q (.jmp j) ρ st
structure NEXT (X:EnvS→StS→Prop) (ρ:EnvS) (st:StS):Prop where
 h:X ρ st
def LoopS (body:(Ax→EnvS→StS→Prop)→EnvS→StS→Prop) (q:Option (Nat×Nat)) (keep:List Nat) (Q:Ax→EnvS→StS→Prop):Nat→EnvS→StS→Prop
 | 0,_,_=>False
 | k+1,ρ,st=>∃ ρ1 st1,SimQ q (concE ρ) st.conc (concE ρ1) st1.conc∧body (Ax.thnS (fun ρ' st'=>NEXT (LoopS body q keep Q k) (ρ'.keep keep) st') Q) ρ1 st1
structure LOOP (body:(Ax→EnvS→StS→Prop)→EnvS→StS→Prop) (q:Option (Nat×Nat)) (keep:List Nat) (Q:Ax→EnvS→StS→Prop) (ρ:EnvS) (st:StS):Prop where
 h:∃ k,LoopS body q keep Q k ρ st
structure EXT (X:CallS) (f:FuncId) (ds:List DC) (st:StS) (K:DC→StS→Prop):Prop where
 h:X f ds st K
abbrev SpecS:=List (FuncId×(List DC→(DC→Prop)→Prop))
abbrev SpecT:=List (FuncId×(OpsS→CallS))
def flatS:DC→Bool
 | .p x=>flatP x
 | .sb _=>true
 | .agg cs=>flatL cs
 | .tup cs=>flatL cs
 | _=>false
where
 flatL:List DC→Bool
 | []=>true
 | .p x :: r=>flatP x && flatL r
 | .sb _ :: r=>flatL r
 | _ :: _=>false
section
variable (o:OpsS) (g:Cfg)
def wpRS (C:CallS) (K:EnvS→StS→Prop):List AO→EnvS→StS→Prop
 | [],ρ,st=>K ρ st
 | ⟨none,dst,op⟩ :: r,ρ,st=>wpOpS o g C ρ st (fun d st'=>wpRS C K r (setS dst d ρ) st') op
 | ⟨some (t,want),dst,op⟩ :: r,ρ,st=>match ρ.get t with
  | .p (.v (.bool b))=>(match b == want with
   | true=>wpOpS o g C ((t,boolS want) :: ρ) st (fun d st'=>wpRS C K r (setS dst d ((t,boolS want) :: ρ)) st') op
   | false=>wpRS C K r (setS dst undefS ((t,boolS (!want)) :: ρ)) st)
  | .p (.v (.tuple _))=>wpRS C K r (setS dst undefS ρ) st
  | _=>False
abbrev CallSO:=Option (List Nat)→CallS
def wpDS (C:List Nat→CallS) (K:EnvS→StS→Prop):List Nat→List (Nat×Nat)→List AO→EnvS→StS→Prop
 | _,_,[],ρ,st=>K ρ st
 | pl,is,⟨none,dst,op⟩ :: r,ρ,st=>touchC (plF is pl) ρ op=true∧wpOpS o g (C (plF is pl)) ρ st (fun d st'=>wpDS C K (consO (readsS ρ op) (plF is pl)) is.tail r (setS dst d ρ) st') op
 | pl,is,⟨some (t,want),dst,op⟩ :: r,ρ,st=>match ρ.get t with
  | .p (.v (.bool b))=>(match b == want with
   | true=>touchC (plF is pl) ((t,boolS want) :: ρ) op=true∧wpOpS o g (C (plF is pl)) ((t,boolS want) :: ρ) st (fun d st'=>wpDS C K (consO (readsS ((t,boolS want) :: ρ) op) (plF is pl)) is.tail r (setS dst d ((t,boolS want) :: ρ)) st') op
   | false=>wpDS C K (plF is pl) is.tail r (setS dst undefS ((t,boolS (!want)) :: ρ)) st)
  | .p (.v (.tuple _))=>wpDS C K (plF is pl) is.tail r (setS dst undefS ρ) st
  | _=>False
def wpDsS (C:CallS) (C':CallSO) (K:EnvS→StS→Prop):List Seg→EnvS→StS→Prop
 | [],ρ,st=>K ρ st
 | (true,_,l) :: r,ρ,st=>wpRS o g C (wpDsS C C' K r) l ρ st
 | (false,is,l) :: r,ρ,st=>wpDS o g (fun pl=>C' (selP is pl)) (wpDsS C C' K r) [] is l ρ st
abbrev HdlS:=Nat→List DC→StS→(StS→Prop)→(Option Nat→StS→Prop)→Prop
def noHS:HdlS:=fun _ _ _ _ _=>False
def roundQS (Kt:StS→Prop) (Kf:Option Nat→StS→Prop):Ax→EnvS→StS→Prop
 | .n,_,st=>Kt st
 | .x id,_,st=>Kf (some id) st
 | .r,_,st=>Kf none st
 | .jmp _,_,_=>False
def iterQS (Q:Ax→EnvS→StS→Prop) (ρ:EnvS):Ax→EnvS→StS→Prop
 | .n,_,st=>Q .n ρ st
 | .r,_,st=>Q .n ρ st
 | .x _,_,_=>False
 | .jmp none,_,st=>Q .r ρ st
 | .jmp (some id),_,st=>Q (.x id) ρ st
def bindPsS:List Nat→List DC→EnvS→EnvS
 | p :: ps,d :: ds,ρ=>bindPsS ps ds ((p,d) :: ρ)
 | _,_,ρ=>ρ
def condKS (d:DC) (A B:Prop):Prop:=match d with
 | .p (.v (.bool v))=>(match v with | true=>A | false=>B)
 | _=>False
def shortB:List DC→Nat→Bool
 | [],_=>true
 | _ :: _,0=>false
 | _ :: r,n+1=>shortB r n
def lenEq:List DC→List Nat→Bool
 | [],[]=>true
 | _ :: ds,_ :: ps=>lenEq ds ps
 | _,_=>false
def argsS:Nat→List DC→EnvS
 | _,[]=>[]
 | i,d :: r=>(i,d) :: argsS (i+1) r
def wpYcS (Y:HdlS) (K:EnvS→StS→Prop) (O:Option Nat→EnvS→StS→Prop) (C:CallS) (r:List AO) (dst:Option Nat) (op:AOp) (ρ:EnvS) (st:StS):Prop:=match op with
 | .callv x args=>(match evS ρ x with
  | .fn (.yield l) [] []=>Y l (args.map (evS ρ)) st (fun st'=>wpRS o g C K r (setS dst (boolS true) ρ) st') (fun j st'=>wpRS o g (fun _ _ _ _=>False) (O j) r (setS dst (boolS false) ρ) st')
  | _=>False)
 | _=>False
def wpYS (Y:HdlS) (K:EnvS→StS→Prop) (O:Option Nat→EnvS→StS→Prop) (C:CallS):Nat→List AO→EnvS→StS→Prop
 | _,[],_,_=>False
 | 0,⟨none,dst,op⟩ :: r,ρ,st=>wpYcS o g Y K O C r dst op ρ st
 | 0,⟨some (t,want),dst,op⟩ :: r,ρ,st=>match ρ.get t with
  | .p (.v (.bool b))=>(match b == want with
   | true=>wpYcS o g Y K O C r dst op ((t,boolS want) :: ρ) st
   | false=>wpRS o g C K r (setS dst undefS ((t,boolS (!want)) :: ρ)) st)
  | .p (.v (.tuple _))=>wpRS o g C K r (setS dst undefS ρ) st
  | _=>False
 | k+1,⟨none,dst,op⟩ :: r,ρ,st=>wpOpS o g C ρ st (fun d st'=>wpYS Y K O C k r (setS dst d ρ) st') op
 | k+1,⟨some (t,want),dst,op⟩ :: r,ρ,st=>match ρ.get t with
  | .p (.v (.bool b))=>(match b == want with
   | true=>wpOpS o g C ((t,boolS want) :: ρ) st (fun d st'=>wpYS Y K O C k r (setS dst d ((t,boolS want) :: ρ)) st') op
   | false=>wpYS Y K O C k r (setS dst undefS ((t,boolS (!want)) :: ρ)) st)
  | .p (.v (.tuple _))=>wpYS Y K O C k r (setS dst undefS ρ) st
  | _=>False
def wpAS (C:CallS) (C':CallSO):AC→HdlS→(Ax→EnvS→StS→Prop)→EnvS→StS→Prop
 | .rg l,_,Q,ρ,st=>wpRS o g C (Q .n) l ρ st
 | .dr segs,_,Q,ρ,st=>wpDsS o g C C' (Q .n) segs ρ st
 | .seq a b,Y,Q,ρ,st=>wpAS C C' a Y (Ax.thnS (wpAS C C' b Y Q) Q) ρ st
 | .cond c a b,Y,Q,ρ,st=>match evS ρ c with
  | .p (.v (.bool t))=>(match t with | true=>wpAS C C' a Y Q ρ st | false=>wpAS C C' b Y Q ρ st)
  | _=>False
 | .blk id a,Y,Q,ρ,st=>wpAS C C' a Y (Ax.blkS id Q) ρ st
 | .loop q keep a,Y,Q,ρ,st=>LOOP (wpAS C C' a Y) q keep Q (ρ.keep keep) st
 | .exit id,_,Q,ρ,st=>Q (.x id) ρ st
 | .ret,_,Q,ρ,st=>Q .r ρ st
 | .skip,_,Q,ρ,st=>Q .n ρ st
 | .dead,_,_,_,_=>False
 | .rf x ps gf nt it as bd,_,Q,ρ,st=>match evS ρ x with
  | .fn (.func f) first captured=>f=gf∧(shortB (first ++ .bad :: captured) nt && gcBase st.box.length st.grp.length it)=true ∧
    ALLY fun l=>wpAS C C' it (fun l' ds st Kt Kf=>l'=l∧(lenEq ds ps && gcBase st.box.length st.grp.length as)=true ∧
     wpAS C C' as noHS (Ax.thnS (fun ρ' st'=>gcBase st'.box.length st'.grp.length bd=true∧wpAS C C' bd noHS (roundQS Kt Kf) ρ' st') fun _ _ _=>False) (bindPsS ps ds ρ) st) (iterQS Q ρ) (argsS 0 (first ++ .fn (.yield l) [] [] :: captured)) st
  | _=>False
 | .iy k l t a b,Y,Q,ρ,st=>wpYS o g Y (fun ρ st=>condKS (evS ρ t) (wpAS C C' a Y Q ρ st) (wpAS C C' b Y Q ρ st)) (fun j ρ st=>condKS (evS ρ t) (isRet a=true∧Q (.jmp j) ρ st) (isRet b=true∧Q (.jmp j) ρ st)) C k l ρ st
def wpRes1S (ρ:EnvS) (st:StS) (K:DC→Prop):ARes→Prop
 | .tmp t=>K (ρ.get t)
 | .cell t none=>match ρ.get t with
  | .ptr b off=>(match nthD st.box b with
   | some B=>B.fz=false∧(match seekC B.cells off with
    | some (.arr _ _ _ :: _)=>False
    | some (c :: _)=>K c
    | _=>False)
   | none=>False)
  | _=>False
 | .cell t (some size)=>match ρ.get t with
  | .ptr b off=>(match nthD st.box b with
   | some B=>B.fz=false∧(match seekC B.cells off with
    | some cs=>(match takeC cs size with | some cs=>K (.agg cs) | none=>False)
    | none=>False)
   | none=>False)
  | _=>False
def wpResS (ρ:EnvS) (st:StS) (K:List DC→Prop):List ARes→Prop
 | []=>K []
 | r :: rs=>wpRes1S ρ st (fun d=>wpResS ρ st (fun ds=>K (d :: ds)) rs) r
def resS:List DC→DC
 | [d]=>d
 | ds=>.tup ds
def retS (ars:List ARes) (K:DC→StS→Prop):Ax→EnvS→StS→Prop
 | .x _,_,_=>False
 | .jmp _,_,_=>False
 | .n,ρ,st=>wpResS ρ st (fun ds=>K (resS ds) st) ars
 | .r,ρ,st=>wpResS ρ st (fun ds=>K (resS ds) st) ars
def CXS (S:SpecS) (T:SpecT) (X:CallS):CallS:=fun f ds st K=>match lookN T f with
 | some s=>s o f ds st fun x st'=>KBS x fun x=>K x st'
 | none=>(match lookN S f with
  | some s=>(match pureN pure2 ds with
   | some xs=>s xs fun x=>KBS x fun x=>K x st
   | none=>(match viewN o st ds with
    | some (xs,p)=>p∧s xs fun x=>flatS x=true∧KBS x fun x=>K x st
    | none=>EXT X f ds st K))
  | none=>EXT X f ds st K)
abbrev SpecU:=List (FuncId×(OpsS→Option (List Nat)→CallS))
def CXD (S:SpecS) (U:SpecU) (Y:CallS):CallSO:=fun q f ds st K=>match q with
 | none=>(match lookN S f with
  | some _=>CXS o S [] Y f ds st K
  | none=>(match lookN U f with
   | some s=>s o none f ds st fun x st'=>KBS x fun x=>K x st'
   | none=>CXS o S [] Y f ds st K))
 | some pl=>(match lookN U f with
  | some s=>s o (some pl) f ds st fun x st'=>KBS x fun x=>K x st'
  | none=>CXS o S [] Y f ds st K)
abbrev TblL:=List (FuncId×(AC×List ARes×Nat))
def CIS (S:SpecS) (T:SpecT) (U:SpecU) (tbl:TblL) (X Y:CallS):Nat→CallS
 | 0,f,ds,st,K=>CXS o S T X f ds st K
 | k+1,f,ds,st,K=>match lookN tbl f with
  | some (ac,ars,n)=>(shortB ds n && (gcFree ac || gcBase st.box.length st.grp.length ac))=true∧wpAS o g (CIS S T U tbl X Y k) (CXD o S U Y) ac noHS (retS ars fun x st'=>KBS x fun x=>K x st') (argsS 0 ds) st
  | none=>CXS o S T X f ds st K
end
theorem concE_cons (t:Nat) (d:DC) (ρ:EnvS):concE ((t,d) :: ρ)=(t,d.conc) :: concE ρ:=rfl
theorem concE_set (dst:Option Nat) (d:DC) (ρ:EnvS):concE (setS dst d ρ)=setD dst d.conc (concE ρ):=by cases dst <;> rfl
theorem concE_keep (ρ:EnvS):∀ l:List Nat,concE (ρ.keep l)=(concE ρ).keep l
 | []=>rfl
 | t :: l=>by
  have:=concE_keep ρ l
  simp only[EnvS.keep,Env.keep,concE_cons,this,concE_get]
theorem undefS_conc:undefS.conc=undefD:=by simp[undefS,undefD,DC.conc]
theorem boolS_conc (b:Bool):(boolS b).conc=boolD b:=by simp[boolS,boolD,DC.conc]
theorem readsS_conc {ρ:EnvS} {op:AOp}:∀ i,readsB (concE ρ) op=some i→readsS ρ op=some i:=by
 intro i h
 cases op
 case mop m=>
  cases m <;> simp only[readsB,reduceCtorEq]at h
  case look ok V z x k=>
   simp only[readsS,evS_conc]at h ⊢
   split at h
   ·rename_i j he
    obtain rfl:=Option.some.inj h
    generalize evS ρ _=d at *
    cases d with
    | mref b=>simp only[DC.conc,D.mref.injEq]at he;rw[he]
    | og g t l=>cases l <;> simp only[DC.conc,reduceCtorEq]at he
    | agg cs=>simp only[DC.conc,mkAgg]at he;split at he <;> cases he
    | arr n t l=>simp only[DC.conc,mkAgg]at he;split at he <;> cases he
    | tup cs=>simp only[DC.conc,mkTup]at he;split at he <;> cases he
    | _=>simp only[DC.conc,reduceCtorEq]at he
   ·cases h
 all_goals simp only[readsB,reduceCtorEq]at h
 all_goals
  simp only[readsS,evS_conc]at h ⊢
  split at h
  ·rename_i j off he
   obtain rfl:=Option.some.inj h
   generalize evS ρ _=d at *
   cases d with
   | ptr b off=>simp only[DC.conc,D.ptr.injEq]at he;rw[he.1]
   | ept b off sz k q=>simp only[DC.conc,D.ptr.injEq]at he;rw[he.1]
   | og g t l=>cases l <;> simp only[DC.conc,reduceCtorEq]at he
   | agg cs=>simp only[DC.conc,mkAgg]at he;split at he <;> cases he
   | arr n t l=>simp only[DC.conc,mkAgg]at he;split at he <;> cases he
   | tup cs=>simp only[DC.conc,mkTup]at he;split at he <;> cases he
   | _=>simp only[DC.conc,reduceCtorEq]at he
  ·cases h
theorem touchS_conc {ρ:EnvS} {op:AOp}:∀ i,touchB (concE ρ) op=some i→touchS ρ op=some i:=by
 intro i h
 cases op
 case mop m=>
  cases m <;> simp only[touchB,reduceCtorEq]at h
  case ldF=>exact h
  all_goals
   simp only[touchS,evS_conc]at h ⊢
   split at h
   ·rename_i he
    obtain rfl:=Option.some.inj h
    generalize evS ρ _=d at *
    cases d with
    | mref b=>simp only[DC.conc,D.mref.injEq,reduceCtorEq]at he <;> rw[he]
    | ptr b off=>simp only[DC.conc,D.ptr.injEq,reduceCtorEq]at he <;> rw[he.1]
    | ept b off sz k q=>simp only[DC.conc,D.ptr.injEq,reduceCtorEq]at he <;> rw[he.1]
    | ms b off sz lo n=>simp only[DC.conc,D.ms.injEq,reduceCtorEq]at he <;> rw[he.1]
    | og g t l=>cases l <;> simp only[DC.conc,reduceCtorEq]at he
    | agg cs=>simp only[DC.conc,mkAgg]at he;split at he <;> cases he
    | arr n t l=>simp only[DC.conc,mkAgg]at he;split at he <;> cases he
    | tup cs=>simp only[DC.conc,mkTup]at he;split at he <;> cases he
    | _=>simp only[DC.conc,reduceCtorEq]at he
   ·cases h
 all_goals simp only[touchB,reduceCtorEq]at h
 all_goals
  simp only[touchS,evS_conc]at h ⊢
  split at h
  ·rename_i he
   obtain rfl:=Option.some.inj h
   generalize evS ρ _=d at *
   cases d with
   | ptr b off=>simp only[DC.conc,D.ptr.injEq,reduceCtorEq]at he <;> rw[he.1]
   | ept b off sz k q=>simp only[DC.conc,D.ptr.injEq,reduceCtorEq]at he <;> rw[he.1]
   | ms b off sz lo n=>simp only[DC.conc,D.ms.injEq,reduceCtorEq]at he <;> rw[he.1]
   | og g t l=>cases l <;> simp only[DC.conc,reduceCtorEq]at he
   | agg cs=>simp only[DC.conc,mkAgg]at he;split at he <;> cases he
   | arr n t l=>simp only[DC.conc,mkAgg]at he;split at he <;> cases he
   | tup cs=>simp only[DC.conc,mkTup]at he;split at he <;> cases he
   | _=>simp only[DC.conc,reduceCtorEq]at he
  ·cases h
theorem elemB_of:∀ {l:List Nat} {j:Nat},elemB l j=false→j∉l
 | [],_,_=>List.not_mem_nil
 | x :: l,j,h=>by
  unfold elemB at h
  split at h
  ·cases h
  ·rename_i hx
   intro hm
   rcases List.mem_cons.1 hm with rfl | hm
   ·exact hx rfl
   ·exact elemB_of h hm
theorem touchC_spec {pl:List Nat} {ρ:EnvS} {op:AOp} (h:touchC pl ρ op=true):∀ i,touchB (concE ρ) op=some i→i∉pl:=fun i hi=>by
 unfold touchC at h
 rw[touchS_conc i hi]at h
 exact elemB_of (by simpa using h)
end Go.Ab
namespace Go.Ab
open Go.RowKit
section
variable {g:Cfg}
def KE (K:EnvS→StS→Prop) (K':Env→St→Prop):Prop:=∀ ρ st,K ρ st→K' (concE ρ) st.conc
def SoundC (C:CallS) (D:CallW):Prop:=∀ f ds st K,C f ds st K→D f (concL ds) st.conc (KP K)
theorem KP.use {K:DC→StS→Prop} {K':D→St→Prop} (h:∀ x s,K x s→K' x.conc s.conc):∀ d st,KP K d st→K' d st:=by
 rintro d st ⟨x,s,rfl,rfl,hk⟩;exact h x s hk
theorem get_bool {ρ:EnvS} {t:Nat} {v:Value} (h:ρ.get t=.p (.v v)):(concE ρ).get t=.p (.v v):=by rw[concE_get,h];simp[DC.conc]
theorem wpRS_sound {C:CallS} {D:CallW} (hC:SoundC C D) (hm:CMono D) {K:EnvS→StS→Prop} {K':Env→St→Prop} (hK:KE K K'):∀ (l:List AO) (ρ:EnvS) (st:StS),wpRS OpsS.real g C K l ρ st→wpR D K' l (concE ρ) st.conc
 | [],_,_,h=>hK _ _ h
 | ⟨none,dst,_⟩ :: r,ρ,_,h=>wpOp_mono hm (KP.use fun x s h=>by have:=wpRS_sound hC hm hK r _ _ h;rwa [concE_set]at this) (wpOpS_sound hC h)
 | ⟨some (t,want),dst,op⟩ :: r,ρ,st,h=>by
  simp only[wpRS]at h
  simp only[wpR]
  split at h
  ·rename_i b hb
   simp only[get_bool hb]
   split at h
   ·rename_i hw
    simp only[beq_iff_eq]at hw
    refine ⟨fun _=>wpOp_mono hm (KP.use fun x s h=>?_) (by have:=wpOpS_sound hC h;rwa [concE_cons,boolS_conc]at this),fun e=>by rw[hw]at e;cases want <;> simp at e⟩
    have:=wpRS_sound hC hm hK r _ _ h
    rwa [concE_set,concE_cons,boolS_conc]at this
   ·rename_i hw
    simp only[beq_eq_false_iff_ne,ne_eq]at hw
    refine ⟨fun e=>absurd e hw,fun _=>?_⟩
    have:=wpRS_sound hC hm hK r _ _ h
    rwa [concE_set,concE_cons,boolS_conc,undefS_conc]at this
  ·rename_i hb
   simp only[get_bool hb]
   have:=wpRS_sound hC hm hK r _ _ h
   rwa [concE_set,undefS_conc]at this
  ·exact h.elim
theorem consO_eq (a:Option Nat) (l:List Nat):consO a l=a.toList ++ l:=by cases a <;> rfl
theorem plF_sub {is:List (Nat×Nat)} {pl pl':List Nat} (hs:∀ i∈pl',i∈pl) {i:Nat} (hi:i∈plF is pl'):i∈plF is pl:=by
 unfold plF at hi ⊢
 split at hi
 ·simp at hi
 ·exact hs i hi
theorem wpD_sub {C:List Nat→CallW} (hC:∀ pl,CMono (C pl)) (hs0:∀ pl pl' f ds st K,(∀ i∈pl',i∈pl)→C pl f ds st K→C pl' f ds st K) {K:Env→St→Prop}:∀ (l:List AO) (pl pl':List Nat) (is:List (Nat×Nat)) (ρ:Env) (st:St),(∀ i∈pl',i∈pl)→wpD C K pl is l ρ st→wpD C K pl' is l ρ st
 | [],_,_,_,_,_,_,h=>h
 | ⟨none,_,_⟩ :: r,pl,pl',is,_,_,hs,h=>by
  have hF:∀ i∈plF is pl',i∈plF is pl:=fun i hi=>plF_sub hs hi
  exact ⟨fun i hi hm=>h.1 i hi (hF i hm),wpOp_mono (hC _) (fun _ _ h=>wpD_sub hC hs0 r _ _ _ _ _ (fun i hi=>by rcases List.mem_append.1 hi with hi | hi;exact List.mem_append_left _ hi;exact List.mem_append_right _ (hF i hi)) h) (wpOp_call (hs0 _ _ · · · · hF) h.2)⟩
 | ⟨some (t,want),_,_⟩ :: r,pl,pl',is,ρ,_,hs,h=>by
  have hF:∀ i∈plF is pl',i∈plF is pl:=fun i hi=>plF_sub hs hi
  simp only[wpD]at h ⊢
  split at h
  ·rename_i b hb
   try simp only[hb]
   exact ⟨fun e=>⟨fun i hi hm=>(h.1 e).1 i hi (hF i hm),wpOp_mono (hC _) (fun _ _ h=>wpD_sub hC hs0 r _ _ _ _ _ (fun i hi=>by rcases List.mem_append.1 hi with hi | hi;exact List.mem_append_left _ hi;exact List.mem_append_right _ (hF i hi)) h) (wpOp_call (hs0 _ _ · · · · hF) (h.1 e).2)⟩,
    fun e=>wpD_sub hC hs0 r _ _ _ _ _ hF (h.2 e)⟩
  ·rename_i hb
   try simp only[hb]
   exact wpD_sub hC hs0 r _ _ _ _ _ hF h
  ·exact h.elim
theorem reads_sub {ρ:EnvS} {op:AOp} {pl:List Nat}:∀ i∈(readsB (concE ρ) op).toList ++ pl,i∈consO (readsS ρ op) pl:=fun i hi=>by
 rw[consO_eq]
 rcases List.mem_append.1 hi with h | h
 ·refine List.mem_append_left _ ?_
  have:readsB (concE ρ) op=some i:=by simpa using h
  rw[readsS_conc i this];simp
 ·exact List.mem_append_right _ h
theorem wpDS_sound {C:List Nat→CallS} {D:List Nat→CallW} (hC:∀ pl,SoundC (C pl) (D pl)) (hm:∀ pl,CMono (D pl)) (hs0:∀ pl pl' f ds st K,(∀ i∈pl',i∈pl)→D pl f ds st K→D pl' f ds st K) {K:EnvS→StS→Prop} {K':Env→St→Prop} (hK:KE K K'):∀ (l:List AO) (pl:List Nat) (is:List (Nat×Nat)) (ρ:EnvS) (st:StS),wpDS OpsS.real g C K pl is l ρ st→wpD D K' pl is l (concE ρ) st.conc
 | [],_,_,_,_,h=>hK _ _ h
 | ⟨none,dst,op⟩ :: r,pl,is,ρ,_,h=>⟨touchC_spec h.1,wpOp_mono (hm _) (KP.use fun x s h=>by
   have:=wpDS_sound hC hm hs0 hK r _ _ _ _ h
   rw[concE_set]at this
   exact wpD_sub hm hs0 r _ _ _ _ _ reads_sub this) (wpOpS_sound (hC _) h.2)⟩
 | ⟨some (t,want),dst,op⟩ :: r,pl,is,ρ,st,h=>by
  simp only[wpDS]at h
  simp only[wpD]
  split at h
  ·rename_i b hb
   simp only[get_bool hb]
   split at h
   ·rename_i hw
    simp only[beq_iff_eq]at hw
    have e1:concE ((t,boolS want) :: ρ)=(t,boolD want) :: concE ρ:=by rw[concE_cons,boolS_conc]
    refine ⟨fun _=>⟨by have:=touchC_spec h.1;rwa [e1]at this,wpOp_mono (hm _) (KP.use fun x s h=>?_) (by have:=wpOpS_sound (hC _) h.2;rwa [e1]at this)⟩,fun e=>by rw[hw]at e;cases want <;> simp at e⟩
    have:=wpDS_sound hC hm hs0 hK r _ _ _ _ h
    rw[concE_set,e1]at this
    exact wpD_sub hm hs0 r _ _ _ _ _ (by rw[←e1];exact reads_sub) this
   ·rename_i hw
    simp only[beq_eq_false_iff_ne,ne_eq]at hw
    refine ⟨fun e=>absurd e hw,fun _=>?_⟩
    have:=wpDS_sound hC hm hs0 hK r _ _ _ _ h
    rwa [concE_set,concE_cons,boolS_conc,undefS_conc]at this
  ·rename_i hb
   simp only[get_bool hb]
   have:=wpDS_sound hC hm hs0 hK r _ _ _ _ h
   rwa [concE_set,undefS_conc]at this
  ·exact h.elim
def SubO (D:CallO):Prop:=∀ pl pl' f ds st K,(∀ i∈pl',i∈pl)→D (some pl) f ds st K→D (some pl') f ds st K
theorem SubO.sel {D:CallO} (h:SubO D) {is:List (Nat×Nat)}:∀ pl pl' f ds st K,(∀ i∈pl',i∈pl)→D (selP is pl) f ds st K→D (selP is pl') f ds st K:=fun pl pl' f ds st K hs hh=>by
 unfold selP at hh ⊢
 generalize noBlk is=b at hh ⊢
 cases b with
 | true=>exact h _ _ _ _ _ _ hs hh
 | false=>exact hh
theorem wpDsS_sound {C:CallS} {C':CallSO} {D:CallW} {D':CallO} (hC:SoundC C D) (hm:CMono D) (hC':∀ o,SoundC (C' o) (D' o)) (hm':∀ o,CMono (D' o)) (hs:SubO D') {K:EnvS→StS→Prop} {K':Env→St→Prop} (hK:KE K K'):∀ (l:List Seg) (ρ:EnvS) (st:StS),wpDsS OpsS.real g C C' K l ρ st→wpDs D D' K' l (concE ρ) st.conc
 | [],_,_,h=>hK _ _ h
 | (true,_,l) :: r,ρ,st,h=>wpRS_sound hC hm (fun ρ st h=>wpDsS_sound hC hm hC' hm' hs hK r ρ st h) l ρ st h
 | (false,is,l) :: r,ρ,st,h=>wpDS_sound (fun _=>hC' _) (fun _=>hm' _) hs.sel (fun ρ st h=>wpDsS_sound hC hm hC' hm' hs hK r ρ st h) l [] is ρ st h
def QE (Q:Ax→EnvS→StS→Prop) (Q':Ax→Env→St→Prop):Prop:=∀ x ρ st,Q x ρ st→Q' x (concE ρ) st.conc
theorem QE.thn {K:EnvS→StS→Prop} {K':Env→St→Prop} {Q:Ax→EnvS→StS→Prop} {Q':Ax→Env→St→Prop} (hK:KE K K') (hQ:QE Q Q'):QE (Ax.thnS K Q) (Ax.thn K' Q'):=by
 intro x ρ st h
 cases x <;> simp only[Ax.thnS,Ax.thn]at h ⊢
 ·exact hK _ _ h
 ·exact hQ _ _ _ h
 ·exact hQ _ _ _ h
 ·exact hQ _ _ _ h
theorem QE.blk {id:Nat} {Q:Ax→EnvS→StS→Prop} {Q':Ax→Env→St→Prop} (hQ:QE Q Q'):QE (Ax.blkS id Q) (Ax.blk id Q'):=by
 intro x ρ st h
 cases x <;> simp only[Ax.blkS,Ax.blk]at h ⊢
 ·exact hQ _ _ _ h
 ·split
  ·rename_i hi;rw[if_pos hi]at h;exact hQ _ _ _ h
  ·rename_i hi;rw[if_neg hi]at h;exact hQ _ _ _ h
 ·exact hQ _ _ _ h
 ·exact hQ _ _ _ h
def YE (Y:HdlS) (Y':Hdl):Prop:=∀ l ds st (Kt:StS→Prop) (Kf:Option Nat→StS→Prop) (Kt':St→Prop) (Kf':Option Nat→St→Prop),(∀ st,Kt st→Kt' st.conc)→(∀ j st,Kf j st→Kf' j st.conc)→Y l ds st Kt Kf→Y' l (concL ds) st.conc Kt' Kf'
theorem YE.no:YE noHS noH:=fun _ _ _ _ _ _ _ _ _ h=>h.elim
theorem argsS_conc:∀ (i:Nat) (ds:List DC),concE (argsS i ds)=argsEnv i (concL ds)
 | _,[]=>rfl
 | i,d :: ds=>by simp only[argsS,concE_cons,concL,argsEnv,argsS_conc (i+1) ds]
theorem shortB_spec:∀ {l:List DC} {n:Nat},shortB l n=true→l.length≤n
 | [],_,_=>Nat.zero_le _
 | _ :: _,0,h=>by cases h
 | _ :: r,n+1,h=>by have:=shortB_spec (l:=r) (n:=n) h;simpa using this
theorem concL_length (l:List DC):(concL l).length=l.length:=by simp[concL_eq]
theorem lenEq_spec:∀ {ds:List DC} {ps:List Nat},lenEq ds ps=true→ds.length=ps.length
 | [],[],_=>rfl
 | _ :: ds,_ :: ps,h=>by have:=lenEq_spec (ds:=ds) (ps:=ps) h;simpa using this
 | [],_ :: _,h=>by cases h
 | _ :: _,[],h=>by cases h
theorem bindPsS_conc:∀ (ps:List Nat) (ds:List DC) (ρ:EnvS),concE (bindPsS ps ds ρ)=bindPs ps (concL ds) (concE ρ)
 | [],ds,ρ=>by cases ds <;> simp only[bindPsS,concL,bindPs]
 | _ :: _,[],ρ=>by simp only[bindPsS,concL,bindPs]
 | p :: ps,d :: ds,ρ=>by simp only[bindPsS,concL,bindPs,bindPsS_conc ps ds,concE_cons]
theorem roundQS_sound {Kt:StS→Prop} {Kf:Option Nat→StS→Prop} {Kt':St→Prop} {Kf':Option Nat→St→Prop} (ht:∀ st,Kt st→Kt' st.conc) (hf:∀ j st,Kf j st→Kf' j st.conc):QE (roundQS Kt Kf) (roundQ Kt' Kf'):=by
 intro x ρ st h
 cases x <;> simp only[roundQS,roundQ]at h ⊢
 ·exact ht _ h
 ·exact hf _ _ h
 ·exact hf _ _ h
theorem iterQS_sound {Q:Ax→EnvS→StS→Prop} {Q':Ax→Env→St→Prop} (hQ:QE Q Q') (ρ0:EnvS):QE (iterQS Q ρ0) (iterQ Q' (concE ρ0)):=by
 intro x ρ st h
 cases x with
 | jmp j=>cases j <;> simp only[iterQS,iterQ]at h ⊢ <;> exact hQ _ _ _ h
 | _=>simp only[iterQS,iterQ]at h ⊢ <;> first | exact hQ _ _ _ h | exact h
theorem SoundC.no {D:CallW}:SoundC (fun _ _ _ _=>False) D:=fun _ _ _ _ h=>h.elim
theorem wpYcS_sound {C:CallS} {D:CallW} (hC:SoundC C D) (hm:CMono D) {Y:HdlS} {Y':Hdl} (hY:YE Y Y') {K:EnvS→StS→Prop} {K':Env→St→Prop} (hK:KE K K') {O:Option Nat→EnvS→StS→Prop} {O':Option Nat→Env→St→Prop} (hO:∀ j,KE (O j) (O' j)) {r:List AO} {dst:Option Nat} {op:AOp} {ρ:EnvS} {st:StS}
  (h:wpYcS OpsS.real g Y K O C r dst op ρ st):wpYc D Y' K' O' r dst op (concE ρ) st.conc:=by
 unfold wpYcS at h
 unfold wpYc
 split at h
 ·split at h
  ·rename_i l hx
   simp only[evS_conc,hx,DC.conc,concL]
   have e:∀ args:List Operand,args.map (ev (concE ρ))=concL (args.map (evS ρ)):=fun args=>by
    rw[concL_eq,List.map_map]
    exact List.map_congr_left fun x _=>evS_conc ρ x
   rw[e]
   refine hY _ _ _ _ _ _ _ (fun st h=>?_) (fun j st h=>?_) h
   ·have:=wpRS_sound hC hm hK r _ _ h
    rwa [concE_set,boolS_conc]at this
   ·have:=wpRS_sound (D:=fun _ _ _ _=>False) SoundC.no (fun _ _ _ _ _ _ h=>h) (hO j) r _ _ h
    rwa [concE_set,boolS_conc]at this
  ·exact h.elim
 ·exact h.elim
theorem wpYS_sound {C:CallS} {D:CallW} (hC:SoundC C D) (hm:CMono D) {Y:HdlS} {Y':Hdl} (hY:YE Y Y') {K:EnvS→StS→Prop} {K':Env→St→Prop} (hK:KE K K') {O:Option Nat→EnvS→StS→Prop} {O':Option Nat→Env→St→Prop} (hO:∀ j,KE (O j) (O' j)) :
  ∀ (k:Nat) (l:List AO) (ρ:EnvS) (st:StS),wpYS OpsS.real g Y K O C k l ρ st→wpY D Y' K' O' k l (concE ρ) st.conc
 | k,[],_,_,h=>by simp[wpYS]at h
 | 0,⟨none,dst,op⟩ :: r,ρ,_,h=>wpYcS_sound hC hm hY hK hO h
 | 0,⟨some (t,want),dst,op⟩ :: r,ρ,st,h=>by
  simp only[wpYS]at h
  simp only[wpY]
  split at h
  ·rename_i b hb
   simp only[get_bool hb]
   split at h
   ·rename_i hw
    simp only[beq_iff_eq]at hw
    refine ⟨fun _=>by have:=wpYcS_sound hC hm hY hK hO h;rwa [concE_cons,boolS_conc]at this,fun e=>by rw[hw]at e;cases want <;> simp at e⟩
   ·rename_i hw
    simp only[beq_eq_false_iff_ne,ne_eq]at hw
    refine ⟨fun e=>absurd e hw,fun _=>?_⟩
    have:=wpRS_sound hC hm hK r _ _ h
    rwa [concE_set,concE_cons,boolS_conc,undefS_conc]at this
  ·rename_i hb
   simp only[get_bool hb]
   have:=wpRS_sound hC hm hK r _ _ h
   rwa [concE_set,undefS_conc]at this
  ·exact h.elim
 | k+1,⟨none,dst,_⟩ :: r,ρ,_,h=>wpOp_mono hm (KP.use fun x s h=>by have:=wpYS_sound hC hm hY hK hO k r _ _ h;rwa [concE_set]at this) (wpOpS_sound hC h)
 | k+1,⟨some (t,want),dst,op⟩ :: r,ρ,st,h=>by
  simp only[wpYS]at h
  simp only[wpY]
  split at h
  ·rename_i b hb
   simp only[get_bool hb]
   split at h
   ·rename_i hw
    simp only[beq_iff_eq]at hw
    refine ⟨fun _=>wpOp_mono hm (KP.use fun x s h=>?_) (by have:=wpOpS_sound hC h;rwa [concE_cons,boolS_conc]at this),fun e=>by rw[hw]at e;cases want <;> simp at e⟩
    have:=wpYS_sound hC hm hY hK hO k r _ _ h
    rwa [concE_set,concE_cons,boolS_conc]at this
   ·rename_i hw
    simp only[beq_eq_false_iff_ne,ne_eq]at hw
    refine ⟨fun e=>absurd e hw,fun _=>?_⟩
    have:=wpYS_sound hC hm hY hK hO k r _ _ h
    rwa [concE_set,concE_cons,boolS_conc,undefS_conc]at this
  ·rename_i hb
   simp only[get_bool hb]
   have:=wpYS_sound hC hm hY hK hO k r _ _ h
   rwa [concE_set,undefS_conc]at this
  ·exact h.elim
theorem condKS_sound {ρ:EnvS} {t:Operand} {A B:Prop} {A' B':Prop} (ha:A→A') (hb:B→B') (h:condKS (evS ρ t) A B):condK (ev (concE ρ) t) A' B':=by
 unfold condKS at h
 unfold condK
 split at h
 ·rename_i v hv
  simp only[evS_conc,hv,DC.conc]
  cases v
  ·exact ⟨fun e=>(Bool.false_ne_true e).elim,fun _=>hb h⟩
  ·exact ⟨fun _=>ha h,fun e=>(Bool.false_ne_true e.symm).elim⟩
 ·exact h.elim
theorem wpAS_sound0:∀ (a:AC) (C:CallS) (C':CallSO) (D:CallW) (D':CallO),SoundC C D→CMono D→(∀ o,SoundC (C' o) (D' o))→((∀ o,CMono (D' o))∧SubO D')→∀ (Y:HdlS) (Y':Hdl),YE Y Y'→∀ (Q:Ax→EnvS→StS→Prop) (Q':Ax→Env→St→Prop),QE Q Q'→∀ ρ st,wpAS OpsS.real g C C' a Y Q ρ st→wpA D D' a Y' Q' (concE ρ) st.conc
 | .rg l,_,_,_,_,hC,hm,_,_,_,_,_,_,_,hQ,_,_,h=>wpRS_sound hC hm (hQ .n) l _ _ h
 | .dr l,_,_,_,_,hC,hm,hC',hm',_,_,_,_,_,hQ,_,_,h=>wpDsS_sound hC hm hC' hm'.1 hm'.2 (hQ .n) l _ _ h
 | .seq a b,C,C',D,D',hC,hm,hC',hm',Y,Y',hY,_,_,hQ,_,_,h=>wpAS_sound0 a C C' D D' hC hm hC' hm' Y Y' hY _ _ (QE.thn (fun _ _ h=>wpAS_sound0 b C C' D D' hC hm hC' hm' Y Y' hY _ _ hQ _ _ h) hQ) _ _ h
 | .cond c a b,C,C',D,D',hC,hm,hC',hm',Y,Y',hY,_,_,hQ,ρ,_,h=>by
  simp only[wpAS]at h
  simp only[wpA,evS_conc]
  split at h
  ·rename_i t ht
   simp only[ht,DC.conc]
   cases t
   ·exact ⟨fun h=>(Bool.false_ne_true h).elim,fun _=>wpAS_sound0 b C C' D D' hC hm hC' hm' Y Y' hY _ _ hQ _ _ h⟩
   ·exact ⟨fun _=>wpAS_sound0 a C C' D D' hC hm hC' hm' Y Y' hY _ _ hQ _ _ h,fun h=>(Bool.false_ne_true h.symm).elim⟩
  ·exact h.elim
 | .blk id a,C,C',D,D',hC,hm,hC',hm',Y,Y',hY,Q,Q',hQ,_,_,h=>wpAS_sound0 a C C' D D' hC hm hC' hm' Y Y' hY _ _ hQ.blk _ _ h
 | .loop q keep a,C,C',D,D',hC,hm,hC',hm',Y,Y',hY,Q,Q',hQ,ρ,st,h=>by
  simp only[wpAS]at h
  obtain ⟨k,h⟩:=h.h
  refine ⟨k,?_⟩
  rw[←concE_keep]
  have key:∀ k ρ st,LoopS (wpAS OpsS.real g C C' a Y) q keep Q k ρ st→LoopN (wpA D D' a Y') q keep Q' k (concE ρ) st.conc:=by
   intro k
   induction k with
   | zero=>intro ρ st h;exact h
   | succ k ih=>
    rintro ρ st ⟨ρ1,st1,hs,h⟩
    exact ⟨_,_,hs,wpAS_sound0 a C C' D D' hC hm hC' hm' Y Y' hY _ _ (QE.thn (fun ρ st h=>by have:=ih _ _ h.h;rwa [concE_keep]at this) hQ) _ _ h⟩
  exact key k _ _ h
 | .exit id,_,_,_,_,_,_,_,_,_,_,_,_,_,hQ,_,_,h=>hQ _ _ _ h
 | .ret,_,_,_,_,_,_,_,_,_,_,_,_,_,hQ,_,_,h=>hQ _ _ _ h
 | .skip,_,_,_,_,_,_,_,_,_,_,_,_,_,hQ,_,_,h=>hQ _ _ _ h
 | .dead,_,_,_,_,_,_,_,_,_,_,_,_,_,hQ,_,_,h=>h.elim
 | .rf x ps gf nt it as bd,C,C',D,D',hC,hm,hC',hm',_,_,_,Q,Q',hQ,ρ,st,h=>by
  simp only[wpAS]at h
  simp only[wpA,evS_conc]
  split at h
  ·rename_i f first captured hx
   simp only[hx,DC.conc]
   obtain ⟨h1,h2,h3⟩:=h
   simp only[Bool.and_eq_true]at h2
   have hs:=shortB_spec h2.1
   simp only[List.length_append,List.length_cons]at hs
   refine ⟨h1,by rw[concL_length,concL_length];omega,by simpa [StS.conc] using h2.2,⟨fun l=>?_⟩⟩
   have:=wpAS_sound0 it C C' D D' hC hm hC' hm' _ (fun l' ds st Kt Kf=>l'=l∧ds.length=ps.length∧gcBase st.box.length st.grp.length as=true ∧
     wpA D D' as noH (Ax.thn (fun ρ' st'=>gcBase st'.box.length st'.grp.length bd=true∧wpA D D' bd noH (roundQ Kt Kf) ρ' st') fun _ _ _=>False) (bindPs ps ds (concE ρ)) st)
    (fun l' ds st Kt Kf Kt' Kf' ht hf hh=>?_) _ _ (iterQS_sound hQ ρ) _ _ (h3.h l)
   ·rw[argsS_conc]at this
    have e:concL (first ++ .fn (.yield l) [] [] :: captured)=concL first ++ [.fn (.yield l) [] []] ++ concL captured:=by
     simp only[concL_eq,List.map_append,List.map_cons,List.append_assoc,List.singleton_append,List.nil_append,DC.conc,concL]
    rwa [e]at this
   ·obtain ⟨k1,k2,k3⟩:=hh
    simp only[Bool.and_eq_true]at k2
    refine ⟨k1,by rw[concL_length];exact lenEq_spec k2.1,by simpa [StS.conc] using k2.2,?_⟩
    rw[←bindPsS_conc]
    refine wpAS_sound0 as C C' D D' hC hm hC' hm' noHS noH .no _ _ (QE.thn (fun ρ' st' h=>⟨by simpa [StS.conc] using h.1,?_⟩) fun _ _ _ h=>h) _ _ k3
    exact wpAS_sound0 bd C C' D D' hC hm hC' hm' noHS noH .no _ _ (roundQS_sound ht hf) _ _ h.2
  ·exact h.elim
 | .iy k l t a b,C,C',D,D',hC,hm,hC',hm',Y,Y',hY,Q,Q',hQ,ρ,st,h=>wpYS_sound hC hm hY (fun ρ st h=>condKS_sound (fun h=>wpAS_sound0 a C C' D D' hC hm hC' hm' Y Y' hY _ _ hQ _ _ h) (fun h=>wpAS_sound0 b C C' D D' hC hm hC' hm' Y Y' hY _ _ hQ _ _ h) h)
   (fun j ρ st h=>condKS_sound (fun h=>⟨h.1,hQ _ _ _ h.2⟩) (fun h=>⟨h.1,hQ _ _ _ h.2⟩) h) k l ρ st h
theorem wpAS_sound {C:CallS} {C':CallSO} {D:CallW} {D':CallO} (hC:SoundC C D) (hm:CMono D) (hC':∀ o,SoundC (C' o) (D' o)) (hm':(∀ o,CMono (D' o))∧SubO D') (a:AC) (Q:Ax→EnvS→StS→Prop) (Q':Ax→Env→St→Prop) (hQ:QE Q Q') (ρ:EnvS) (st:StS) (h:wpAS OpsS.real g C C' a noHS Q ρ st):wpA D D' a noH Q' (concE ρ) st.conc:=
 wpAS_sound0 a C C' D D' hC hm hC' hm' noHS noH .no Q Q' hQ ρ st h
theorem wpRes1S_sound {ρ:EnvS} {st:StS} {K:DC→Prop} {K':D→Prop} (hK:∀ d,K d→K' d.conc) {r:ARes} (h:wpRes1S ρ st K r):wpRes1 (concE ρ) st.conc K' r:=by
 unfold wpRes1S at h
 unfold wpRes1
 split at h
 ·simp only[concE_get];exact hK _ h
 ·split at h
  ·rename_i h1
   simp only[concE_get,h1,DC.conc]
   split at h
   ·rename_i B hB
    obtain ⟨hf,h⟩:=h
    rw[StS.box_get hB]
    split at h
    ·exact h.elim
    ·rename_i c r hne hs
     exact ⟨hf,c.conc,seek_head hs (cellS_of fun n t l e=>hne n t l (by simpa using e)),hK _ h⟩
    ·exact h.elim
   ·exact h.elim
  ·exact h.elim
 ·split at h
  ·rename_i h1
   simp only[concE_get,h1,DC.conc]
   split at h
   ·rename_i B hB
    obtain ⟨hf,h⟩:=h
    rw[StS.box_get hB]
    split at h
    ·rename_i cs1 hs1
     split at h
     ·rename_i cs hs
      obtain ⟨a1,a2⟩:=seekC_spec hs1
      obtain ⟨b1,b2⟩:=takeC_spec hs
      rw[←a2]at b1 b2
      have:=hK _ h
      simp only[DC.conc]at this
      refine ⟨hf,by simp only[BoxS.conc];simp at b1;omega,?_⟩
      simp only[BoxS.conc]
      rw[b2];exact this
     ·exact h.elim
    ·exact h.elim
   ·exact h.elim
  ·exact h.elim
theorem wpResS_sound {ρ:EnvS} {st:StS}:∀ {l:List ARes} {K:List DC→Prop} {K':List D→Prop},(∀ ds,K ds→K' (ds.map DC.conc))→wpResS ρ st K l→wpRes (concE ρ) st.conc K' l
 | [],_,_,hK,h=>hK _ h
 | r :: rs,K,K',hK,h=>by
  have h:wpRes1S ρ st (fun d=>wpResS ρ st (fun ds=>K (d :: ds)) rs) r:=h
  exact wpRes1S_sound (K':=fun d=>wpRes (concE ρ) st.conc (fun ds=>K' (d :: ds)) rs) (fun d h=>wpResS_sound (K:=fun ds=>K (d :: ds)) (K':=fun ds=>K' (d.conc :: ds)) (fun ds h=>hK _ h) h) h
theorem resS_conc:∀ ds:List DC,(resS ds).conc=resOf (ds.map DC.conc)
 | []=>by simp[resS,resOf,DC.conc,concL]
 | [d]=>rfl
 | d :: e :: r=>by simp only[resS,resOf,DC.conc,concL_eq,List.map_cons]
theorem retS_sound {ars:List ARes} {K:DC→StS→Prop} {K':D→St→Prop} (hK:∀ d st,K d st→K' d.conc st.conc):QE (retS ars K) (retQ ars K'):=by
 intro x ρ st h
 cases x with
 | x i=>exact h.elim
 | jmp j=>exact h.elim
 | n=>exact wpResS_sound (K:=fun ds=>K (resS ds) st) (fun ds h=>by rw[←resS_conc];exact hK _ _ h) h
 | r=>exact wpResS_sound (K:=fun ds=>K (resS ds) st) (fun ds h=>by rw[←resS_conc];exact hK _ _ h) h
end
section
variable {P:Program}
def PurS (P:Program) (f:FuncId) (args:List DC) (d:DC):Prop:=∃ x,d.conc=.p x∧PurFn P f (concL args) x
def FnS (P:Program) (f:FuncId) (ds:List DC) (st:StS) (K:DC→StS→Prop):Prop:=FnC P f (concL ds) st.conc (KP K)
def CPS (P:Program):CallS:=fun f ds st K=>CP P f (concL ds) st.conc (KP K)
def SpecSOK (P:Program) (S:SpecS):Prop:=∀ f s,lookN S f=some s→∀ xs K,s xs K→∃ x,PurS P f xs x∧K x
def SpecTOK (P:Program) (T:SpecT):Prop:=∀ f s,lookN T f=some s→∀ ds st K,s OpsS.real f ds st K→FnS P f ds st K
theorem SpecSOK.nil:SpecSOK P []:=fun _ _ h=>by cases h
theorem SpecSOK.cons {f:FuncId} {s:List DC→(DC→Prop)→Prop} {S:SpecS} (h:∀ xs K,s xs K→∃ x,PurS P f xs x∧K x) (hS:SpecSOK P S):SpecSOK P ((f,s) :: S):=fun k s' hk=>by
 simp only[lookN]at hk
 split at hk
 ·rename_i e;subst e;obtain rfl:=Option.some.inj hk;exact h
 ·exact hS k s' hk
theorem SpecTOK.nil:SpecTOK P []:=fun _ _ h=>by cases h
theorem SpecTOK.cons {f:FuncId} {s:OpsS→CallS} {T:SpecT} (h:∀ ds st K,s OpsS.real f ds st K→FnS P f ds st K) (hT:SpecTOK P T):SpecTOK P ((f,s) :: T):=fun k s' hk=>by
 simp only[lookN]at hk
 split at hk
 ·rename_i e;subst e;obtain rfl:=Option.some.inj hk;exact h
 ·exact hT k s' hk
theorem flatL_conc:∀ {cs:List DC},flatS.flatL cs=true→∃ ps,cs.map DC.conc=ps.map .p∧concCs cs=ps.map .p∧flatP.flatPs ps=true
 | [],_=>⟨[],rfl,by simp[concCs_nil],rfl⟩
 | d :: cs,h=>by
  cases d <;> simp only[flatS.flatL,Bool.and_eq_true,Bool.false_eq_true]at h
  ·rename_i x
   obtain ⟨ps,e1,e2,e3⟩:=flatL_conc h.2
   exact ⟨x :: ps,by simp only[List.map_cons,e1];simp[DC.conc],by rw[concCs_cons,e2];simp[cellS,DC.conc],by simp[flatP.flatPs,h.1,e3]⟩
  ·rename_i x
   obtain ⟨ps,e1,e2,e3⟩:=flatL_conc h
   exact ⟨.v (.bool x) :: ps,by simp only[List.map_cons,e1];simp[DC.conc],by rw[concCs_cons,e2];simp[cellS,DC.conc],by simp[flatP.flatPs,flatP,e3]⟩
theorem flatS_conc {d:DC} {x:PD} (h:flatS d=true) (hx:d.conc=.p x):flatP x=true:=by
 cases d <;> simp only[flatS,Bool.false_eq_true]at h
 ·simp only[DC.conc,D.p.injEq]at hx;subst hx;exact h
 ·simp only[DC.conc,D.p.injEq]at hx;subst hx;rfl
 ·obtain ⟨ps,_,e2,e3⟩:=flatL_conc h
  simp only[DC.conc,e2,mkAgg_map,D.p.injEq]at hx
  subst hx;simpa [flatP] using e3
 ·obtain ⟨ps,e1,_,e3⟩:=flatL_conc h
  have:mkTup (ps.map D.p)=.p (.tup ps):=by simp[mkTup,allP_map]
  simp only[DC.conc,concL_eq,e1,this,D.p.injEq]at hx
  subst hx;simpa [flatP] using e3
theorem CXS_cw {S:SpecS} (hS:SpecSOK P S) {T:SpecT} (hT:SpecTOK P T) {c:Ctx}:SoundC (CXS OpsS.real S T (FnS P)) (CW P c fun _=>True):=fun f ds st K h=>by
 have kb:∀ {x:DC} {st:StS},KBS x (fun x=>K x st)→KP K x.conc st.conc:=fun h=>KBS_real (K':=fun d=>KP K d _) (fun x hx=>KP.mk hx) h
 unfold CXS at h
 split at h
 ·rename_i s hs
  have:=hT f s hs ds st _ h
  exact CW.cmono _ _ _ _ _ (KP.use fun x s h=>kb h) (this c)
 split at h
 ·rename_i s hs
  split at h
  ·rename_i xs hx
   obtain ⟨x,⟨y,hy,hp⟩,hk⟩:=hS f s hs xs _ h
   have:=kb hk
   rw[hy]at this
   exact hp.cwP (pureN_as hx) this
  ·split at h
   ·rename_i xs p hx
    obtain ⟨hp0,h⟩:=h
    obtain ⟨x,⟨y,hy,hp⟩,hk⟩:=hS f s hs xs _ h
    have:=kb hk.2
    rw[hy]at this
    exact hp.cwG (flatS_conc hk.1 hy) (viewN_as hx hp0) this
   ·exact h.h c
 ·exact h.h c
theorem CXS_cp {S:SpecS} (hS:SpecSOK P S):SoundC (CXS OpsS.real S [] (CPS P)) (CP P):=fun f ds st K h=>by
 have kb:∀ {x:DC} {st:StS},KBS x (fun x=>K x st)→KP K x.conc st.conc:=fun h=>KBS_real (K':=fun d=>KP K d _) (fun x hx=>KP.mk hx) h
 simp only[CXS,lookN]at h
 split at h
 ·rename_i s hs
  split at h
  ·rename_i xs hx
   obtain ⟨x,⟨y,hy,hp⟩,hk⟩:=hS f s hs xs _ h
   have:=kb hk
   rw[hy]at this
   exact ⟨y,⟨_,.inl (pureN_as hx),hp⟩,this⟩
  ·split at h
   ·rename_i xs p hx
    obtain ⟨hp0,h⟩:=h
    obtain ⟨x,⟨y,hy,hp⟩,hk⟩:=hS f s hs xs _ h
    have:=kb hk.2
    rw[hy]at this
    exact ⟨y,⟨_,.inr ⟨viewN_as hx hp0,flatS_conc hk.1 hy⟩,hp⟩,this⟩
   ·exact h.h
 ·exact h.h
def SpecUOK (P:Program) (U:SpecU):Prop:=∀ f s,lookN U f=some s→∀ q ds st K,s OpsS.real q f ds st K→CPo P q f (concL ds) st.conc (KP K)
theorem SpecUOK.nil:SpecUOK P []:=fun _ _ h=>by cases h
theorem CXD_cp {S:SpecS} (hS:SpecSOK P S) {U:SpecU} (hU:SpecUOK P U):∀ o,SoundC (CXD OpsS.real S U (CPS P) o) (CPo P o):=fun q f ds st K h=>by
 have kb:∀ {x:DC} {st:StS},KBS x (fun x=>K x st)→KP K x.conc st.conc:=fun h=>KBS_real (K':=fun d=>KP K d _) (fun x hx=>KP.mk hx) h
 unfold CXD at h
 cases q with
 | none=>
  simp only at h
  split at h
  ·exact .inl (CXS_cp hS f ds st K h)
  ·split at h
   ·rename_i s hs
    exact CPo.cmono none _ _ _ _ _ (KP.use fun x s h=>kb h) (hU f s hs none ds st _ h)
   ·exact .inl (CXS_cp hS f ds st K h)
 | some pl=>
  simp only at h
  split at h
  ·rename_i s hs
   exact CT.cmono _ _ _ _ _ (KP.use fun x s h=>kb h) (hU f s hs (some pl) ds st _ h)
  ·exact .inl (CXS_cp hS f ds st K h)
theorem CPo.ok:(∀ o,CMono (CPo P o))∧SubO (CPo P):=⟨CPo.cmono,fun _ _ _ _ _ _ hs h=>CPo.sub hs h⟩
def TblLOK (P:Program) (tbl:TblL):Prop:=∀ f ac ars n,lookN tbl f=some (ac,ars,n)→(∀ vs w,(callFunc f vs).run P w=.ok (.enter f vs) w)∧∃ fn g,P.funcs[f]? = some fn∧compF P fn g=some (ac,ars)∧n≤fn.ntmps
theorem TblLOK.nil:TblLOK P []:=fun _ _ _ _ h=>by cases h
theorem TblLOK.cons {k:FuncId} {ac:AC} {ars:List ARes} {n:Nat} {fn:Func} {g:AC} {t:TblL} (hcall:∀ vs w,(callFunc k vs).run P w=.ok (.enter k vs) w) (hf:P.funcs[k]? = some fn) (hc:compF P fn g=some (ac,ars)) (hn:n≤fn.ntmps)
  (ht:TblLOK P t):TblLOK P ((k,ac,ars,n) :: t):=fun f ac' ars' n' h=>by
 simp only[lookN]at h
 split at h
 ·rename_i e
  subst e
  simp only[Option.some.injEq,Prod.mk.injEq]at h
  obtain ⟨rfl,rfl,rfl⟩:=h
  exact ⟨hcall,fn,g,hf,hc,hn⟩
 ·exact ht f ac' ars' n' h
theorem CIS_cw (hm:P.follows .mixedOrders=true) {g:Cfg} {S:SpecS} (hS:SpecSOK P S) {T:SpecT} (hT:SpecTOK P T) {U:SpecU} (hU:SpecUOK P U) {tbl:TblL} (ht:TblLOK P tbl):∀ (k:Nat) (c:Ctx),SoundC (CIS OpsS.real g S T U tbl (FnS P) (CPS P) k) (CW P c fun _=>True)
 | 0,c=>CXS_cw hS hT
 | k+1,c=>fun f ds st K h=>by
  unfold CIS at h
  split at h
  ·rename_i ac ars n hl
   obtain ⟨hcall,fn,g',hf,hc,hn⟩:=ht f ac ars n hl
   have h1:=h.1
   rw[Bool.and_eq_true,Bool.or_eq_true]at h1
   have hlen:=shortB_spec h1.1
   refine CW.of_wpA hm hcall hf hc (by simpa [StS.conc] using h1.2) (by rw[concL_length];omega) ?_
   have:=wpAS_sound (D:=FnC P) (fun f ds st K h c=>CIS_cw hm hS hT hU ht k c f ds st K h) FnC.cmono (CXD_cp hS hU) CPo.ok ac _ (retQ ars (KP K)) (retS_sound fun d st h=>KBS_real (K':=fun d=>KP K d _) (fun x hx=>KP.mk hx) h) _ _ h.2
   rwa [argsS_conc]at this
  ·exact CXS_cw hS hT f ds st K h
end
end Go.Ab
namespace Go.Ab
open Go.RowKit
def finV (o:OpsS) (st:StS):DC→Option (DC×Prop)
 | .tup ds=>match viewN o st ds with | some (l,p)=>some (.tup l,p) | none=>none
 | d=>view2 o st d
def FINC (o:OpsS) (dT:DC) (x:DC) (st:StS):Prop:=match finV o st x with
 | some (y,p)=>p∧leS [] [] y dT
 | none=>False
theorem finV_RD {st:StS} {x y:DC} {p:Prop} (h:finV OpsS.real st x=some (y,p)) (hp:p) {E:Em} {w:World} (hg:GOK E.G w) (hB:BoxOK E st.conc.box w) {u:Value} (hr:RD E x.conc u):RD (noE (nowG E w)) y.conc u:=by
 unfold finV at h
 split at h
 ·rename_i ds
  split at h
  ·rename_i l q hl
   simp only[Option.some.injEq,Prod.mk.injEq]at h
   obtain ⟨rfl,rfl⟩:=h
   obtain ⟨k1,k2⟩:=viewN_as hl hp
   simp only[DC.conc]at hr ⊢
   obtain ⟨us,rfl,hs,hR⟩:=RD.mkTup_inv hr
   exact RD.mkTup (.tup _ us (by omega) (k2 _ (fun _ _ h=>h) E w hg hB (fun i=>us.getD i undef) hR))
  ·cases h
 ·exact view2_RD h hp (fun _ _ h=>h) hg hB hr
theorem FINC_spec {dT x:DC} {st:StS} {pd:PD} (h:FINC OpsS.real dT x st) (hd:dT.conc=.p pd):∀ E w u,GOK E.G w→BoxOK E st.conc.box w→RD E x.conc u→RP (nowG E w) pd u:=by
 intro E w u hg hB hr
 unfold FINC at h
 split at h
 ·rename_i y p hy
  have h1:=finV_RD hy h.1 hg hB hr
  have h2:=leS_sound _ _ h.2 (noE (nowG E w)) (noE (nowG E w)) u ⟨rfl,fun j i x hj=>by simp[fN,nthD]at hj,fun j i t hj=>by simp[fN,nthD]at hj⟩ h1
  rw[hd]at h2
  exact h2.p_inv
 ·exact h.elim
section
variable {P:Program}
theorem PurS.of (hm:P.follows .mixedOrders=true) (g:Cfg) {S:SpecS} (hS:SpecSOK P S) {T:SpecT} (hT:SpecTOK P T) {U:SpecU} (hU:SpecUOK P U) {tbl:TblL} (ht:TblLOK P tbl) (k:Nat) {f:FuncId} {fn:Func} {g' ac:AC} {ars:List ARes} (hcall:∀ vs w,(callFunc f vs).run P w=.ok (.enter f vs) w) (hf:P.funcs[f]? = some fn)
  (hc:compF P fn g'=some (ac,ars)) {args:List DC} {n:Nat} (hn:n≤fn.ntmps) (hl:shortB args n=true) {dT:DC} (hd:∃ pd,dT.conc=.p pd)
  (h:∀ (cmp:BinOp→Int→Int→Bool) (ar:BinOp→IntKind→Int→Int→Int) (cv:IntKind→Int→Int) (tn:Int→Nat) (ic:Nat→Int) (ai:Nat→Int→Int) (mx:Bool→Int→Int→Int) (an:Bool→Bool→Bool) (ad ml sb mn:Nat→Nat→Nat)
   (ln:(t:Ty)→List t.den→Nat) (em:(t:Ty)→List t.den→Bool) (gt:(t:Ty)→List t.den→Int→t.den) (up:(t:Ty)→Nat→List t.den→Int→t.den→List t.den) (ap:(t:Ty)→List t.den→List t.den→List t.den)
   (sc:(t:Ty)→List t.den→Int→Int→List t.den) (vw:(t:Ty)→Nat→List t.den→Nat→Nat→List t.den) (cp:(t:Ty)→Nat→List t.den→Nat→List t.den→Nat→List t.den) (rp:(t:Ty)→Nat→t.den→List t.den) (p1:(a b:Ty)→a.den×b.den→a.den) (p2:(a b:Ty)→a.den×b.den→b.den) (s1:(t:Ty)→Option Bool×List t.den→Option Bool) (s2:(t:Ty)→Option Bool×List t.den→List t.den) (X Y:CallS),
   X=FnS P→Y=CPS P→cmp=cmpR→ar=arR→cv=(fun k n=>k.wrap n)→tn=Int.toNat→ic=(fun n:Nat=>(n:Int))→ai=(fun (n:Nat) (k:Int)=>(n:Int)+k)→mx=mxR→an=(fun a b=>a && b)→ad=(fun a b=>a+b)→ml=(fun a b=>a*b)→sb=(fun a b=>a - b)→mn=(fun a b=>min a b) →
   ln=(fun _ l=>l.length)→em=(fun _ l=>l.isEmpty)→gt=gtR→up=upR→ap=(fun _ a b=>a ++ b)→sc=scR→vw=vwR→cp=cpR→rp=(fun _ n x=>List.replicate n x)→p1=(fun _ _ x=>x.1)→p2=(fun _ _ x=>x.2)→s1=(fun _ x=>x.1)→s2=(fun _ x=>x.2) →
   wpAS ⟨cmp,ar,cv,tn,ic,ai,mx,an,ad,ml,sb,mn,ln,em,gt,up,ap,sc,vw,cp,rp,⟨p1,p2,s1,s2⟩⟩ g (CIS ⟨cmp,ar,cv,tn,ic,ai,mx,an,ad,ml,sb,mn,ln,em,gt,up,ap,sc,vw,cp,rp,⟨p1,p2,s1,s2⟩⟩ g S T U tbl X Y k) (CXD ⟨cmp,ar,cv,tn,ic,ai,mx,an,ad,ml,sb,mn,ln,em,gt,up,ap,sc,vw,cp,rp,⟨p1,p2,s1,s2⟩⟩ S U Y) ac noHS
    (retS ars (FINC ⟨cmp,ar,cv,tn,ic,ai,mx,an,ad,ml,sb,mn,ln,em,gt,up,ap,sc,vw,cp,rp,⟨p1,p2,s1,s2⟩⟩ dT)) (argsS 0 args) ⟨[],[]⟩):PurS P f args dT:=by
 obtain ⟨pd,hd⟩:=hd
 refine ⟨pd,hd,PurFn.ofG hm hcall hf hc (by have:=shortB_spec hl;rw[concL_length];omega) ?_⟩
 have h:=h cmpR arR (fun k n=>k.wrap n) Int.toNat (fun n:Nat=>(n:Int)) (fun (n:Nat) (k:Int)=>(n:Int)+k) mxR (fun a b=>a && b) (fun a b=>a+b) (fun a b=>a*b) (fun a b=>a - b) (fun a b=>min a b) (fun _ l=>l.length) (fun _ l=>l.isEmpty) gtR upR (fun _ a b=>a ++ b) scR vwR cpR (fun _ n x=>List.replicate n x) (fun _ _ x=>x.1) (fun _ _ x=>x.2) (fun _ x=>x.1) (fun _ x=>x.2) (FnS P) (CPS P) rfl rfl rfl rfl rfl rfl rfl rfl rfl rfl rfl rfl rfl rfl rfl rfl rfl rfl rfl rfl rfl rfl rfl rfl rfl rfl rfl
 have:=wpAS_sound (D:=FnC P) (fun f ds st K h c=>CIS_cw hm hS hT hU ht k c f ds st K h) FnC.cmono (CXD_cp hS hU) CPo.ok ac _ (retQ ars fun x st=>∀ E w u,GOK E.G w→BoxOK E st.box w→RD E x u→RP (nowG E w) pd u) (retS_sound fun d st h=>FINC_spec h hd) _ _ h
 rwa [argsS_conc]at this
end
theorem INB_iff {k n:Int}:INB k n↔0≤k∧k<n:=⟨fun h=>⟨h.1,h.2⟩,fun h=>⟨h.1,h.2⟩⟩
theorem SLB_iff {a b n:Int}:SLB a b n↔0≤a∧a≤b∧b≤n:=⟨fun h=>⟨h.1,h.2,h.3⟩,fun h=>⟨h.1,h.2.1,h.2.2⟩⟩
theorem SLM_iff {a b n:Int}:SLM a b n↔0≤a∧a<b∧b≤n:=⟨fun h=>⟨h.1,h.2,h.3⟩,fun h=>⟨h.1,h.2.1,h.2.2⟩⟩
theorem NZ_iff {b:Int}:NZ b↔b≠0:=⟨fun h=>h.1,fun h=>⟨h⟩⟩
theorem NN_iff {b:Int}:NN b↔0≤b:=⟨fun h=>h.1,fun h=>⟨h⟩⟩
theorem EQN_iff {a b:Nat}:EQN a b↔a=b:=⟨fun h=>h.1,fun h=>⟨h⟩⟩
theorem LEN_iff {a b:Nat}:LEN a b↔a≤b:=⟨fun h=>h.1,fun h=>⟨h⟩⟩
theorem LIM_iff {m b:Nat}:LIM m b↔m*b≤140737488355328∧m≤9223372036854775807:=⟨fun h=>⟨h.1,h.2⟩,fun h=>⟨h.1,h.2⟩⟩
theorem MK_iff {n m:Int} {b:Nat}:MK n m b↔0≤n∧n≤m∧m*b≤281474976710656∧m≤9223372036854775807:=⟨fun h=>⟨h.1,h.2,h.3,h.4⟩,fun h=>⟨h.1,h.2.1,h.2.2.1,h.2.2.2⟩⟩
def SIMX (b gb:Nat) (ρ:EnvS) (st:StS) (ρ':EnvS) (st':StS):Prop:=(ρ=ρ'∧st=st')∨∃ fl hl,SIM b gb fl hl ρ st ρ' st'
theorem SIMX.sim {b gb:Nat} {ρ ρ':EnvS} {st st':StS} (h:SIMX b gb ρ st ρ' st'):Sim b gb (concE ρ) st.conc (concE ρ') st'.conc:=by
 rcases h with ⟨rfl,rfl⟩ | ⟨fl,hl,h⟩
 ·exact Sim.refl _ _ _ _
 ·exact h.sim
theorem LOOP.ind {body:(Ax→EnvS→StS→Prop)→EnvS→StS→Prop} {b gb:Nat} {keep:List Nat} {Q:Ax→EnvS→StS→Prop} {ρ0:EnvS} {st0:StS} {σ:Type}
  (env:σ→EnvS) (st:σ→StS) (μ:σ→Nat) (I:σ→Prop) (s0:σ) (h0:I s0) (hs:SIMX b gb ρ0 st0 (env s0) (st s0))
  (h:∀ s,I s→∀ X:EnvS→StS→Prop,(∀ (s':σ) (ρ':EnvS) (st':StS),I s'→μ s'<μ s→SIMX b gb ρ' st' (env s') (st s')→X ρ' st') →
   body (Ax.thnS (fun ρ' st'=>NEXT X (ρ'.keep keep) st') Q) (env s) (st s)):LOOP body (some (b,gb)) keep Q ρ0 st0:=by
 refine ⟨μ s0+1,?_⟩
 have key:∀ k s,I s→μ s<k→∀ ρ' st',SIMX b gb ρ' st' (env s) (st s)→LoopS body (some (b,gb)) keep Q k ρ' st':=by
  intro k
  induction k with
  | zero=>intro s _ hk;omega
  | succ k ih=>
   intro s hs hk ρ' st' hsim
   exact ⟨env s,st s,hsim.sim,h s hs _ fun s' ρ' st' hi hlt hsim=>ih s' hi (by omega) ρ' st' hsim⟩
 exact key _ s0 h0 (Nat.lt_succ_self _) ρ0 st0 hs
theorem SIM_iff {b gb:Nat} {fl hl:List (Option Nat)} {ρ:EnvS} {st:StS} {ρ':EnvS} {st':StS}:SIM b gb fl hl ρ st ρ' st' ↔
  (Nat.ble b st'.box.length && Nat.ble gb st'.grp.length && dupFree fl && dupFree hl && lowB true b fl 0 && lowB false gb hl 0)=true∧leBoxes fl hl st.box b 0 fl st'.box∧leGrps st.grp hl st'.grp∧leEnv fl hl ρ ρ':=
 ⟨fun h=>⟨h.1,h.2,h.3,h.4⟩,fun h=>⟨h.1,h.2.1,h.2.2.1,h.2.2.2⟩⟩
theorem wrap64 {n:Int} (h0 : -9223372036854775808≤n) (h1:n<9223372036854775808):IntKind.i64.wrap n=n:=by
 simp[IntKind.wrap,IntKind.bits,IntKind.signed];split <;> omega
end Go.Ab
namespace Go.Ab
open Go.RowKit
def injT:(t:Ty)→t.den→DC
 | .int k,x=>.p (.v (.int k x))
 | .bool,x=>.sb x
 | .pair a b,x=>.agg (elemS .real (.pair a b) x)
 | .sl t,x=>.tl x.1 t x.2
def Ty.isPair:Ty→Bool
 | .pair _ _=>true
 | _=>false
def getT (t:Ty) (d:DC):Option t.den:=match toDen t (cellsS d) with
 | some (x,[])=>(match t.isPair == wpOpS.isAggS d with | true=>some x | false=>none)
 | _=>none
theorem conc_of_cells {d:DC} {x:D} (ha:wpOpS.isAggS d=false) (h:concCs (cellsS d)=[x]):d.conc=x∨∃ n t l,d=.arr n t l:=by
 cases d <;> first
  | exact .inr ⟨_,_,_,rfl⟩
  | (left;simp only[cellsS,concCs_one,cellS,List.cons.injEq,and_true]at h;exact h)
  | skip
 ·rename_i y
  left
  cases y <;> first | (simp[wpOpS.isAggS]at ha;done) | (simp only[cellsS,concCs_one,cellS,List.cons.injEq,and_true]at h;exact h)
 ·simp[wpOpS.isAggS]at ha
theorem getT_conc {t:Ty} {d:DC} {x:t.den} (h:getT t d=some x):d.conc=(injT t x).conc:=by
 unfold getT at h
 split at h
 ·rename_i y hy
  split at h
  ·rename_i ha
   obtain rfl:=Option.some.inj h
   have hc:=toDen_spec hy
   rw[concCs_nil,List.append_nil]at hc
   have ha:t.isPair=wpOpS.isAggS d:=by simpa using ha
   cases t with
   | pair a b=>
    rw[isAggS_spec ha.symm,hc,←elemS_conc];simp only[injT,DC.conc]
   | int k=>
    rcases conc_of_cells ha.symm hc with h1 | ⟨n,t',l,rfl⟩
    ·rw[h1];simp only[injT,DC.conc]
    ·simp[cellsS,toDen,toIntC]at hy
   | bool=>
    rcases conc_of_cells ha.symm hc with h1 | ⟨n,t',l,rfl⟩
    ·rw[h1];simp only[injT,DC.conc]
    ·simp[cellsS,toDen,toBoolC]at hy
   | sl t=>
    rcases conc_of_cells ha.symm hc with h1 | ⟨n,t',l,rfl⟩
    ·rw[h1];simp only[injT,DC.conc]
    ·simp[cellsS,toDen,toSlC]at hy
  ·cases h
 ·cases h
structure Short {α:Type} (n:Nat) (l:List α):Prop where
 h:l.length≤n
theorem Short_iff {α:Type} {n:Nat} {l:List α}:Short n l↔l.length≤n:=⟨fun h=>h.1,fun h=>⟨h⟩⟩
structure PRE (p:Prop):Prop where
 h:p
section
variable {P:Program} {f:FuncId}
theorem PurS.cong {xs ys:List DC} {d:DC} (h:PurS P f ys d) (he:concL xs=concL ys):PurS P f xs d:=by
 obtain ⟨x,h1,h2⟩:=h
 exact ⟨x,h1,by rw[he];exact h2⟩
def spT0 (r:DC):List DC→(DC→Prop)→Prop
 | [],K=>K r
 | _,_=>False
def spT1 (a:Ty) (pre:a.den→Prop) (r:a.den→DC):List DC→(DC→Prop)→Prop
 | [x],K=>match getT a x with | some x=>pre x∧K (r x) | none=>False
 | _,_=>False
def spT2 (a b:Ty) (pre:a.den→b.den→Prop) (r:a.den→b.den→DC):List DC→(DC→Prop)→Prop
 | [x,y],K=>match getT a x,getT b y with | some x,some y=>pre x y∧K (r x y) | _,_=>False
 | _,_=>False
def spT5 (a b c d e:Ty) (pre:a.den→b.den→c.den→d.den→e.den→Prop) (r:a.den→b.den→c.den→d.den→e.den→DC):List DC→(DC→Prop)→Prop
 | [x,y,z,w,v],K=>match getT a x,getT b y,getT c z,getT d w,getT e v with | some x,some y,some z,some w,some v=>pre x y z w v∧K (r x y z w v) | _,_,_,_,_=>False
 | _,_=>False
theorem spT0.ok {r:DC} (h:PurS P f [] r):∀ xs K,spT0 r xs K→∃ x,PurS P f xs x∧K x:=fun xs K hs=>by
 unfold spT0 at hs
 split at hs
 ·exact ⟨_,h,hs⟩
 ·exact hs.elim
theorem spT1.ok {a:Ty} {pre:a.den→Prop} {r:a.den→DC} (h:∀ x,pre x→PurS P f [injT a x] (r x)):∀ xs K,spT1 a pre r xs K→∃ x,PurS P f xs x∧K x:=fun xs K hs=>by
 unfold spT1 at hs
 split at hs
 ·split at hs
  ·rename_i h1
   exact ⟨_,(h _ hs.1).cong (by simp only[concL,getT_conc h1]),hs.2⟩
  ·exact hs.elim
 ·exact hs.elim
theorem spT2.ok {a b:Ty} {pre:a.den→b.den→Prop} {r:a.den→b.den→DC} (h:∀ x y,pre x y→PurS P f [injT a x,injT b y] (r x y)):∀ xs K,spT2 a b pre r xs K→∃ x,PurS P f xs x∧K x:=fun xs K hs=>by
 unfold spT2 at hs
 split at hs
 ·split at hs
  ·rename_i h1 h2
   exact ⟨_,(h _ _ hs.1).cong (by simp only[concL,getT_conc h1,getT_conc h2]),hs.2⟩
  ·exact hs.elim
 ·exact hs.elim
theorem spT5.ok {a b c d e:Ty} {pre:a.den→b.den→c.den→d.den→e.den→Prop} {r:a.den→b.den→c.den→d.den→e.den→DC} (h:∀ x y z w v,pre x y z w v→PurS P f [injT a x,injT b y,injT c z,injT d w,injT e v] (r x y z w v)):∀ xs K,spT5 a b c d e pre r xs K→∃ x,PurS P f xs x∧K x:=fun xs K hs=>by
 unfold spT5 at hs
 split at hs
 ·split at hs
  ·rename_i h1 h2 h3 h4 h5
   exact ⟨_,(h _ _ _ _ _ hs.1).cong (by simp only[concL,getT_conc h1,getT_conc h2,getT_conc h3,getT_conc h4,getT_conc h5]),hs.2⟩
  ·exact hs.elim
 ·exact hs.elim
end
theorem gtR_drop {t:Ty} {l:List t.den} {i:Int} (h0:0≤i) (h1:i<l.length):l.drop i.toNat=gtR t l i :: l.drop (i+1).toNat:=by
 have h:i.toNat<l.length:=by omega
 rw[List.drop_eq_getElem_cons h]
 simp[gtR,h,show (i+1).toNat=i.toNat+1 by omega]
theorem nc_eq (n:Nat):@NatCast.natCast Int instNatCastInt n = @Nat.cast Int instNatCastInt n:=rfl
theorem gtR_end {α:Type} {l:List α} {i:Int} (h:¬ i<l.length):l.drop i.toNat=[]:=List.drop_eq_nil_of_le (by omega)
def spTF1 (a:Ty) (k:FuncId) (pre:a.den→Prop) (r:a.den→DC):List DC→(DC→Prop)→Prop
 | [x,.fn (.func k') [] []],K=>match getT a x with | some x=>k'=k∧pre x∧K (r x) | none=>False
 | _,_=>False
theorem spTF1.ok {P:Program} {f:FuncId} {a:Ty} {k:FuncId} {pre:a.den→Prop} {r:a.den→DC} (h:∀ x,pre x→PurS P f [injT a x,.fn (.func k) [] []] (r x)):∀ xs K,spTF1 a k pre r xs K→∃ x,PurS P f xs x∧K x:=fun xs K hs=>by
 unfold spTF1 at hs
 split at hs
 ·split at hs
  ·rename_i h1
   obtain ⟨rfl,hp,hs⟩:=hs
   exact ⟨_,(h _ hp).cong (by simp only[concL,getT_conc h1]),hs⟩
  ·exact hs.elim
 ·exact hs.elim
abbrev iv (n:Int):PD:=.v (.int .i64 n)
abbrev tI:Ty:=.int .i64
end Go.Ab
namespace Go.Ab
open Go.RowKit Go.ChangeShapes Go.WideShapes
def memOf (w:World):Mem:=fun b o=>match w.cell? ⟨b,o,none⟩ with | some u=>if u.oneCell' then some u else none | none=>none
theorem memOf_ok (w:World):GOK (memOf w) w:=fun b o u h=>by
 unfold memOf at h
 split at h
 ·rename_i v hv
  split at h
  ·rename_i h1
   obtain rfl:v=u:=by simpa using h
   exact ⟨hv,h1⟩
  ·cases h
 ·cases h
theorem memOf_of {w:World} {b o:Nat} {u:Value} (h:w.cell? ⟨b,o,none⟩=some u) (h1:u.oneCell'=true):memOf w b o=some u:=by
 simp[memOf,h,h1]
def TyC (P:Program):Nat→TypeId→List PD→Prop
 | 0,_,_=>False
 | n+1,t,xs=>match P.underlying t with
  | some .bool=>∃ b,xs=[.v (.bool b)]
  | some (.int k)=>∃ i,xs=[.v (.int k i)]∧(Lit.int k i).wf=true
  | some (.slice e)=>∃ nl m cells,xs=[.sl (some nl) m cells]∧(nl=true→m=0)∧m≤maxLen∧cells.length=m*P.cellsOf e∧∀ i,i<m→TyC P n e ((cells.drop (i*P.cellsOf e)).take (P.cellsOf e))
  | some (.struct fs)=>xs.length=P.cellsOf t∧∀ f∈fs.toList,TyC P n f.type ((xs.drop f.offset).take (P.cellsOf f.type))
  | some (.array m e)=>xs.length=P.cellsOf t∧∀ i,i<m→TyC P n e ((xs.drop (i*P.cellsOf e)).take (P.cellsOf e))
  | _=>∃ c,xs=[.v c]
def TyV (P:Program) (t:TypeId) (x:PD):Prop:=match P.underlying t with
 | some (.struct _) | some (.array _ _)=>∃ n xs,x=.agg xs∧TyC P n t xs
 | _=>∃ n,TyC P n t [x]
def Rep (w:World) (cs:List Value) (xs:List PD):Prop:=xs.length=cs.length∧∀ i,i<cs.length→RP (memOf w) (xs.getD i default) (cs.getD i undef)∧(cs.getD i undef).oneCell'=true
theorem Rep.one {w:World} {c:Value} {x:PD} (h:RP (memOf w) x c) (h1:c.oneCell'=true):Rep w [c] [x]:=⟨rfl,fun i hi=>by
 obtain rfl:i=0:=by simpa using hi
 exact ⟨h,h1⟩⟩
theorem Rep.append {w:World} {cs ds:List Value} {xs ys:List PD} (h:Rep w cs xs) (h':Rep w ds ys):Rep w (cs ++ ds) (xs ++ ys):=⟨by simp[h.1,h'.1],fun i hi=>by
 by_cases hc:i<cs.length
 ·have hx:i<xs.length:=by rw[h.1];exact hc
  simp only[List.getD,List.getElem?_append_left hc,List.getElem?_append_left hx]
  exact h.2 i hc
 ·have hx:xs.length≤i:=by rw[h.1];omega
  simp only[List.getD,List.getElem?_append_right (Nat.le_of_not_lt hc),List.getElem?_append_right hx,h.1]
  exact h'.2 _ (by simp at hi;omega)⟩
theorem Rep.cover {w:World}:∀ (l:List (Nat×(List PD→Prop))) (cs:List Value),(l.map (·.1)).sum=cs.length →
  (∀ (j:Nat) (s:Nat×(List PD→Prop)),l[j]? = some s→∃ xs,Rep w ((cs.drop ((l.take j).map (·.1)).sum).take s.1) xs∧s.2 xs) →
  ∃ xs:List PD,Rep w cs xs∧∀ (j:Nat) (s:Nat×(List PD→Prop)),l[j]? = some s→s.2 ((xs.drop ((l.take j).map (·.1)).sum).take s.1)
 | [],cs,hs,_=>by
  have:cs=[]:=List.eq_nil_of_length_eq_zero (by simpa using hs.symm)
  subst this
  exact ⟨[],⟨rfl,fun i hi=>by simp at hi⟩,fun j s h=>by simp at h⟩
 | (k,p) :: l,cs,hs,h=>by
  simp only[List.map_cons,List.sum_cons]at hs
  obtain ⟨xs0,r0,p0⟩:=h 0 (k,p) rfl
  simp only[List.take_zero,List.map_nil,List.sum_nil,List.drop_zero]at r0
  obtain ⟨xs1,r1,p1⟩:=Rep.cover l (cs.drop k) (by simp;omega) fun j s hj=>by
   obtain ⟨xs,r,q⟩:=h (j+1) s (by simpa using hj)
   simp only[List.take_succ_cons,List.map_cons,List.sum_cons]at r
   rw[List.drop_drop]
   exact ⟨xs,r,q⟩
  have hl:xs0.length=k:=by rw[r0.1];simp;omega
  refine ⟨xs0 ++ xs1,?_,fun j s hj=>?_⟩
  ·have:=r0.append r1
   rwa [List.take_append_drop]at this
  ·cases j with
   | zero=>
    obtain rfl:(k,p)=s:=by simpa using hj
    simp only[List.take_zero,List.map_nil,List.sum_nil,List.drop_zero]
    rw[List.take_left' hl];exact p0
   | succ j=>
    simp only[List.take_succ_cons,List.map_cons,List.sum_cons]
    rw[←List.drop_drop,List.drop_left' hl]
    exact p1 j s (by simpa using hj)
theorem sum_replicate (m k:Nat) (p:List PD→Prop) (j:Nat) (hj:j≤m):(((List.replicate m (k,p)).take j).map (·.1)).sum=j*k:=by
 rw[List.take_replicate,Nat.min_eq_left hj,List.map_replicate,List.sum_replicate_nat]
section
variable {H:Type} {enc:TypeId×Value→H} {P:Program} {w:World} {spare:Nat→Bool} {held:Bool}
theorem Rep.array {cs:List Value} {m k:Nat} {p:List PD→Prop} (hl:cs.length=m*k) (h:∀ i,i<m→∃ xs,Rep w ((cs.drop (i*k)).take k) xs∧p xs) :
  ∃ xs,Rep w cs xs∧∀ i,i<m→p ((xs.drop (i*k)).take k):=by
 obtain ⟨xs,r,q⟩:=Rep.cover (w:=w) (List.replicate m (k,p)) cs (by rw[List.map_replicate,List.sum_replicate_nat,hl]) fun j s hj=>by
  rw[List.getElem?_replicate]at hj
  split at hj
  ·rename_i hm
   obtain rfl:(k,p)=s:=by simpa using hj
   rw[sum_replicate m k p j (by omega)]
   exact h j hm
  ·cases hj
 refine ⟨xs,r,fun i hi=>?_⟩
 have:=q i (k,p) (by rw[List.getElem?_replicate,if_pos hi])
 rwa [sum_replicate m k p i (by omega)]at this
theorem cellAt_add (a:Addr) (i j:Nat):(a.add i).add j=a.add (i+j):=by
 unfold Addr.add
 by_cases hi:i=0 <;> by_cases hj:j=0 <;> simp[hi,hj] <;> omega
theorem cells?_get {base:Nat} {a:Addr} {n:Nat} {cs:List Value} (h:w.cells? base a n=some cs):cs.length=n∧∀ j,j<n→w.cell? (a.add j)=cs[j]?:=by
 unfold World.cells? at h
 split at h
 ·have hl:cs.length=n:=by simpa using Go.mapM_some_length h
  exact ⟨hl,fun j hj=>Go.mapM_some_get h j j (by simp[hj])⟩
 ·cases h
theorem cell?_none {a:Addr} {n:Nat} {u:Value} (h:w.cell? (a.add n)=some u):(n=0→a.spot=none)∧w.cell? ⟨a.block,a.off+n,none⟩=some u:=by
 unfold Addr.add at h
 by_cases hn:n=0
 ·subst hn
  rw[if_pos rfl]at h
  obtain ⟨b,o,sp⟩:=a
  cases sp with
  | none=>exact ⟨fun _=>rfl,h⟩
  | some s=>
   exfalso
   unfold World.cell? at h
   split at h <;> simp at h
 ·rw[if_neg hn]at h
  exact ⟨fun e=>absurd e hn,h⟩
theorem trod_rep (K:Kids P (· < P.types.size)) (hz:∀ t e,t<P.types.size→P.underlying t=some (.slice e)→0<P.cellsOf e):∀ (n:Nat) (t:TypeId) (cs:List Value) (x:DataW H×List MemPlace),t<P.types.size→DataW.trod enc P w 0 spare held n t cs=some x→∃ xs,Rep w cs xs∧TyC P n t xs
 | 0,_,_,_,_,h=>by simp[DataW.trod]at h
 | n+1,t,cs,x,hT,h=>by
  have one:∀ c,cs=[c]→c.oneCell'=true→∃ xs,Rep w cs xs∧∃ c,xs=[PD.v c]:=fun c e h1=>by
   subst e
   exact ⟨_,Rep.one (.v _) h1,_,rfl⟩
  cases hu:P.underlying t with
  | none=>unfold DataW.trod at h;rw[hu]at h;simp at h
  | some u=>
   cases u with
   | bool=>
    unfold DataW.trod at h;rw[hu]at h
    simp only[TyC,hu]
    split at h <;> first | exact ⟨_,Rep.one (.v _) rfl,_,rfl⟩ | (simp_all;done)
   | int k=>
    unfold DataW.trod at h;rw[hu]at h
    simp only[TyC,hu]
    split at h <;> first | (simp_all;done) | skip
    ·rename_i k1 k2 i h1
     simp only[Option.some.injEq,TypeDesc.int.injEq]at h1
     split at h
     ·rename_i h2
      exact ⟨_,Rep.one (.v _) rfl,_,by rw[h2.1,h1],by rw[h1];exact h2.2⟩
     ·cases h
   | slice e=>
    simp only[TyC,hu]
    rcases DataW.trod_slice hu h with ⟨rfl,_⟩ | ⟨a,len,cap,elems,rest,n',hn,rfl,_,_,hlc,hcm,hel,hi,_,_⟩
    ·exact ⟨_,Rep.one (.nil (some true) (by simp)) rfl,_,_,_,rfl,fun _=>rfl,Nat.zero_le _,by simp,fun i hi=>absurd hi (Nat.not_lt_zero _)⟩
    ·obtain rfl:n=n':=by omega
     let us:Nat→Value:=fun i=>(w.cell? ⟨a.block,a.off+i,none⟩).getD undef
     have hseg:∀ i,i<len→∃ ds y,w.cells? 0 (a.add (i*P.cellsOf e)) (P.cellsOf e)=some ds∧DataW.trod enc P w 0 spare held n e ds=some y:=fun i hi'=>by
      have:=hi i hi'
      rw[List.getElem?_eq_getElem (by omega)]at this
      obtain ⟨ds,h1,h2⟩:=Option.bind_eq_some_iff.1 this
      exact ⟨ds,_,h1,h2⟩
     have hds:∀ i,i<len→∀ ds,w.cells? 0 (a.add (i*P.cellsOf e)) (P.cellsOf e)=some ds→((((List.range (len*P.cellsOf e)).map us).drop (i*P.cellsOf e)).take (P.cellsOf e))=ds:=fun i hi' ds hd=>by
      obtain ⟨h1,h2⟩:=cells?_get hd
      have hle:i*P.cellsOf e+P.cellsOf e≤len*P.cellsOf e:=by
       rw[←Nat.succ_mul];exact Nat.mul_le_mul_right _ hi'
      apply List.ext_getElem?
      intro j
      by_cases hj:j<P.cellsOf e
      ·rw[List.getElem?_take_of_lt hj,List.getElem?_drop,List.getElem?_map,List.getElem?_range (by omega)]
       have hc:=h2 j hj
       rw[cellAt_add,List.getElem?_eq_getElem (by omega)]at hc
       rw[List.getElem?_eq_getElem (by omega)]
       simp only[Option.map_some,us,(cell?_none hc).2,Option.getD_some]
      ·rw[List.getElem?_eq_none (by simp;omega),List.getElem?_eq_none (by omega)]
     obtain ⟨xs,r,q⟩:=Rep.array (w:=w) (cs:=(List.range (len*P.cellsOf e)).map us) (m:=len) (k:=P.cellsOf e) (p:=TyC P n e) (by simp) fun i hi'=>by
      obtain ⟨ds,y,h1,h2⟩:=hseg i hi'
      rw[hds i hi' ds h1]
      exact trod_rep K hz n e ds y (K.slice hT hu) h2
     have hcell:∀ i,i<len*P.cellsOf e→w.cell? ⟨a.block,a.off+i,none⟩=some (us i)∧(i=0→a.spot=none):=fun i hi'=>by
      have hk:0<P.cellsOf e:=Nat.pos_of_ne_zero fun h0=>by rw[h0]at hi';omega
      have hq:i / P.cellsOf e<len:=(Nat.div_lt_iff_lt_mul hk).2 hi'
      obtain ⟨ds,y,h1,_⟩:=hseg _ hq
      obtain ⟨g1,g2⟩:=cells?_get h1
      have hc:=g2 (i % P.cellsOf e) (Nat.mod_lt _ hk)
      rw[cellAt_add,List.getElem?_eq_getElem (by rw[g1];exact Nat.mod_lt _ hk),Nat.div_add_mod']at hc
      obtain ⟨g3,g4⟩:=cell?_none hc
      exact ⟨by simp only[us];rw[g4];rfl,g3⟩
     have hxl:xs.length=len*P.cellsOf e:=by rw[r.1];simp
     obtain ⟨b,o,sp⟩:=a
     have hR:∀ i,i<xs.length→RP (memOf w) (xs.getD i default) (us i)∧(us i).oneCell'=true:=fun i hi'=>by
      have:=r.2 i (by simp;omega)
      rwa [show ((List.range (len*P.cellsOf e)).map us).getD i undef=us i by simp[List.getD,List.getElem?_range (show i<len*P.cellsOf e by omega)]]at this
     by_cases h0:len*P.cellsOf e=0
     ·by_cases hl0:len=0
      ·refine ⟨_,Rep.one (.sl' (some false) len xs b o cap us sp (by simp) hlc (fun i hi'=>by omega) (fun i hi'=>(hR i hi').1) (.inr hl0)) rfl,_,_,_,rfl,fun e=>(by cases e),by omega,hxl,q⟩
      ·exact absurd h0 (Nat.ne_of_gt (Nat.mul_pos (Nat.pos_of_ne_zero hl0) (hz t e hT hu)))
     ·have hsp:sp=none:=(hcell 0 (by omega)).2 rfl
      subst hsp
      exact ⟨_,Rep.one (.sl (some false) len xs b o cap us (by simp) hlc (fun i hi'=>memOf_of (hcell i (by omega)).1 (hR i hi').2) (fun i hi'=>(hR i hi').1)) rfl,_,_,_,rfl,fun e=>(by cases e),by omega,hxl,q⟩
   | struct fs=>
    simp only[TyC,hu]
    obtain ⟨ys,n',hn,_,hcl,hyl,hf⟩:=DataW.trod_struct hu h
    obtain rfl:n=n':=by omega
    obtain ⟨k1,k2,k3⟩:=K.struct hT hu
    obtain ⟨xs,r,q⟩:=Rep.cover (w:=w) (fs.toList.map fun f=>(P.cellsOf f.type,TyC P n f.type)) cs (by rw[List.map_map,hcl,k2];rfl) fun j s hj=>by
     rw[List.getElem?_map]at hj
     obtain ⟨f,hfj,rfl⟩:=Option.map_eq_some_iff.1 hj
     have ho:=k3 j f hfj
     have hy:=hf j f (by simpa using hfj)
     have hjl:j<fs.size:=by have:=(List.getElem?_eq_some_iff.1 hfj).1;simpa using this
     rw[List.getElem?_eq_getElem (by omega)]at hy
     rw[←List.map_take,List.map_map]
     have e1:((fs.toList.take j).map ((·.1) ∘ fun f:Field=>(P.cellsOf f.type,TyC P n f.type))).sum=f.offset:=ho.symm
     rw[e1]
     exact trod_rep K hz n f.type _ _ (k1 f (List.mem_of_getElem? hfj)) hy
    refine ⟨xs,r,by rw[r.1,hcl],fun f hfm=>?_⟩
    obtain ⟨j,hfj⟩:=List.getElem?_of_mem hfm
    have:=q j (P.cellsOf f.type,TyC P n f.type) (by rw[List.getElem?_map,hfj];rfl)
    rw[←List.map_take,List.map_map]at this
    have e1:((fs.toList.take j).map ((·.1) ∘ fun f:Field=>(P.cellsOf f.type,TyC P n f.type))).sum=f.offset:=(k3 j f hfj).symm
    rwa [e1]at this
   | array m e=>
    simp only[TyC,hu]
    obtain ⟨k1,k2⟩:=K.array hT hu
    unfold DataW.trod at h;rw[hu]at h
    simp only at h
    split at h
    ·rename_i hcl
     simp only[Option.map_eq_some_iff]at h
     obtain ⟨ys,hy,_⟩:=h
     have hyl:ys.length=m:=by simpa using Go.mapM_some_length hy
     obtain ⟨xs,r,q⟩:=Rep.array (w:=w) (cs:=cs) (m:=m) (k:=P.cellsOf e) (p:=TyC P n e) (by rw[hcl,k2]) fun i hi=>by
      have:=Go.mapM_some_get hy i i (by simp[hi])
      rw[List.getElem?_eq_getElem (by omega)]at this
      exact trod_rep K hz n e _ _ k1 this
     exact ⟨xs,r,by rw[r.1,hcl],q⟩
    ·cases h
   | _=>
    unfold DataW.trod at h;rw[hu]at h
    simp only[TyC,hu]
    split at h <;> first | exact one _ rfl rfl | (simp_all;done)
theorem trod_arg (K:Kids P (· < P.types.size)) (hz:∀ t e,t<P.types.size→P.underlying t=some (.slice e)→0<P.cellsOf e) {r:Reach} {b0:Nat} {t:TypeId} {v:Value} {d:DataW H} {p:List MemPlace} (hT:t<P.types.size)
  (hv:Value.okWide P w r b0 t v) (h:DataW.Trod enc P w 0 spare held t v d p):∃ x,RP (memOf w) x v∧TyV P t x:=by
 obtain ⟨n,h⟩:=h
 obtain ⟨xs,hr,ht⟩:=trod_rep K hz n t _ _ hT h
 have agg:∀ cs:Array Value,v=.agg cs→∃ x,RP (memOf w) x v∧∃ n xs,x=.agg xs∧TyC P n t xs:=fun cs e=>by
  subst e
  refine ⟨.agg xs,.agg _ _ (by simpa [Value.cells] using hr.1.symm) (fun i hi=>?_),n,xs,rfl,ht⟩
  have:=(hr.2 i (by rw[←hr.1];exact hi)).1
  have e:cs.getD i undef=cs[i]?.getD undef:=by simp
  rw[e]
  simpa [Value.cells,List.getD] using this
 have one:(∀ cs,v≠.agg cs)→∃ x,RP (memOf w) x v∧∃ n,TyC P n t [x]:=fun hne=>by
  have hc:v.cells.toList=[v]:=by cases v <;> first | rfl | exact absurd rfl (hne _)
  rw[hc]at hr
  obtain ⟨hl,hR⟩:=hr
  match xs,hl with
  | [x],_=>exact ⟨x,(hR 0 (by simp)).1,n,ht⟩
 unfold TyV
 unfold Value.okWide at hv
 split at hv
 ·rename_i fs hu
  simp only[hu]
  obtain ⟨cs,e,_⟩:=hv
  exact agg cs e
 ·rename_i m e hu
  simp only[hu]
  obtain ⟨cs,e,_⟩:=hv
  exact agg cs e
 ·rename_i h1 h2
  have:=one fun cs e=>by
   subst e
   unfold Cell.okWide at hv
   split at hv <;> simp_all [Cell.ok]
  split
  ·rename_i fs hu;exact absurd hu (h1 fs)
  ·rename_i m e hu;exact absurd hu (h2 m e)
  ·exact this
def TyVs (P:Program):List TypeId→List PD→Prop
 | [],[]=>True
 | t :: ts,x :: xs=>TyV P t x∧TyVs P ts xs
 | _,_=>False
theorem trod_args (K:Kids P (· < P.types.size)) (hz:∀ t e,t<P.types.size→P.underlying t=some (.slice e)→0<P.cellsOf e) {r:Reach} {b0:Nat}:∀ (ts:List TypeId) (vs:List Value) (ds:List (DataW H)) (ps:List MemPlace),(∀ t∈ts,t<P.types.size) →
  (∀ (j:Nat) t v,ts[j]? = some t→vs[j]? = some v→Value.okWide P w r b0 t v)→DataW.TrodAll enc P w 0 spare held ts vs ds ps→∃ xs,TyVs P ts xs∧xs.length=vs.length∧ds.length=ts.length∧∀ i,i<vs.length→RP (memOf w) (xs.getD i default) (vs.getD i undef)
 | [],[],[],_,_,_,_=>⟨[],trivial,rfl,rfl,fun i hi=>absurd hi (Nat.not_lt_zero _)⟩
 | t :: ts,v :: vs,d :: ds,ps,hT,hv,⟨p,q,h1,h2,_⟩=>by
  obtain ⟨x,hx,tx⟩:=trod_arg K hz (hT t (by simp)) (hv 0 t v rfl rfl) h1
  obtain ⟨xs,txs,hl,hl',hxs⟩:=trod_args K hz ts vs ds q (fun t ht=>hT t (by simp[ht])) (fun j t v h1 h2=>hv (j+1) t v (by simpa using h1) (by simpa using h2)) h2
  refine ⟨x :: xs,⟨tx,txs⟩,by simp[hl],by simp[hl'],fun i hi=>?_⟩
  cases i with
  | zero=>exact hx
  | succ i=>exact hxs i (by simpa using hi)
 | [],_ :: _,_,_,_,_,h=>h.elim
 | [],[],_ :: _,_,_,_,h=>h.elim
 | _ :: _,[],_,_,_,_,h=>h.elim
 | _ :: _,_ :: _,[],_,_,_,h=>h.elim
theorem kept_sameAt {w w':World} (h:w.keptBut w' fun _=>False) {p:MemPlace} (hb:p.block<w.heap.size):w.sameAt w' p:=by
 cases p with
 | cell b o=>exact h.cell hb (fun h=>h)
 | map b=>
  have hk:=h.2.2 b hb
  show w'.heap[b]? = w.heap[b]?
  split at hk
  ·rename_i c t fr c' t' fr' e1 e2
   obtain ⟨rfl,rfl,_,h3⟩:=hk
   have:c'=c:=Array.ext_getElem? fun j=>h3 j (fun h=>h)
   rw[e1,e2,this]
  ·rename_i e1 e2
   rcases hk with hm' | ⟨h1,h2⟩
   ·exact hm'.elim
   ·rw[e1,e2,h1,h2]
  ·exact hk
theorem TrodAll.carry {w':World}:∀ {ts:List TypeId} {vs:List Value} {ds:List (DataW H)} {ps:List MemPlace},DataW.TrodAll enc P w 0 spare held ts vs ds ps→(∀ p∈ps,w.sameAt w' p)→DataW.TrodAll enc P w' 0 spare held ts vs ds ps
 | [],[],[],_,h,_=>h
 | _ :: _,_ :: _,_ :: _,_,⟨p,q,⟨n,h1⟩,h2,e⟩,hs=>⟨p,q,⟨n,DataW.trod_carry n _ _ _ h1 fun x hx=>hs x (by rw[e];exact List.mem_append_left _ hx)⟩,TrodAll.carry h2 fun x hx=>hs x (by rw[e];exact List.mem_append_right _ hx),e⟩
 | [],_ :: _,_,_,h,_=>h.elim
 | [],[],_ :: _,_,h,_=>h.elim
 | _ :: _,[],_,_,h,_=>h.elim
 | _ :: _,_ :: _,[],_,h,_=>h.elim
theorem PurFn.law (K:Kids P (· < P.types.size)) (hz:∀ t e,t<P.types.size→P.underlying t=some (.slice e)→0<P.cellsOf e) {f:FuncId} {fn:Func} {s:ChangeSpec} {apart fresh handsOn:Bool} {base:Nat} {W:World} {args:Array Value} {ds gs:List (DataW H)} {before:List MemPlace} {t:TypeId}
  (h:∀ xs,TyVs P fn.params.toList xs→PurFn P f (xs.map .p) (.v (.bool true)))
  (hT:∀ t∈fn.params.toList,t<P.types.size) (hres:fn.resultTypes.toList=[t]) (ht:P.underlying t=some .bool) (hsv:s.vars=[])
  (hfn:∀ ds:List (DataW H),ds.length=fn.params.toList.length→s.fn H ds={ results:=[.lit (.bool true)],args:=ds })
  (hval:∀ (j:Nat) t v,fn.params[j]? = some t→args[j]? = some v→Value.okWide P W .any base t v)
  (hW:DataW.Whole enc P fn.params.toList s.vars apart W args.toList ds gs before) (hgl:GLB (memOf W)) :
  Calls P f args W fun e W'=>∃ v,e=.returned v∧s.post enc P fn apart fresh handsOn false W args v W':=by
 have hW':=hW
 obtain ⟨p,q,hA,hV,rfl,hfz,hnd⟩:=hW
 rw[hsv]at hV
 obtain ⟨rfl,rfl⟩:=trodVars_none hV
 obtain ⟨xs,htx,hl,hdl,hR⟩:=trod_args K hz _ _ _ _ hT (fun j t v h1 h2=>hval j t v (by simpa using h1) (by simpa using h2)) hA
 refine ((h xs htx).2 (memOf W) W args (memOf_ok W) hgl (by simpa using hl.symm) (fun i hi=>?_)).mono ?_
 ·have:=hR i (by simp only[List.length_map]at hi;omega)
  simp only[List.length_map]at hi
  simp only[List.getD,List.getElem?_map,List.getElem?_eq_getElem hi,Option.map_some,Option.getD_some]
  refine .p _ _ ?_
  show RP (memOf W) _ _
  have e:args.getD i undef=args[i]?.getD undef:=by simp
  rw[e]
  simpa [List.getD,List.getElem?_eq_getElem hi] using this
 rintro e w' ⟨v,G',rfl,_,_,_,hb,hr⟩
 rw[hr.v_inv]
 have hg:W.keptBut w' (fun _=>False):=hb.toBelow.frame _
 have hlt:=hW'.lt
 have hres':fn.resultTypes.size=1:=by rw[←Array.length_toList,hres];rfl
 have hd:=hfn (ds ++ []) (by simpa using hdl)
 have hsp:∀ x∈p ++ [],(fun b=>decide (b<W.heap.size)) x.block=true:=fun x hx=>by simpa using hlt x hx
 refine ⟨_,rfl,ds,[],p ++ [],[],p,[],hW',?_,?_,?_,World.keptBut_mono (fun _ f=>f.elim) hg,fun h=>by cases h⟩
 ·rw[hd,hres,hres']
  exact trodAll_cons_mk (shut_bool ht _) trodAll_mk0
 ·rw[hd,List.append_nil]
  exact TrodAll.carry (DataW.TrodAll.respare K hz hT hA fun x hx=>hsp x (by simpa using hx)) fun x hx=>kept_sameAt hg (hlt x (by simpa using hx))
 ·rw[hd,hsv];rfl
end
end Go.Ab
namespace Go.Ab
open Go.RowKit
def tyFs (P:Program) (ty:TypeId→Option Ty):List Field→Nat→Option Ty
 | [],_=>none
 | [f],off=>match ty f.type with
  | some T=>if f.offset=off∧T.size=P.cellsOf f.type then some T else none
  | none=>none
 | f :: g :: r,off=>match ty f.type,tyFs P ty (g :: r) (off+P.cellsOf f.type) with
  | some T,some U=>if f.offset=off∧T.size=P.cellsOf f.type then some (.pair T U) else none
  | _,_=>none
def tyRep (T:Ty):Nat→Option Ty
 | 0=>none
 | 1=>some T
 | n+2=>match tyRep T (n+1) with | some U=>some (.pair T U) | none=>none
def tyP (P:Program):Nat→TypeId→Option Ty
 | 0,_=>none
 | n+1,t=>match P.underlying t with
  | some .bool=>some .bool
  | some (.int k)=>some (.int k)
  | some (.slice e)=>match tyP P n e with
   | some T=>if T.size=P.cellsOf e then some (.sl T) else none
   | none=>none
  | some (.struct fs)=>match tyFs P (tyP P n) fs.toList 0 with
   | some T=>if T.size=P.cellsOf t then some T else none
   | none=>none
  | some (.array m e)=>match tyP P n e with
   | some T=>if T.size=P.cellsOf e∧m*T.size=P.cellsOf t then tyRep T m else none
   | none=>none
  | _=>none
def wfT:(t:Ty)→t.den→Prop
 | .int k,x=>(Lit.int k x).wf=true
 | .bool,_=>True
 | .pair a b,x=>wfT a x.1∧wfT b x.2
 | .sl t,x=>x.2.length≤maxLen∧(x.1=some true→x.2=[])∧∀ y∈x.2,wfT t y
section
variable {P:Program}
theorem rows_of {T:Ty}:∀ (m:Nat) (cells:List PD),cells.length=m*T.size→(∀ i,i<m→∃ a,(cells.drop (i*T.size)).take T.size=T.cells a∧wfT T a)→∃ l:List T.den,l.length=m∧cells=T.rows l∧∀ y∈l,wfT T y
 | 0,cells,hl,_=>by
  have:cells=[]:=List.eq_nil_of_length_eq_zero (by simpa using hl)
  subst this
  exact ⟨[],rfl,rfl,fun y hy=>by simp at hy⟩
 | m+1,cells,hl,h=>by
  obtain ⟨a,h1,h2⟩:=h 0 (by omega)
  simp only[Nat.zero_mul,List.drop_zero]at h1
  obtain ⟨l,k1,k2,k3⟩:=rows_of (T:=T) m (cells.drop T.size) (by rw[List.length_drop,hl,Nat.succ_mul];omega) fun i hi=>by
   obtain ⟨b,q1,q2⟩:=h (i+1) (by omega)
   refine ⟨b,?_,q2⟩
   rw[List.drop_drop,Nat.add_comm,←Nat.succ_mul];exact q1
  refine ⟨a :: l,by simp[k1],?_,fun y hy=>?_⟩
  ·rw[←List.take_append_drop T.size cells,h1,k2];simp[Ty.rows]
  ·rcases List.mem_cons.1 hy with rfl | hy
   ·exact h2
   ·exact k3 y hy
theorem rep_of {T:Ty}:∀ {m:Nat} {U:Ty},tyRep T m=some U→∀ (cells:List PD),cells.length=m*T.size→(∀ i,i<m→∃ a,(cells.drop (i*T.size)).take T.size=T.cells a∧wfT T a)→∃ a:U.den,cells=U.cells a∧wfT U a
 | 0,U,hU,_,_,_=>by simp[tyRep]at hU
 | 1,U,hU,cells,hl,h=>by
  simp only[tyRep,Option.some.injEq]at hU
  subst hU
  obtain ⟨a,h1,h2⟩:=h 0 (by omega)
  rw[Nat.zero_mul,List.drop_zero,List.take_of_length_le (by omega)]at h1
  exact ⟨a,h1,h2⟩
 | n+2,U,hU,cells,hl,h=>by
  simp only[tyRep]at hU
  split at hU
  ·rename_i V hV
   obtain rfl:=Option.some.inj hU
   obtain ⟨a,h1,h2⟩:=h 0 (by omega)
   rw[Nat.zero_mul,List.drop_zero]at h1
   obtain ⟨b,k1,k2⟩:=rep_of (T:=T) hV (cells.drop T.size) (by rw[List.length_drop,hl,show n+2=(n+1)+1 by omega,Nat.succ_mul];omega) fun i hi=>by
    obtain ⟨b,q1,q2⟩:=h (i+1) (by omega)
    refine ⟨b,?_,q2⟩
    rw[List.drop_drop,Nat.add_comm,←Nat.succ_mul];exact q1
   refine ⟨(a,b),?_,h2,k2⟩
   rw[←List.take_append_drop T.size cells,h1,k1];rfl
  ·cases hU
theorem fs_of {ty:TypeId→Option Ty} {xs:List PD} {C:TypeId→List PD→Prop} (hty:∀ t T ys,ty t=some T→C t ys→∃ a:T.den,ys=T.cells a∧wfT T a):∀ {fs:List Field} {off:Nat} {U:Ty},tyFs P ty fs off=some U→off+U.size=xs.length →
  (∀ f∈fs,C f.type ((xs.drop f.offset).take (P.cellsOf f.type)))→∃ a:U.den,xs.drop off=U.cells a∧wfT U a
 | [],off,U,h,_,_=>by simp[tyFs]at h
 | [f],off,U,h,hl,hC=>by
  simp only[tyFs]at h
  split at h
  ·rename_i T hT
   split at h
   ·rename_i hc
    obtain rfl:=Option.some.inj h
    obtain ⟨a,h1,h2⟩:=hty _ _ _ hT (hC f (by simp))
    rw[hc.1,←hc.2,List.take_of_length_le (by simp;omega)]at h1
    exact ⟨a,h1,h2⟩
   ·cases h
  ·cases h
 | f :: g :: r,off,U,h,hl,hC=>by
  simp only[tyFs]at h
  split at h
  ·rename_i T V hT hV
   split at h
   ·rename_i hc
    obtain rfl:=Option.some.inj h
    obtain ⟨a,h1,h2⟩:=hty _ _ _ hT (hC f (by simp))
    obtain ⟨b,k1,k2⟩:=fs_of hty hV (by simp only[Ty.size]at hl;rw[←hc.2];omega) (fun f hf=>hC f (by simp at hf ⊢;exact .inr hf))
    rw[hc.1,←hc.2]at h1
    rw[←hc.2,←List.drop_drop]at k1
    refine ⟨(a,b),?_,h2,k2⟩
    rw[←List.take_append_drop T.size (xs.drop off),h1,k1];rfl
   ·cases h
  ·cases h
theorem TyC.den:∀ {n m:Nat} {t:TypeId} {xs:List PD} {T:Ty},TyC P n t xs→tyP P m t=some T→∃ a:T.den,xs=T.cells a∧wfT T a
 | 0,_,_,_,_,h,_=>h.elim
 | n+1,0,_,_,_,_,hT=>by simp[tyP]at hT
 | n+1,m+1,t,xs,T,h,hT=>by
  have ih:∀ {t:TypeId} {xs:List PD} {T:Ty},TyC P n t xs→tyP P m t=some T→∃ a:T.den,xs=T.cells a∧wfT T a:=fun h hT=>TyC.den h hT
  unfold TyC at h
  simp only[tyP]at hT
  split at hT <;> rename_i hu <;> simp only[hu]at h
  ·obtain rfl:=Option.some.inj hT
   obtain ⟨b,rfl⟩:=h
   exact ⟨b,rfl,trivial⟩
  ·obtain rfl:=Option.some.inj hT
   obtain ⟨i,rfl,hw⟩:=h
   exact ⟨i,rfl,hw⟩
  ·split at hT
   ·rename_i U hU
    split at hT
    ·rename_i hs
     obtain rfl:=Option.some.inj hT
     obtain ⟨nl,k,cells,rfl,h1,h2,h3,h4⟩:=h
     rw[←hs]at h3 h4
     obtain ⟨l,q1,q2,q3⟩:=rows_of k cells h3 fun i hi=>ih (h4 i hi) hU
     refine ⟨(some nl,l),?_,by show l.length≤maxLen;omega,fun e=>?_,q3⟩
     ·simp only[Ty.cells,q1,q2]
     ·have:=h1 (by simpa using e)
      exact List.eq_nil_of_length_eq_zero (by show l.length=0;omega)
    ·cases hT
   ·cases hT
  ·split at hT
   ·rename_i U hU
    split at hT
    ·rename_i hs
     obtain rfl:=Option.some.inj hT
     obtain ⟨a,k1,k2⟩:=fs_of (C:=fun t ys=>TyC P n t ys) (fun t T ys hT h=>ih h hT) hU (by rw[h.1,hs];omega) h.2
     exact ⟨a,by simpa using k1,k2⟩
    ·cases hT
   ·cases hT
  ·split at hT
   ·rename_i U hU
    split at hT
    ·rename_i hs
     rw[←hs.1]at h
     exact rep_of hT xs (by rw[h.1,hs.2]) fun i hi=>ih (h.2 i hi) hU
    ·cases hT
   ·cases hT
  ·cases hT
theorem TyV.den {t:TypeId} {x:PD} {m:Nat} {T:Ty} (h:TyV P t x) (hT:tyP P m t=some T) (hp:T.isPair=(match P.underlying t with | some (.struct _) | some (.array _ _)=>true | _=>false)):∃ a:T.den,D.p x=(injT T a).conc∧wfT T a:=by
 unfold TyV at h
 have agg:(∃ n xs,x=.agg xs∧TyC P n t xs)→T.isPair=true→∃ a:T.den,D.p x=(injT T a).conc∧wfT T a:=fun ⟨n,xs,hx,hc⟩ hp=>by
  subst hx
  obtain ⟨a,k1,k2⟩:=TyC.den hc hT
  subst k1
  refine ⟨a,?_,k2⟩
  cases T <;> simp only[Ty.isPair,Bool.false_eq_true]at hp
  simp only[injT,DC.conc,elemS_conc,mkAgg_map]
 have one:(∃ n,TyC P n t [x])→T.isPair=false→∃ a:T.den,D.p x=(injT T a).conc∧wfT T a:=fun ⟨n,hc⟩ hp=>by
  obtain ⟨a,k1,k2⟩:=TyC.den hc hT
  refine ⟨a,?_,k2⟩
  cases T <;> simp only[Ty.isPair,reduceCtorEq]at hp <;> (simp only[Ty.cells,List.cons.injEq,and_true]at k1;subst k1;simp only[injT,DC.conc])
 split at h <;> rename_i hu <;> simp only[hu]at hp
 ·exact agg h hp
 ·exact agg h hp
 ·rename_i h1 h2
  refine one h ?_
  rw[hp]
def denOK (P:Program):List TypeId→List Ty→Bool
 | [],[]=>true
 | t :: ts,T :: Ts=>(match tyP P 40 t with | some U=>decide (U=T) | none=>false) && (T.isPair == (match P.underlying t with | some (.struct _) | some (.array _ _)=>true | _=>false)) && denOK P ts Ts
 | _,_=>false
theorem PurS.true {f:FuncId} {xs:List DC} (h:PurS P f xs (.sb true)):PurFn P f (concL xs) (.v (.bool true)):=by
 obtain ⟨y,h1,h2⟩:=h
 simp only[DC.conc,D.p.injEq]at h1
 subst h1;exact h2
theorem law3 {f:FuncId} {t1 t2 t3:TypeId} {T1 T2 T3:Ty} (hd:denOK P [t1,t2,t3] [T1,T2,T3]=true) (h:∀ a b c,wfT T1 a→wfT T2 b→wfT T3 c→PurS P f [injT T1 a,injT T2 b,injT T3 c] (.sb true)):∀ xs,TyVs P [t1,t2,t3] xs→PurFn P f (xs.map .p) (.v (.bool true)):=by
 intro xs hx
 match xs,hx with
 | [x,y,z],⟨h1,h2,h3,_⟩=>
  simp only[denOK,Bool.and_eq_true,beq_iff_eq]at hd
  obtain ⟨⟨d1,e1⟩,⟨d2,e2⟩,⟨d3,e3⟩,_⟩:=hd
  split at d1 <;> first | cases d1 | skip
  rename_i U1 hU1
  obtain rfl:=of_decide_eq_true d1
  split at d2 <;> first | cases d2 | skip
  rename_i U2 hU2
  obtain rfl:=of_decide_eq_true d2
  split at d3 <;> first | cases d3 | skip
  rename_i U3 hU3
  obtain rfl:=of_decide_eq_true d3
  obtain ⟨a,k1,w1⟩:=h1.den hU1 e1
  obtain ⟨b,k2,w2⟩:=h2.den hU2 e2
  obtain ⟨c,k3,w3⟩:=h3.den hU3 e3
  have:=(h a b c w1 w2 w3).true
  simpa [concL,k1,k2,k3] using this
end
end Go.Ab
set_option linter.unusedSectionVars false
namespace Go.Ab
open Go.RowKit
section
variable (rn gn:List Nat)
mutual
def renS:DC→DC
 | .p x=>.p x
 | .sb b=>.sb b
 | .arr _ _ _=>.bad
 | .tl nl t l=>.tl nl t l
 | .og g t l=>(match nthD gn g with | some g'=>.og g' t l | none=>.bad)
 | .gr g t l=>(match nthD gn g with | some g'=>.gr g' t l | none=>.bad)
 | .tel t l k q=>.tel t l k q
 | .ptr b off=>(match nthD rn b with | some b'=>.ptr b' off | none=>.bad)
 | .ept b off sz k q=>(match nthD rn b with | some b'=>.ept b' off sz k q | none=>.bad)
 | .ms b off sz lo n=>(match nthD rn b with | some b'=>.ms b' off sz lo n | none=>.bad)
 | .agg cs=>.agg (renCs cs)
 | .tup ds=>.tup (renL ds)
 | .fn f a b=>.fn f (renL a) (renL b)
 | .ifc t x=>.ifc t (renS x)
 | .mref b=>(match nthD rn b with | some b'=>.mref b' | none=>.bad)
 | .rel d=>.rel (renS d)
 | .bad=>.bad
def renL:List DC→List DC
 | []=>[]
 | d :: r=>renS d :: renL r
def renCs:List DC→List DC
 | []=>[]
 | .arr n t l :: r=>.arr n t l :: renCs r
 | d :: r=>renS d :: renCs r
end
end
theorem lePD_refl (x:PD):lePD x x:=by unfold lePD;split <;> first | exact ⟨rfl,rfl⟩ | rfl | exact nlLe_self.2 trivial
theorem lstEq_refl (t:Ty) (l:List t.den):lstEq t t l l:=by simp[lstEq,castL]
theorem loEq_refl (a:Option Nat):loEq a a:=by cases a <;> simp[loEq]
theorem renS_arr (rn gn:List Nat) (d:DC):isArr (renS rn gn d)=false:=by
 cases d <;> simp only[renS] <;> (try split) <;> rfl
section
variable {rn gn:List Nat} {fl hl:List (Option Nat)} (hf:∀ i j,nthD rn i=some j→isN (fN fl j) i=true) (hg:∀ i j,nthD gn i=some j→isN (fN hl j) i=true)
include hf hg
mutual
theorem renS_le:∀ d:DC,leS fl hl d (renS rn gn d)
 | .p x=>by simp only[renS,leS];exact lePD_refl x
 | .sb b=>by simp only[renS,leS]
 | .arr _ _ _=>by simp only[renS,leS]
 | .tl nl t l=>by simp only[renS,leS];exact ⟨nlLe_self.2 trivial,lstEq_refl t l⟩
 | .og g t l=>by
  simp only[renS];split
  ·rename_i g' h;simp only[leS];exact ⟨hg _ _ h,lstEq_refl t l⟩
  ·simp only[leS]
 | .gr g t l=>by
  simp only[renS];split
  ·rename_i g' h;simp only[leS];exact ⟨hg _ _ h,lstEq_refl t l⟩
  ·simp only[leS]
 | .tel t l k q=>by simp only[renS,leS];exact ⟨lstEq_refl t l,trivial,trivial⟩
 | .ptr b off=>by
  simp only[renS];split
  ·rename_i g' h;simp only[leS];exact ⟨hf _ _ h,trivial⟩
  ·simp only[leS]
 | .ept b off sz k q=>by
  simp only[renS];split
  ·rename_i g' h;simp only[leS];exact ⟨hf _ _ h,trivial,trivial,trivial,trivial⟩
  ·simp only[leS]
 | .ms b off sz lo n=>by
  simp only[renS];split
  ·rename_i g' h;simp only[leS];exact ⟨hf _ _ h,trivial,trivial,loEq_refl lo,trivial⟩
  ·simp only[leS]
 | .agg cs=>by simp only[renS,leS];exact renCs_le cs
 | .tup ds=>by simp only[renS,leS];exact renL_le ds
 | .fn f a b=>by simp only[renS,leS];exact ⟨trivial,renL_le a,renL_le b⟩
 | .ifc t x=>by simp only[renS,leS];exact ⟨trivial,renS_le x⟩
 | .mref b=>by
  simp only[renS];split
  ·rename_i g' h;simp only[leS];exact hf _ _ h
  ·simp only[leS]
 | .rel d=>by simp only[renS,leS];exact renS_le d
 | .bad=>by simp only[renS,leS]
theorem renL_le:∀ ds:List DC,leSs fl hl ds (renL rn gn ds)
 | []=>by simp only[renL,leSs]
 | d :: r=>by simp only[renL,leSs];exact ⟨renS_le d,renL_le r⟩
theorem renCs_le:∀ ds:List DC,leCs fl hl ds (renCs rn gn ds)
 | []=>by simp only[renCs,leCs]
 | d :: r=>by
   have h1:=renS_le d
   have h2:=renCs_le r
   have h3:=renS_arr rn gn d
   cases d <;> first
     | (simp only[renCs,leCs];exact ⟨trivial,lstEq_refl _ _,h2⟩)
     | (simp only[renCs]
        revert h1 h3
        generalize renS rn gn _=y
        intro h1 h3
        cases y <;> first | (simp only[leCs];exact ⟨rfl,rfl,h1,h2⟩) | cases h3)
end
end
def rnOf {α:Type}:List Nat→List α→Nat→List Nat
 | [],[],_=>[]
 | [],_ :: bs,n=>n :: rnOf [] bs (n+1)
 | j :: fl,_ :: bs,n=>j :: rnOf fl bs n
 | _ :: _,[],_=>[]
def putN {α:Type}:List α→Nat→α→List α
 | [],_,_=>[]
 | _ :: r,0,y=>y :: r
 | x :: r,n+1,y=>x :: putN r n y
theorem putN_eq {α:Type}:∀ (l:List α) (n:Nat) (y:α),putN l n y=l.set n y
 | [],_,_=>by simp[putN]
 | _ :: _,0,_=>by simp[putN]
 | x :: r,n+1,y=>by simp[putN,putN_eq r n y]
def mergeL {α:Type}:List Nat→List α→List α→List α
 | [],bs,st=>st ++ bs
 | j :: fl,b :: bs,st=>mergeL fl bs (putN st j b)
 | _ :: _,[],st=>st
def posN:List Nat→Nat→Option Nat
 | [],_=>none
 | x :: r,j=>if x=j then some 0 else (posN r j).map (· + 1)
theorem posN_some:∀ {l:List Nat} {j i:Nat},posN l j=some i→l[i]? = some j
 | [],_,_,h=>by cases h
 | x :: r,j,i,h=>by
  simp only[posN]at h
  split at h
  ·rename_i e;cases h;simp[e]
  ·obtain ⟨k,h1,rfl⟩:=Option.map_eq_some_iff.1 h
   simpa using posN_some h1
theorem posN_none:∀ {l:List Nat} {j:Nat},posN l j=none→j∉l
 | [],_,_=>by simp
 | x :: r,j,h=>by
  simp only[posN]at h
  split at h
  ·cases h
  ·rename_i e
   simp only[Option.map_eq_none_iff]at h
   simp only[List.mem_cons,not_or]
   exact ⟨fun h=>e h.symm,posN_none h⟩
theorem posN_of {l:List Nat} (hn:l.Nodup) {j i:Nat} (h:l[i]? = some j):posN l j=some i:=by
 cases hp:posN l j with
 | none=>exact absurd (List.mem_of_getElem? h) (posN_none hp)
 | some k=>
  have h':=posN_some hp
  obtain ⟨k1,k2⟩:=List.getElem?_eq_some_iff.1 h
  obtain ⟨k3,k4⟩:=List.getElem?_eq_some_iff.1 h'
  have:=(List.getElem_inj (h₀:=k1) (h₁:=k3) hn).1 (k2.trans k4.symm)
  rw[this]
theorem rnOf_new {α:Type}:∀ (bs:List α) (n:Nat),rnOf [] bs n=(List.range' n bs.length)
 | [],n=>by simp[rnOf]
 | b :: bs,n=>by simp[rnOf,rnOf_new bs (n+1),List.range'_succ]
theorem rnOf_eq {α:Type}:∀ (fl:List Nat) (bs:List α) (n:Nat),fl.length≤bs.length→rnOf fl bs n=fl ++ List.range' n (bs.length - fl.length)
 | [],bs,n,_=>by simp[rnOf_new]
 | j :: fl,[],n,h=>by simp at h
 | j :: fl,b :: bs,n,h=>by
  simp only[List.length_cons,Nat.add_le_add_iff_right]at h
  simp[rnOf,rnOf_eq fl bs n h]
theorem mergeL_len {α:Type}:∀ (fl:List Nat) (bs st:List α),fl.length≤bs.length→(mergeL fl bs st).length=st.length+(bs.length - fl.length)
 | [],bs,st,_=>by simp[mergeL]
 | j :: fl,[],st,h=>by simp at h
 | j :: fl,b :: bs,st,h=>by
  simp only[List.length_cons,Nat.add_le_add_iff_right]at h
  simp only[mergeL,mergeL_len fl bs _ h,putN_eq,List.length_set,List.length_cons]
  omega
theorem mergeL_old {α:Type}:∀ (fl:List Nat) (bs st:List α) (j:Nat),fl.length≤bs.length→j<st.length→j∉fl→(mergeL fl bs st)[j]? = st[j]?
 | [],bs,st,j,_,hj,_=>by simp[mergeL,List.getElem?_append_left hj]
 | x :: fl,[],st,j,h,_,_=>by simp at h
 | x :: fl,b :: bs,st,j,h,hj,hn=>by
  simp only[List.length_cons,Nat.add_le_add_iff_right]at h
  simp only[List.mem_cons,not_or]at hn
  rw[mergeL,mergeL_old fl bs _ j h (by rw[putN_eq];simpa using hj) hn.2,putN_eq,List.getElem?_set_ne (fun e=>hn.1 e.symm)]
theorem mergeL_new {α:Type}:∀ (fl:List Nat) (bs st:List α) (i j:Nat),fl.Nodup→(∀ x∈fl,x<st.length)→fl.length≤bs.length→(rnOf fl bs st.length)[i]? = some j→(mergeL fl bs st)[j]? = bs[i]?
 | [],bs,st,i,j,_,_,_,h=>by
  rw[rnOf_new]at h
  obtain ⟨h1,h2⟩:=List.getElem?_eq_some_iff.1 h
  simp only[List.getElem_range']at h2
  simp only[mergeL]
  rw[List.getElem?_append_right (by omega)]
  congr 1;omega
 | x :: fl,[],st,i,j,_,_,h,_=>by simp at h
 | x :: fl,b :: bs,st,i,j,hn,hlt,h,hi=>by
  simp only[List.length_cons,Nat.add_le_add_iff_right]at h
  simp only[List.nodup_cons]at hn
  have hx:=hlt x (List.mem_cons_self ..)
  simp only[rnOf]at hi
  cases i with
  | zero=>
   simp only[List.getElem?_cons_zero,Option.some.injEq]at hi ⊢
   subst hi
   rw[mergeL,mergeL_old fl bs _ x h (by rw[putN_eq];simpa using hx) hn.1,putN_eq]
   simp[hx]
  | succ i=>
   simp only[List.getElem?_cons_succ]at hi ⊢
   rw[mergeL]
   exact mergeL_new fl bs _ i j hn.2 (fun y hy=>by rw[putN_eq];simpa using hlt y (List.mem_cons_of_mem _ hy)) h (by rw[putN_eq];simpa using hi)
theorem rnOf_nodup {α:Type} {fl:List Nat} {bs:List α} {n:Nat} (hn:fl.Nodup) (hlt:∀ x∈fl,x<n) (h:fl.length≤bs.length):(rnOf fl bs n).Nodup:=by
 rw[rnOf_eq fl bs n h,List.nodup_append]
 refine ⟨hn,List.nodup_range',fun a ha b hb e=>?_⟩
 subst e
 have:=hlt a ha
 simp[List.mem_range']at hb
 omega
theorem fN_map (fl:List Nat) (j:Nat):fN (fl.map some) j=fl[j]?:=by
 simp only[fN,nthD_eq,List.getElem?_map]
 cases fl[j]? <;> rfl
theorem fN_range (g:Nat→Option Nat) (N j:Nat):fN ((List.range N).map g) j=if j<N then g j else none:=by
 simp only[fN,nthD_eq,List.getElem?_map]
 by_cases h:j<N
 ·simp[h];cases g j <;> rfl
 ·simp[h]
theorem dupFree_nodup:∀ {fl:List Nat},dupFree (fl.map some)=true→fl.Nodup
 | [],_=>List.nodup_nil
 | x :: fl,h=>by
  simp only[List.map_cons,dupFree,Bool.and_eq_true,Bool.not_eq_true']at h
  refine List.nodup_cons.2 ⟨fun hm=>?_,dupFree_nodup h.2⟩
  obtain ⟨j,hj⟩:=List.getElem?_of_mem hm
  have:=memO_of (fl:=fl.map some) (j:=j) (i:=x) (by rw[fN_map];exact hj)
  rw[this]at h;exact absurd h.1 (by simp)
def renB (rn gn:List Nat) (B:BoxS):BoxS:={ B with cells:=renCs rn gn B.cells }
def invN (rn:List Nat) (N:Nat):List (Option Nat):=(List.range N).map (posN rn)
section
variable {α:Type} {fl:List Nat} {bs st:List α} (hn:fl.Nodup) (hlt:∀ x∈fl,x<st.length) (hk:fl.length≤bs.length)
include hn hlt hk
theorem inv_iff {i j:Nat}:fN (invN (rnOf fl bs st.length) (mergeL fl bs st).length) j=some i↔(rnOf fl bs st.length)[i]? = some j:=by
 rw[invN,fN_range]
 constructor
 ·intro h
  split at h
  ·exact posN_some h
  ·cases h
 ·intro h
  rw[if_pos,posN_of (rnOf_nodup hn hlt hk) h]
  rw[mergeL_len _ _ _ hk]
  have hm:=List.mem_of_getElem? h
  rw[rnOf_eq _ _ _ hk,List.mem_append]at hm
  rcases hm with hm | hm
  ·have:=hlt j hm;omega
  ·simp[List.mem_range']at hm;omega
theorem inv_fwd {i j:Nat} (h:fl[i]? = some j):fN (invN (rnOf fl bs st.length) (mergeL fl bs st).length) j=some i:=by
 rw[inv_iff hn hlt hk,rnOf_eq _ _ _ hk,List.getElem?_append_left (List.getElem?_eq_some_iff.1 h).1];exact h
theorem inv_bwd {i j:Nat} (hj:j<st.length) (h:fN (invN (rnOf fl bs st.length) (mergeL fl bs st).length) j=some i):fl[i]? = some j:=by
 rw[inv_iff hn hlt hk,rnOf_eq _ _ _ hk]at h
 by_cases hi:i<fl.length
 ·rwa [List.getElem?_append_left hi]at h
 ·rw[List.getElem?_append_right (by omega)]at h
  have:=List.mem_of_getElem? h
  simp[List.mem_range']at this;omega
theorem inv_none {j:Nat} (hj:j<st.length) (h:fN (invN (rnOf fl bs st.length) (mergeL fl bs st).length) j=none):(mergeL fl bs st)[j]? = st[j]?:=by
 refine mergeL_old fl bs st j hk hj fun hm=>?_
 obtain ⟨i,hi⟩:=List.getElem?_of_mem hm
 rw[inv_fwd hn hlt hk hi]at h;cases h
end
section
variable {P:Program}
theorem FnS.frame {f:FuncId} {ds dsL:List DC} {st stL st':StS} {d:DC} {K:DC→StS→Prop} (fl hl:List Nat) (hA:leSs (fl.map some) (hl.map some) ds dsL) (hS:SIM 0 0 (fl.map some) (hl.map some) [] st [] stL)
  (hk:(Nat.ble stL.box.length st'.box.length && Nat.ble stL.grp.length st'.grp.length)=true) (h:FnS P f dsL stL fun x s=>x=d∧s=st')
  (hK:K (renS (rnOf fl st'.box st.box.length) (rnOf hl st'.grp st.grp.length) d) ⟨mergeL fl (st'.box.map (renB (rnOf fl st'.box st.box.length) (rnOf hl st'.grp st.grp.length))) st.box,mergeL hl st'.grp st.grp⟩):FnS P f ds st K:=by
 have hc:=hS.c
 simp only[Bool.and_eq_true,Nat.ble_eq]at hc hk
 obtain ⟨⟨⟨⟨⟨_,_⟩,c3⟩,c4⟩,_⟩,_⟩:=hc
 obtain ⟨b1,b2,_⟩:=leBoxes_some hS.box
 obtain ⟨g1,g2⟩:=leGrps_some hS.grp
 simp only[List.length_map]at b1 g1
 have n1:=dupFree_nodup c3
 have n2:=dupFree_nodup c4
 have l1:∀ x∈fl,x<st.box.length:=fun x hx=>by
  obtain ⟨j,hj⟩:=List.getElem?_of_mem hx
  obtain ⟨B,_,q,_⟩:=b2 j x (by rw[fN_map];exact hj)
  rw[nthD_eq]at q
  exact (List.getElem?_eq_some_iff.1 q).1
 have l2:∀ x∈hl,x<st.grp.length:=fun x hx=>by
  obtain ⟨j,hj⟩:=List.getElem?_of_mem hx
  obtain ⟨q,q1,_⟩:=g2 j x (by rw[fN_map];exact hj)
  exact (List.getElem?_eq_some_iff.1 q1).1
 have k1:fl.length≤st'.box.length:=by omega
 have k2:hl.length≤st'.grp.length:=by omega
 generalize hrn:rnOf fl st'.box st.box.length=rn at hK
 generalize hgn:rnOf hl st'.grp st.grp.length=gn at hK
 have hrn':rnOf fl (st'.box.map (renB rn gn)) st.box.length=rn:=by rw[←hrn,rnOf_eq _ _ _ k1,rnOf_eq _ _ _ (by simpa using k1)];simp
 have k1':fl.length≤(st'.box.map (renB rn gn)).length:=by simpa using k1
 obtain ⟨a1,a2⟩:=leSs_sound _ _ hA
 let fl2:=invN rn (mergeL fl (st'.box.map (renB rn gn)) st.box).length
 let hl2:=invN gn (mergeL hl st'.grp st.grp).length
 have hf:∀ i j,nthD rn i=some j→isN (fN fl2 j) i=true:=fun i j h=>by
  have h2:=(inv_iff n1 l1 k1' (i:=i) (j:=j)).2 (by rw[hrn',←nthD_eq];exact h)
  rw[hrn']at h2
  show isN (fN (invN rn _) j) i=true
  rw[h2];simp[isN]
 have hg:∀ i j,nthD gn i=some j→isN (fN hl2 j) i=true:=fun i j h=>by
  have h2:=(inv_iff n2 l2 k2 (i:=i) (j:=j)).2 (by rw[hgn,←nthD_eq];exact h)
  rw[hgn]at h2
  show isN (fN (invN gn _) j) i=true
  rw[h2];simp[isN]
 refine FnC.frame (f1:=fN (fl.map some)) (h1:=fN (hl.map some)) a1 hS.ok (fun i hi=>a2 i hi) h ?_
 rintro _ _ ⟨x,s,rfl,rfl,rfl,rfl⟩
 refine ⟨fN fl2,fN hl2,_,_,⟨fun i j h=>?_,fun i j hj h=>?_,fun j j' i h h'=>?_,fun j i B h hB=>?_,fun j hj h=>?_,fun i j h=>?_,fun i j hj h=>?_,fun j j' i h h'=>?_,fun j i q h hq=>?_,fun j hj h=>?_⟩,leS_sound _ _ (renS_le hf hg x),.mk hK⟩
 ·rw[fN_map]at h
  have:=inv_fwd n1 l1 k1' h
  rwa [hrn']at this
 ·rw[StS.box_len]at hj
  rw[fN_map]
  exact inv_bwd n1 l1 k1' hj (by rw[hrn'];exact h)
 ·have h1:=(inv_iff n1 l1 k1').1 (by rw[hrn'];exact h)
  have h2:=(inv_iff n1 l1 k1').1 (by rw[hrn'];exact h')
  rw[h1]at h2;exact Option.some.inj h2
 ·have h1:=(inv_iff n1 l1 k1').1 (by rw[hrn'];exact h)
  have h2:=mergeL_new fl _ _ i j n1 l1 k1' h1
  simp only[StS.conc,List.getElem?_map,Option.map_eq_some_iff]at hB
  obtain ⟨B0,hB0,rfl⟩:=hB
  obtain ⟨m1,m2⟩:=leCs_sound _ _ (renCs_le hf hg B0.cells)
  refine ⟨(renB rn gn B0).conc,?_,⟨rfl,rfl⟩,fun _=>⟨fun _=>m1.symm,rfl,rfl,Nat.le_of_eq m1.symm,m2⟩⟩
  simp only[StS.conc,List.getElem?_map,h2,hB0,Option.map_some]
 ·rw[StS.box_len]at hj
  have:=inv_none n1 l1 k1' hj (by rw[hrn'];exact h)
  simp only[StS.conc,List.getElem?_map,this]
 ·rw[fN_map]at h
  have:=inv_fwd n2 l2 k2 h
  rwa [hgn]at this
 ·rw[fN_map]
  exact inv_bwd n2 l2 k2 hj (by rw[hgn];exact h)
 ·have h1:=(inv_iff n2 l2 k2).1 (by rw[hgn];exact h)
  have h2:=(inv_iff n2 l2 k2).1 (by rw[hgn];exact h')
  rw[h1]at h2;exact Option.some.inj h2
 ·have h1:=(inv_iff n2 l2 k2).1 (by rw[hgn];exact h)
  exact (mergeL_new hl _ _ i j n2 l2 k2 h1).trans hq
 ·exact inv_none n2 l2 k2 hj (by rw[hgn];exact h)
end
structure RET (b gb:Nat) (x:DC) (s:StS) (d:DC) (st':StS):Prop where
 h:∃ fl hl,SIM b gb fl hl [(0,x)] s [(0,d)] st'
section
variable {P:Program}
theorem FnC.sim {f:FuncId} {ds:List D} {st:St} {K1 K:D→St→Prop} (h:FnC P f ds st K1) (hK:∀ d st1,K1 d st1→∃ d' st',Sim st.box.length st.grp.length [(0,d)] st1 [(0,d')] st'∧K d' st'):FnC P f ds st K:=by
 intro c
 refine ⟨(h c).1,fun E w vs hw hgl hs hR=>((h (.sub w E)).2 E w vs hw.enter hgl hs hR).mono ?_⟩
 rintro e w' ⟨v,E',d,st1,rfl,h1,h2,h3,_,h5⟩
 obtain ⟨d',st',hsim,hk⟩:=hK d st1 h5
 obtain ⟨E2,k1,k2⟩:=hsim P (.sub w E) 1 E' ⟨#[v],[]⟩ w' (fun i x hN=>hw.N_lt hN) (fun g t ht=>hw.γ_lt' ht) h2 ⟨⟨rfl,hgl.mono h1.G⟩,rfl,fun t=>by
  cases t with
  | zero=>simpa [Env.get] using h3
  | succ t=>simp[Env.get];exact .bad _⟩
 exact ⟨v,E2,d',st',rfl,k1.le,hw.leave k1,by simpa [Env.get] using k2.2.2 0,fun _ _ _ hn=>absurd trivial hn,hk⟩
theorem FnS.of (hm:P.follows .mixedOrders=true) (g:Cfg) {S:SpecS} (hS:SpecSOK P S) {T:SpecT} (hT:SpecTOK P T) {U:SpecU} (hU:SpecUOK P U) {tbl:TblL} (ht:TblLOK P tbl) (k:Nat) {f:FuncId} {fn:Func} {g' ac:AC} {ars:List ARes} (hcall:∀ vs w,(callFunc f vs).run P w=.ok (.enter f vs) w) (hf:P.funcs[f]? = some fn)
  (hc:compF P fn g'=some (ac,ars)) {args:List DC} {n:Nat} (hn:n≤fn.ntmps) (hl:shortB args n=true) (st:StS) (dT:DC) (st':StS) (hgc:gcBase st.box.length st.grp.length ac=true)
  (h:∀ (cmp:BinOp→Int→Int→Bool) (ar:BinOp→IntKind→Int→Int→Int) (cv:IntKind→Int→Int) (tn:Int→Nat) (ic:Nat→Int) (ai:Nat→Int→Int) (mx:Bool→Int→Int→Int) (an:Bool→Bool→Bool) (ad ml sb mn:Nat→Nat→Nat)
   (ln:(t:Ty)→List t.den→Nat) (em:(t:Ty)→List t.den→Bool) (gt:(t:Ty)→List t.den→Int→t.den) (up:(t:Ty)→Nat→List t.den→Int→t.den→List t.den) (ap:(t:Ty)→List t.den→List t.den→List t.den)
   (sc:(t:Ty)→List t.den→Int→Int→List t.den) (vw:(t:Ty)→Nat→List t.den→Nat→Nat→List t.den) (cp:(t:Ty)→Nat→List t.den→Nat→List t.den→Nat→List t.den) (rp:(t:Ty)→Nat→t.den→List t.den) (p1:(a b:Ty)→a.den×b.den→a.den) (p2:(a b:Ty)→a.den×b.den→b.den) (s1:(t:Ty)→Option Bool×List t.den→Option Bool) (s2:(t:Ty)→Option Bool×List t.den→List t.den) (X Y:CallS),
   X=FnS P→Y=CPS P→cmp=cmpR→ar=arR→cv=(fun k n=>k.wrap n)→tn=Int.toNat→ic=(fun n:Nat=>(n:Int))→ai=(fun (n:Nat) (k:Int)=>(n:Int)+k)→mx=mxR→an=(fun a b=>a && b)→ad=(fun a b=>a+b)→ml=(fun a b=>a*b)→sb=(fun a b=>a - b)→mn=(fun a b=>min a b) →
   ln=(fun _ l=>l.length)→em=(fun _ l=>l.isEmpty)→gt=gtR→up=upR→ap=(fun _ a b=>a ++ b)→sc=scR→vw=vwR→cp=cpR→rp=(fun _ n x=>List.replicate n x)→p1=(fun _ _ x=>x.1)→p2=(fun _ _ x=>x.2)→s1=(fun _ x=>x.1)→s2=(fun _ x=>x.2) →
   wpAS ⟨cmp,ar,cv,tn,ic,ai,mx,an,ad,ml,sb,mn,ln,em,gt,up,ap,sc,vw,cp,rp,⟨p1,p2,s1,s2⟩⟩ g (CIS ⟨cmp,ar,cv,tn,ic,ai,mx,an,ad,ml,sb,mn,ln,em,gt,up,ap,sc,vw,cp,rp,⟨p1,p2,s1,s2⟩⟩ g S T U tbl X Y k) (CXD ⟨cmp,ar,cv,tn,ic,ai,mx,an,ad,ml,sb,mn,ln,em,gt,up,ap,sc,vw,cp,rp,⟨p1,p2,s1,s2⟩⟩ S U Y) ac noHS
    (retS ars fun x s=>RET st.box.length st.grp.length x s dT st') (argsS 0 args) st):FnS P f args st fun x s=>x=dT∧s=st':=by
 have h:=h cmpR arR (fun k n=>k.wrap n) Int.toNat (fun n:Nat=>(n:Int)) (fun (n:Nat) (k:Int)=>(n:Int)+k) mxR (fun a b=>a && b) (fun a b=>a+b) (fun a b=>a*b) (fun a b=>a - b) (fun a b=>min a b) (fun _ l=>l.length) (fun _ l=>l.isEmpty) gtR upR (fun _ a b=>a ++ b) scR vwR cpR (fun _ n x=>List.replicate n x) (fun _ _ x=>x.1) (fun _ _ x=>x.2) (fun _ x=>x.1) (fun _ x=>x.2) (FnS P) (CPS P) rfl rfl rfl rfl rfl rfl rfl rfl rfl rfl rfl rfl rfl rfl rfl rfl rfl rfl rfl rfl rfl rfl rfl rfl rfl rfl rfl
 intro c
 have hc':=hc
 refine FnC.sim (K1:=fun x s=>∃ y t,x=DC.conc y∧s=StS.conc t∧RET st.box.length st.grp.length y t dT st') ?_ ?_ c
 ·intro c
  refine CW.of_wpA hm hcall hf hc (.inr (by simpa [StS.conc] using hgc)) (by have:=shortB_spec hl;rw[concL_length];omega) ?_
  have:=wpAS_sound (D:=FnC P) (fun f ds st K h c=>CIS_cw hm hS hT hU ht k c f ds st K h) FnC.cmono (CXD_cp hS hU) CPo.ok ac _ (retQ ars fun x s=>∃ y t,x=DC.conc y∧s=StS.conc t∧RET st.box.length st.grp.length y t dT st') (retS_sound fun d s h=>⟨d,s,rfl,rfl,h⟩) _ _ h
  rwa [argsS_conc]at this
 ·rintro _ _ ⟨y,t,rfl,rfl,hr⟩
  obtain ⟨fl,hl,hs⟩:=hr.h
  refine ⟨dT.conc,st'.conc,?_,⟨dT,st',rfl,rfl,rfl,rfl⟩⟩
  have:=hs.sim
  simpa [StS.conc,concE] using this
end
end Go.Ab
