/- Abstract values and states for the functions of a translated program,and preconditions over them: contracts whose results are the caller's own. What is proved holds for every program,without conditions. -/
import Derived.Test.YteiolnofaebknaaAbE
set_option linter.unusedSimpArgs false
set_option linter.unusedVariables false
set_option linter.unusedSectionVars false
namespace Go.Ab
open Go.RowKit
structure OWNF (dT:DC) (bs:List BoxS) (x:DC) (st:StS):Prop where
 h:∃ m,Ren m x.conc dT.conc∧srcBoxes st.conc m (bs.map BoxS.conc)
section
variable {P:Program}
theorem OwnS.of (hm:P.follows .mixedOrders=true) (g:Cfg) {S:SpecS} (hS:SpecSOK P S) {T:SpecT} (hT:SpecTOK P T) {U:SpecU} (hU:SpecUOK P U) {tbl:TblL} (ht:TblLOK P tbl) (k:Nat) {f:FuncId} {fn:Func} {g' ac:AC} {ars:List ARes} (hcall:∀ vs w,(callFunc f vs).run P w=.ok (.enter f vs) w) (hf:P.funcs[f]? = some fn)
  (hc:compF P fn g'=some (ac,ars)) {args:List DC} {n:Nat} (hn:n≤fn.ntmps) (hl:shortB args n=true) (dT:DC) (bs:List BoxS)
  (h:∀ (cmp:BinOp→Int→Int→Bool) (ar:BinOp→IntKind→Int→Int→Int) (cv:IntKind→Int→Int) (tn:Int→Nat) (ic:Nat→Int) (ai:Nat→Int→Int) (mx:Bool→Int→Int→Int) (an:Bool→Bool→Bool) (ad ml sb mn:Nat→Nat→Nat)
   (ln:(t:Ty)→List t.den→Nat) (em:(t:Ty)→List t.den→Bool) (gt:(t:Ty)→List t.den→Int→t.den) (up:(t:Ty)→Nat→List t.den→Int→t.den→List t.den) (ap:(t:Ty)→List t.den→List t.den→List t.den)
   (sc:(t:Ty)→List t.den→Int→Int→List t.den) (vw:(t:Ty)→Nat→List t.den→Nat→Nat→List t.den) (cp:(t:Ty)→Nat→List t.den→Nat→List t.den→Nat→List t.den) (rp:(t:Ty)→Nat→t.den→List t.den) (p1:(a b:Ty)→a.den×b.den→a.den) (p2:(a b:Ty)→a.den×b.den→b.den) (s1:(t:Ty)→Option Bool×List t.den→Option Bool) (s2:(t:Ty)→Option Bool×List t.den→List t.den) (X Y:CallS),
   X=FnS P→Y=CPS P→cmp=cmpR→ar=arR→cv=(fun k n=>k.wrap n)→tn=Int.toNat→ic=(fun n:Nat=>(n:Int))→ai=(fun (n:Nat) (k:Int)=>(n:Int)+k)→mx=mxR→an=(fun a b=>a && b)→ad=(fun a b=>a+b)→ml=(fun a b=>a*b)→sb=(fun a b=>a - b)→mn=(fun a b=>min a b) →
   ln=(fun _ l=>l.length)→em=(fun _ l=>l.isEmpty)→gt=gtR→up=upR→ap=(fun _ a b=>a ++ b)→sc=scR→vw=vwR→cp=cpR→rp=(fun _ n x=>List.replicate n x)→p1=(fun _ _ x=>x.1)→p2=(fun _ _ x=>x.2)→s1=(fun _ x=>x.1)→s2=(fun _ x=>x.2) →
   wpAS ⟨cmp,ar,cv,tn,ic,ai,mx,an,ad,ml,sb,mn,ln,em,gt,up,ap,sc,vw,cp,rp,⟨p1,p2,s1,s2⟩⟩ g (CIS ⟨cmp,ar,cv,tn,ic,ai,mx,an,ad,ml,sb,mn,ln,em,gt,up,ap,sc,vw,cp,rp,⟨p1,p2,s1,s2⟩⟩ g S T U tbl X Y k) (CXD ⟨cmp,ar,cv,tn,ic,ai,mx,an,ad,ml,sb,mn,ln,em,gt,up,ap,sc,vw,cp,rp,⟨p1,p2,s1,s2⟩⟩ S U Y) ac noHS
    (retS ars (OWNF dT bs)) (argsS 0 args) ⟨[],[]⟩):OwnFn P f (concL args) dT.conc (bs.map BoxS.conc):=by
 refine OwnFn.of hm hcall hf hc (by have:=shortB_spec hl;rw[concL_length];omega) ?_
 have h:=h cmpR arR (fun k n=>k.wrap n) Int.toNat (fun n:Nat=>(n:Int)) (fun (n:Nat) (k:Int)=>(n:Int)+k) mxR (fun a b=>a && b) (fun a b=>a+b) (fun a b=>a*b) (fun a b=>a - b) (fun a b=>min a b) (fun _ l=>l.length) (fun _ l=>l.isEmpty) gtR upR (fun _ a b=>a ++ b) scR vwR cpR (fun _ n x=>List.replicate n x) (fun _ _ x=>x.1) (fun _ _ x=>x.2) (fun _ x=>x.1) (fun _ x=>x.2) (FnS P) (CPS P) rfl rfl rfl rfl rfl rfl rfl rfl rfl rfl rfl rfl rfl rfl rfl rfl rfl rfl rfl rfl rfl rfl rfl rfl rfl rfl rfl
 have:=wpAS_sound (D:=FnC P) (fun f ds st K h c=>CIS_cw hm hS hT hU ht k c f ds st K h) FnC.cmono (CXD_cp hS hU) CPo.ok ac _ (retQ ars fun x st=>∃ m,Ren m x dT.conc∧srcBoxes st m (bs.map BoxS.conc)) (retS_sound fun d st h=>h.h) _ _ h
 rwa [argsS_conc]at this
theorem Ren.p {m:List Src} {x:PD} (h:flatP x=true):Ren m (.p x) (.p x):=by simp only[Ren,h,and_self]
structure OWNK (t:Ty) (e:TypeId) (l:List t.den) (st:StS) (K:DC→StS→Prop):Prop where
 nil:l=[]→K (.p (.sl (some true) 0 [])) st
 box:∀ N,l≠[]→N=l.length→K (.ms st.box.length 0 t.size none N) { st with box:=st.box ++ [{ cells:=[.arr N t l],e:=e,fz:=false }] }
structure OwnL (P:Program) (f:FuncId) (args:List DC) (t:Ty) (e:TypeId) (l:List t.den) (sh:DC→DC):Prop where
 nil:l=[]→OwnFn P f (concL args) (sh (.p (.sl (some true) 0 []))).conc []
 box:l≠[]→OwnFn P f (concL args) (sh (.ms 0 0 t.size none l.length)).conc [⟨concCs [.arr l.length t l],e,false,false,false⟩]
def viewT (o:OpsS) (st:StS) (ds:List DC):Option (List DC×Prop):=match pureN pure2 ds with
 | some xs=>some (xs,True)
 | none=>viewN o st ds
def spOwn {α:Type} (arg:List DC→Option α) (pre:α→Prop) (t:Ty) (e:TypeId) (l:α→List t.den) (sh:α→DC→DC):OpsS→CallS:=fun o _ ds st K=>match viewT o st ds with
 | some (xs,p)=>p∧(match arg xs with | some a=>pre a∧OWNK t e (l a) st (fun d st'=>K (sh a d) st') | none=>False)
 | none=>False
structure ShOK (sh:DC→DC) (t:Ty):Prop where
 nil:∀ k,(sh (.p (.sl (some true) 0 []))).conc.shift k=(sh (.p (.sl (some true) 0 []))).conc
 box:∀ k N,(sh (.ms 0 0 t.size none N)).conc.shift k=(sh (.ms k 0 t.size none N)).conc
theorem arr_shift {t:Ty} {N:Nat} {l:List t.den} (k:Nat):(concCs [DC.arr N t l]).map (D.shift k)=concCs [DC.arr N t l]:=by
 rw[concCs_cons,concCs_nil,List.append_nil]
 simp only[cellS,arrCells,List.map_map]
 refine List.map_congr_left fun x _=>?_
 simp[D.shift]
theorem pureA_viewA {st:St} {ds xs:List D} (h:PureAs ds xs):ViewAs st.box ds xs:=⟨h.1,fun _ _ E w hg hB us hR i hi=>RD.mono (E:=noE E.G) (E':=noE (nowG E w)) ⟨fun b o u hu=>nowG_le hg b o u hu,(fun i b h=>absurd h (by rintro (h | h) <;> cases h)),(fun _ _ _=>rfl),(fun g b cap cur h=>absurd h (by intro h;cases h))⟩ (h.2 E us hR i hi)⟩
theorem spOwn.ok {f:FuncId} {α:Type} {arg:List DC→Option α} {pre:α→Prop} {t:Ty} {e:TypeId} {l:α→List t.den} {sh:α→DC→DC} (hsh:∀ a,ShOK (sh a) t) (ha:∀ xs a,arg xs=some a→pre a→OwnL P f xs t e (l a) (sh a)) :
  ∀ ds st K,spOwn arg pre t e l sh OpsS.real f ds st K→FnS P f ds st K:=fun ds st K h c=>by
 unfold spOwn at h
 split at h <;> first | exact h.elim | skip
 rename_i xs p hv
 obtain ⟨hp,h⟩:=h
 split at h <;> first | exact h.elim | skip
 rename_i a hxa
 obtain ⟨hpre,hk⟩:=h
 have hview:ViewAs st.conc.box (concL ds) (concL xs):=by
  unfold viewT at hv
  split at hv
  ·rename_i ys hy
   simp only[Option.some.injEq,Prod.mk.injEq]at hv
   obtain ⟨rfl,rfl⟩:=hv
   exact pureA_viewA (pureN_as hy)
  ·exact viewN_as hv hp
 have ho:=ha xs a hxa hpre
 by_cases hl:l a=[]
 ·refine (ho.nil hl).cwV rfl hview ?_
  rw[(hsh a).nil]
  have:=hk.nil hl
  simp only[List.map_nil,List.append_nil]
  exact KP.mk this
 ·refine (ho.box hl).cwV rfl hview ?_
  rw[(hsh a).box,StS.box_len]
  have:=hk.box _ hl rfl
  refine ⟨_,_,rfl,?_,this⟩
  simp only[StS.conc,List.map_append,List.map_cons,List.map_nil,BoxS.conc,Box.shift,arr_shift]
structure APPK (t:Ty) (e:TypeId) (l:List t.den) (st:StS) (K:DC→StS→Prop):Prop where
 nil:l=[]→K (.p (.sl (some true) 0 [])) st
 box:∀ N,l≠[]→N=l.length→K (.ms st.box.length 0 t.size none N) { st with box:=st.box ++ [{ cells:=[.arr N t l],e:=e,fz:=false,ap:=true }] }
end
theorem OWNF.flat {dT x:DC} {st:StS} {z:PD} (h:x.conc=dT.conc) (hz:dT.conc=.p z) (hf:flatP z=true):OWNF dT [] x st:=⟨[],by rw[h,hz];exact Ren.p hf,by simp[srcBoxes]⟩
theorem gp_box {st:StS} {g:Nat} {t:Ty} {e:TypeId} {l:List t.den} (hg:nthD st.grp g=some (l.length*t.size,e)) (hf:(t.rows l).all flatP=true) :
  srcBoxes st.conc [.gp g (t.rows l) e] ([{ cells:=[.arr l.length t l],e:=e,fz:=false }].map BoxS.conc):=by
 refine ⟨_,[],⟨?_,hf,rfl⟩,rfl,rfl,?_⟩
 ·show st.grp[g]? = _
  rw[←nthD_eq,hg,Ty.rows_length]
 ·simp only[List.map_cons,List.map_nil,BoxS.conc,concCs_cons,concCs_nil,cellS,arrCells,List.append_nil,t.norm_eq rfl]
theorem og_concN {g:Nat} {t:Ty} {l:List t.den} (h:l≠[]):(DC.og g t l).conc=.grp g l.length (t.rows l):=by
 cases l with
 | nil=>exact absurd rfl h
 | cons x r=>simp only[DC.conc,List.length_cons]
theorem ms_conc {b sz n:Nat}:(DC.ms b 0 sz none n).conc=.ms b 0 n:=by simp[DC.conc]
structure OWD (t:Ty) (e:TypeId) (l:List t.den) (d:DC) (bs:List BoxS):Prop where
 h:(l=[]∧d=.p (.sl (some true) 0 [])∧bs=[])∨(l≠[]∧d=.ms 0 0 t.size none l.length∧bs=[{ cells:=[.arr l.length t l],e:=e,fz:=false }])
section
variable {t:Ty} {e:TypeId} {l:List t.den} {d:DC} {bs:List BoxS} {st:StS} {y a:PD}
theorem OWD.nilT (h:OWD t e l d bs) (hl:l=[]) (hy:flatP y=true) {x:DC} (hx:x=.p (.sl (some true) 0 [])):OWNF (.tup [d,.p y]) bs (.tup [x,.p y]) st:=by
 rcases h.h with ⟨_,rfl,rfl⟩ | ⟨h,_,_⟩
 ·subst hx
  refine OWNF.flat rfl (z:=.tup [.sl (some true) 0 [],y]) ?_ ?_
  ·simp only[DC.conc,concL];rfl
  ·show (flatP (.sl (some true) 0 []) && (flatP y && true))=true;rw[hy];rfl
 ·exact absurd hl h
theorem OWD.ogT (h:OWD t e l d bs) {g:Nat} (hg:nthD st.grp g=some (l.length*t.size,e)) (hf:(t.rows l).all flatP=true) (hy:flatP y=true):OWNF (.tup [d,.p y]) bs (.tup [.og g t l,.p y]) st:=by
 rcases h.h with ⟨h',rfl,rfl⟩ | ⟨h',rfl,rfl⟩
 ·subst h'
  refine OWNF.flat ?_ (z:=.tup [.sl (some true) 0 [],y]) ?_ ?_
  ·simp only[DC.conc,concL]
  ·simp only[DC.conc,concL];rfl
  ·show (flatP (.sl (some true) 0 []) && (flatP y && true))=true;rw[hy];rfl
 ·refine ⟨_,?_,gp_box hg hf⟩
  have e1:(DC.tup [.og g t l,.p y]).conc=.tup [.grp g l.length (t.rows l),.p y]:=by simp only[mkTup_conc,List.map_cons,List.map_nil,og_concN h'];simp only[show ∀ x:PD,(DC.p x).conc=.p x from fun x=>by simp only[DC.conc]];rfl
  have e2:(DC.tup [.ms 0 0 t.size none l.length,.p y]).conc=.tup [.ms 0 0 l.length,.p y]:=by simp only[mkTup_conc,List.map_cons,List.map_nil,ms_conc];simp only[DC.conc];rfl
  rw[e1,e2]
  simp only[Ren,RenL]
  refine ⟨_,⟨_,_,⟨0,e,rfl,rfl⟩,⟨_,_,⟨hy,rfl⟩,rfl,rfl⟩,rfl⟩,rfl⟩
theorem OwnL.of {P:Program} {f:FuncId} {args:List DC} {sh:DC→DC} (h:∀ d bs,OWD t e l d bs→OwnFn P f (concL args) (sh d).conc (bs.map BoxS.conc)):OwnL P f args t e l sh:=
 ⟨fun hl=>h _ [] ⟨.inl ⟨hl,rfl,rfl⟩⟩,fun hl=>h _ _ ⟨.inr ⟨hl,rfl,rfl⟩⟩⟩
end
def shT (y:PD) (d:DC):DC:=.tup [d,.p y]
theorem shT.ok (y:PD) (t:Ty):ShOK (shT y) t:=⟨fun k=>by
  simp only[shT,DC.conc,concL]
  show D.shift k (.p (.tup [.sl (some true) 0 [],y]))=.p (.tup [.sl (some true) 0 [],y])
  simp[D.shift],fun k N=>by
  simp only[shT,DC.conc,concL]
  show D.shift k (.tup [.ms 0 (0+0*t.size) N,.p y])=.tup [.ms k (0+0*t.size) N,.p y]
  simp[D.shift,D.shiftL]⟩
theorem OwnL.cong {P:Program} {f:FuncId} {xs ys:List DC} {t:Ty} {e:TypeId} {l:List t.den} {sh:DC→DC} (h:OwnL P f ys t e l sh) (he:concL xs=concL ys):OwnL P f xs t e l sh:=⟨fun hl=>by rw[he];exact h.nil hl,fun hl=>by rw[he];exact h.box hl⟩
end Go.Ab
namespace Go.Ab
open Go.RowKit
open Classical in
section
variable {P:Program} {c0:Ctx} {E0 E:Em} {st0 st:St} {w0 w:World}
end
section
variable {P:Program}
structure GS where
 t:Ty
 l:List t.den
 e:TypeId
end
end Go.Ab
