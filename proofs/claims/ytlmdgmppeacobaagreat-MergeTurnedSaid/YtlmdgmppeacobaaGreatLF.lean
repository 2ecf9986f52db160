/- slices.SortFunc on costs: what the row holds behind it. -/
import Derived.Test.YtlmdgmppeacobaaGreatLD
import Derived.Shelf.SlSortCmp.WholeK
import Derived.Shelf.Lay
import Derived.Ground.SlsfProg
set_option linter.unusedSimpArgs false
set_option linter.unusedVariables false
set_option maxRecDepth 100000
set_option maxHeartbeats 8000000
namespace Go.Ab
open Go.Proofs
theorem cPrf1 (s:Bool) (na:Option Bool) (a:List Int) (nb:Option Bool) (b:List Int) (s':Bool) (nc:Option Bool) (c:List Int) (nd:Option Bool) (d:List Int) (h:CK2 c d a b):PurS Tryz.prog 78 [injT tR (s,(na,a),(nb,b)),injT tR (s',(nc,c),(nd,d))] (.p (iv (cmR s' c d s a b))):=by
 refine PurS.of (S:=[(45,_)]) (T:=[]) (U:=[]) (tbl:=[]) (n:=8) hm31 cfg (.cons (spT2.ok (a:=(.pair .bool (.pair (.sl (.int .u32)) (.sl (.int .u32))))) (b:=(.pair .bool (.pair (.sl (.int .u32)) (.sl (.int .u32))))) fun x0 x1 h=>cCompare x0.1 x0.2.1.1 x0.2.1.2 x0.2.2.1 x0.2.2.2 x1.1 x1.2.1.1 x1.2.1.2 x1.2.2.1 x1.2.2.2 h) .nil) .nil .nil .nil 0 Tryz.call78 Tryz.func78 (ac78_ok (some (0,0))) (by rw[Tryz.ntmps78];exact Nat.le_refl _) rfl ⟨_,rfl⟩ ?_
 intro cmp ar cv tn ic ai mx an ad ml sb mn ln em gt up ap sc vw cp rp p1 p2 s1 s2 X Y hX hY r0 r1 r2 r3 r4 r5 r6 r7 r8 r9 r10 r11 r12 r13 r14 r15 r16 r17 r18 r19 r20 r21 r22 r23 r24
 generalize hg0:cmR=g0
 cbv
 dsimp only
 exact ⟨h,rfl⟩
end Go.Ab
namespace Go.Ab
open Go.Proofs Go.Sort Go.RowKit
theorem GR_of {w w':World} (h:BelowF w.heap.size w w'):∃ q os',w'=grow (w.drewN q) os':=by
 refine ⟨w'.drawn - w.drawn,w'.heap.extract w.heap.size w'.heap.size,?_⟩
 obtain ⟨⟨h1,h2,h3,h4,h5⟩,_,h6⟩:=h
 have hh:w'.heap=w.heap ++ w'.heap.extract w.heap.size w'.heap.size:=by
  apply Array.ext_getElem?
  intro k
  by_cases hk:k<w.heap.size
  ·rw[Array.getElem?_append_left hk];exact h5 k hk
  ·rw[Array.getElem?_append_right (by omega),Array.getElem?_extract]
   split
   ·congr 1;omega
   ·rw[Array.getElem?_eq_none];omega
 cases w;cases w'
 simp only[grow,World.drewN]at *
 subst h1 h2 h3
 rw[←hh]
 congr 1
 omega
section
variable {α:Type} [Inhabited α]
theorem flat_getG {β:Type} (enc:α→List β) (k:Nat) (hk:∀ x,(enc x).length=k):∀ (l:List α) (t:Nat),t<l.length*k→(l.flatMap enc)[t]? = (enc l[t / k]!)[t % k]?
 | [],t,h=>by simp at h
 | x :: r,t,h=>by
  have k0:0<k:=Nat.pos_of_ne_zero (by rintro rfl;simp at h)
  rw[List.flatMap_cons,List.getElem?_append,hk]
  by_cases ht:t<k
  ·rw[if_pos ht,Nat.div_eq_of_lt ht,Nat.mod_eq_of_lt ht];rfl
  ·rw[if_neg ht,flat_getG enc k hk r (t - k) (by simp only[List.length_cons,Nat.add_mul,Nat.one_mul]at h;omega)]
   have h1:t / k=(t - k) / k+1:=by rw[Nat.div_eq_sub_div k0 (by omega)]
   have h2:t % k=(t - k) % k:=by rw[Nat.mod_eq_sub_mod (by omega)]
   rw[h1,h2];rfl
theorem flat_lenG {β γ:Type} (enc:γ→List β) (k:Nat) (hk:∀ x,(enc x).length=k):∀ l:List γ,(l.flatMap enc).length=l.length*k
 | []=>by simp
 | x :: r=>by rw[List.flatMap_cons,List.length_append,hk,flat_lenG enc k hk r,List.length_cons,Nat.add_mul,Nat.one_mul,Nat.add_comm]
theorem HR.sortedK {P:Program} {c:Ctx} {E:Em} {st:St} {w:World} (hw:HR P c E st w) {i b:Nat} (hb:E.ι i=some b) {B:Box} (hB:st.box[i]? = some B) (hf:B.fz=false) (enc:α→List Value) (ab:α→List PD) (k:Nat) (hk:∀ x,(enc x).length=k) (ha:∀ x,(ab x).length=k)
  (h1:∀ x,∀ v∈enc x,v.oneCell'=true) (hR:∀ x j,j<k→RP E.G ((ab x).getD j default) ((enc x).getD j undef)) (d:Array α) {vs:Array Value} (hv:w.heap[b]? = some (.cells vs B.e (0,0))) (hsz:d.size*k≤vs.size) (hvs:∀ j,j<d.size*k→vs.getD j undef=(d.toList.flatMap enc).getD j undef) :
  HoldsK enc k w b 0 d∧∀ (d':Array α) (n:Nat) (os:Array Obj),d'.size=d.size→HR P c E { st with box:=st.box.set i { B with cells:=(d'.toList.flatMap ab).map .p } } (sortWorldK enc k w b 0 n d' os):=by
 refine ⟨fun j hj=>?_,fun d' n os hd=>?_⟩
 ·rw[size_flatK]at hj
  have hlt:j<vs.size:=by omega
  refine ⟨?_,?_⟩
  ·show w.cell? ⟨b,0+j,none⟩=some (id (Go.Sort.flatK enc k d)[j]!)
   rw[Nat.zero_add,id,sortFlat_get enc k hk d j hj,←hvs j hj]
   unfold World.cell?
   simp only[hv]
   simp[Array.getD,hlt]
  ·unfold World.frozen?
   simp only[hv]
   simp
 ·have hset:=hw.setbox hb hB hf ((d'.toList.flatMap ab).map .p) vs (Go.Sort.putCells id 0 (Go.Sort.flatK enc k d') vs) hv (by simp[Go.Sort.putCells]) (by
   rw[List.length_map,flat_lenG ab k ha];simp only[Go.Sort.putCells,Array.size_mapIdx,Array.length_toList];rw[hd];omega) (fun j hj=>by
   rw[List.length_map,flat_lenG ab k ha]at hj
   have hj2:j<d'.size*k:=by simpa using hj
   have hlt:j<vs.size:=by rw[hd]at hj2;omega
   have k0:0<k:=Nat.pos_of_ne_zero (by rintro rfl;simp at hj2)
   have hm:j % k<k:=Nat.mod_lt _ k0
   have e1:(Go.Sort.putCells id 0 (Go.Sort.flatK enc k d') vs).getD j undef=(d'.toList.flatMap enc).getD j undef:=by
    have:=sortFlat_get enc k hk d' j hj2
    simp only[Array.getD_eq_getD_getElem?,Go.Sort.putCells,Array.getElem?_mapIdx,Array.getElem?_eq_getElem hlt,Option.map_some,Option.getD_some,Nat.zero_le,true_and,size_flatK,Nat.zero_add,hj2,if_true,Nat.sub_zero,id]
    exact this
   have e2:(d'.toList.flatMap enc).getD j undef=(enc d'.toList[j / k]!).getD (j % k) undef:=by
    rw[List.getD_eq_getElem?_getD,flat_getG enc k hk _ _ (by simpa using hj2),←List.getD_eq_getElem?_getD]
   have e3:((d'.toList.flatMap ab).map D.p).getD j default=.p ((ab d'.toList[j / k]!).getD (j % k) default):=by
    rw[List.getD_eq_getElem?_getD,List.getElem?_map,flat_getG ab k ha _ _ (by simpa using hj2),List.getElem?_eq_getElem (by rw[ha];exact hm),List.getD_eq_getElem?_getD,List.getElem?_eq_getElem (by rw[ha];exact hm)];rfl
   rw[e1,e2,e3]
   refine ⟨.p _ _ (hR _ _ hm),h1 d'.toList[j / k]! _ ?_⟩
   rw[List.getD_eq_getElem?_getD,List.getElem?_eq_getElem (by rw[hk];exact hm)]
   exact List.getElem_mem _)
  have e2:sortWorldK enc k w b 0 n d' os=grow (Go.Sort.ahead (w.setRow b (Go.Sort.putCells id 0 (Go.Sort.flatK enc k d') vs)) n) os:=by
   unfold sortWorldK putRowK putRow
   congr 1
   show mapBlock (Go.Sort.ahead w n) b _=_
   rw[mapBlock_congr (Go.Sort.ahead w n) b _ (fun _=>Go.Sort.putCells id 0 (Go.Sort.flatK enc k d') vs) (fun c' e fr h=>by
    have:w.heap[b]? = some (.cells c' e fr):=h
    rw[hv]at this
    cases this;rfl)]
   rfl
  rw[e2]
  refine hset.grown ⟨⟨rfl,rfl,rfl,?_,fun k' hk'=>?_⟩,fun a ha=>?_,Nat.le_add_right _ _⟩
  ·simp[grow,Go.Sort.ahead]
  ·show ((w.setRow b _).heap ++ os)[k']? = _
   rw[Array.getElem?_append_left hk']
  ·unfold World.frozen?
   have:(grow (Go.Sort.ahead (w.setRow b (Go.Sort.putCells id 0 (Go.Sort.flatK enc k d') vs)) n) os).heap[a.block]? = (w.setRow b (Go.Sort.putCells id 0 (Go.Sort.flatK enc k d') vs)).heap[a.block]?:=by
    show ((w.setRow b _).heap ++ os)[a.block]? = _
    rw[Array.getElem?_append_left ha]
   rw[this]
end
end Go.Ab
namespace Go.Proofs
open Go.Shelf Go.RowKit Go.Lib Go.Sort Go.Ab
shelf_lay_g SlLaysF0.n6 Slsf 6 at Tryz 77 as Tryz.sortR
end Go.Proofs
namespace Go.Ab
open Go.Proofs Go.Sort Go.RowKit
def rvT (x:RT):Rat:=rv x.1 x.2.1.2 x.2.2.2
structure VT (x:RT):Prop where
 k:RK x.1 x.2.1.2 x.2.2.2
def srtD (l:List RT):List RT:=l.mergeSort fun x y=>decide (rvT y≤rvT x)
theorem VT.ckp {x:RT} (h:VT x):CKP x.2.1.2 x.2.2.2:=⟨h.k.ca.lb,h.k.cb.lb,by have:=h.k.la;omega,by have:=h.k.lb;omega⟩
theorem VT.cl {x:RT} (h:VT x):VT (clR x):=⟨h.k⟩
theorem VT.eq {x y:RT} (hx:VT x) (hy:VT y) (h:rvT x=rvT y):clR x=clR y:=by
 obtain ⟨a1,a2,a3⟩:=hx.k.back
 obtain ⟨b1,b2,b3⟩:=hy.k.back
 unfold rvT at h
 rw[h]at a1 a2 a3
 unfold clR
 rw[←a1,←a2,←a3,b1,b2,b3]
theorem VT.chk {x:RT} (h:VT x):rck x=0:=(rchk_ok h.k.ca.lb h.k.cb.lb).2 h.k
theorem VT.cm {x y:RT} (hx:VT x) (hy:VT y):cmR x.1 x.2.1.2 x.2.2.2 y.1 y.2.1.2 y.2.2.2=cmQ (rvT x) (rvT y):=by
 unfold cmR cmE
 have h1:=hx.chk
 have h2:=hy.chk
 unfold rck at h1 h2
 rw[h1,h2];rfl
theorem cmQ_lt {a b:Rat}:cmQ a b<0↔a<b:=by
 unfold cmQ
 split
 ·rename_i h;exact ⟨fun _=>h,fun _=>by decide⟩
 ·rename_i h
  refine ⟨fun h1=>?_,fun h1=>absurd h1 h⟩
  split at h1 <;> exact absurd h1 (by decide)
theorem srtD_perm (l:List RT):(srtD l).Perm l:=List.mergeSort_perm l _
theorem srtD_len (l:List RT):(srtD l).length=l.length:=List.length_mergeSort l
theorem srtD_sorted (l:List RT):(srtD l).Pairwise fun x y=>rvT y≤rvT x:=by
 have:=List.pairwise_mergeSort (le:=fun x y:RT=>decide (rvT y≤rvT x)) (fun a b c h1 h2=>by
  simp only[decide_eq_true_eq]at *;exact Rat.le_trans h2 h1) (fun a b=>by
  simp only[Bool.or_eq_true,decide_eq_true_eq];exact Rat.le_total) l
 exact this.imp fun h=>of_decide_eq_true h
theorem srtD_uniq {S l:List RT} (hv:∀ x∈l,VT x∧clR x=x) (hp:S.Perm l) (hs:S.Pairwise fun x y=>rvT y≤rvT x):S=srtD l:=
 List.Perm.eq_of_pairwise (le:=fun x y:RT=>rvT y≤rvT x) (fun a b ha hb h1 h2=>by
  obtain ⟨k1,k2⟩:=hv a (hp.mem_iff.1 ha)
  obtain ⟨k3,k4⟩:=hv b ((srtD_perm l).mem_iff.1 hb)
  rw[←k2,←k4];exact k1.eq k3 (Rat.le_antisymm h2 h1)) hs (srtD_sorted l) (hp.trans (srtD_perm l).symm)
theorem sortR_calls {st:St} {i n:Nat} {B:Box} (hB:st.box[i]? = some B) (hf:B.fz=false) (hm:B.m=false) (l:List RT) (hn:l.length=n) (h0:0<n) (hlt:n<4611686018427387904) (hl:∀ x∈l,VT x)
  (hc:B.cells=(tR.rows l).map .p) {K:D→St→Prop} (hK:K (.p (.tup [])) { st with box:=st.box.set i { B with cells:=(tR.rows (srtD (cpRs l))).map .p } }) :
  FnC Tryz.prog 77 [.ms i 0 n,.fn (.func 78) [] []] st K:=by
 intro cx
 refine ⟨Tryz.call77,fun E w vs hw hgl hsz hR=>?_⟩
 obtain ⟨v0,v1,rfl⟩:∃ v0 v1,vs=#[v0,v1]:=⟨vs[0]'(by simp at hsz;omega),vs[1]'(by simp at hsz;omega),by
  apply Array.ext
  ·simpa using hsz
  ·intro k h1 h2
   have hk:k<2:=by simpa using h2
   match k,hk with
   | 0,_=>rfl
   | 1,_=>rfl⟩
 obtain ⟨b,cap,hN,hcap,hkap,rfl⟩:=(hR 0 (by simp)).ms_inv
 obtain ⟨us,ws,hv1,hus,hws,_,_⟩:=(hR 1 (by simp)).fn_inv
 obtain rfl:us=#[]:=Array.eq_empty_of_size_eq_zero (by simpa using hus)
 obtain rfl:ws=#[]:=Array.eq_empty_of_size_eq_zero (by simpa using hws)
 obtain rfl:v1=.func (.func 78) #[] #[]:=hv1
 have hb:=hw.live hN hB hf
 obtain ⟨B',vB,q1,q2,q3,q4,q5,q6,q7⟩:=hw.box i b hb
 obtain rfl:B=B':=by rw[hB]at q1;simpa using q1
 rw[objOf_cells vB hm]at q2
 have hcl:B.cells.length=n*3:=by rw[hc,List.length_map,Ty.rows_length,hn];rfl
 have hcell:∀ j t,j<n→t<3→RP E.G ((tR.cells (l.getD j tR.dflt)).getD t default) (vB.getD (j*3+t) undef)∧(vB.getD (j*3+t) undef).oneCell'=true:=fun j t hj ht=>by
  have hjL:j<l.length:=by omega
  have h4:=q4 (j*3+t) (by omega)
  have e:B.cells.getD (j*3+t) default=.p ((tR.cells (l.getD j tR.dflt)).getD t default):=by
   have h5:(tR.rows l)[j*3+t]? = (tR.cells (l.getD j tR.dflt))[t]?:=by
    rw[←List.getElem?_drop,show j*3=j*tR.size from rfl,Ty.rows_at tR hjL,List.getElem?_append_left (by rw[Ty.cells_length];exact ht)]
   have h6:t<(tR.cells (l.getD j tR.dflt)).length:=by rw[Ty.cells_length];exact ht
   rw[hc,List.getD_eq_getElem?_getD,List.getElem?_map,h5,List.getElem?_eq_getElem h6]
   show D.p _=D.p _
   have h7:(tR.cells (l.getD j tR.dflt)).getD t default=(tR.cells (l.getD j tR.dflt))[t]:=by
    generalize tR.cells (l.getD j tR.dflt)=cs at h6 ⊢
    rw[List.getD_eq_getElem?_getD,List.getElem?_eq_getElem h6];rfl
   rw[h7]
  rw[e]at h4
  exact ⟨h4.1.p_inv,h4.2⟩
 let A:={ p:List Value×RT // p.1.length=3∧(∀ t,t<3→RP E.G ((tR.cells p.2).getD t default) (p.1.getD t undef))∧(∀ v∈p.1,v.oneCell'=true)∧VT p.2 }
 have mkA:∀ j,j<n→∃ x:A,x.1=([vB.getD (j*3) undef,vB.getD (j*3+1) undef,vB.getD (j*3+2) undef],l.getD j tR.dflt):=fun j hj=>by
  refine ⟨⟨([vB.getD (j*3) undef,vB.getD (j*3+1) undef,vB.getD (j*3+2) undef],l.getD j tR.dflt),rfl,fun t ht=>?_,fun v hv=>?_,?_⟩,rfl⟩
  ·match t,ht with
   | 0,_=>exact (hcell j 0 hj (by decide)).1
   | 1,_=>exact (hcell j 1 hj (by decide)).1
   | 2,_=>exact (hcell j 2 hj (by decide)).1
  ·simp only[List.mem_cons,List.not_mem_nil,or_false]at hv
   rcases hv with rfl | rfl | rfl
   ·exact (hcell j 0 hj (by decide)).2
   ·exact (hcell j 1 hj (by decide)).2
   ·exact (hcell j 2 hj (by decide)).2
  ·have hjL:j<l.length:=by omega
   refine hl _ ?_
   rw[List.getD_eq_getElem?_getD,List.getElem?_eq_getElem hjL]
   exact List.getElem_mem hjL
 let d:Array A:=Array.ofFn fun j:Fin n=>Classical.choose (mkA j j.2)
 letI:Inhabited A:=⟨Classical.choose (mkA 0 h0)⟩
 have hd:d.size=n:=by simp[d]
 have hdj:∀ j,j<n→d[j]!.1=([vB.getD (j*3) undef,vB.getD (j*3+1) undef,vB.getD (j*3+2) undef],l.getD j tR.dflt):=fun j hj=>by
  rw[getElem!_pos d j (by rw[hd];exact hj)]
  simp only[d,Array.getElem_ofFn]
  exact Classical.choose_spec (mkA j hj)
 have hdL:d.toList.map (fun x=>x.1.2)=l:=by
  apply List.ext_getElem
  ·simp[hd,hn]
  ·intro j h1 h2
   have hj:j<n:=by omega
   have:=congrArg Prod.snd (hdj j hj)
   rw[getElem!_pos d j (by rw[hd];exact hj)]at this
   rw[List.getElem_map,Array.getElem_toList,this,List.getD_eq_getElem?_getD,List.getElem?_eq_getElem h2];rfl
 have hweak:∀ (x:RT) t u,t<3→RP E.G ((tR.cells x).getD t default) u→RP E.G ((tR.cells (clR x)).getD t default) u:=fun x t u ht h=>by
  match t,ht with
  | 0,_=>exact h
  | 1,_=>exact h.fl ⟨.inl rfl⟩
  | 2,_=>exact h.fl ⟨.inl rfl⟩
 obtain ⟨hH,hS⟩:=hw.sortedK hb hB hf (fun x:A=>x.1.1) (fun x:A=>tR.cells (clR x.1.2)) 3 (fun x=>x.2.1) (fun x=>Ty.cells_length tR _) (fun x=>x.2.2.2.1) (fun x j hj=>hweak _ _ _ hj (x.2.2.1 j hj)) d q2 (by rw[hd,←hcl];exact q3) (fun j hj=>by
  rw[hd]at hj
  rw[List.getD_eq_getElem?_getD,flat_getG (fun x:A=>x.1.1) 3 (fun x=>x.2.1) _ _ (by simpa [hd] using hj)]
  have hj3:j / 3<n:=by omega
  have e:d.toList[j / 3]! = d[j / 3]!:=by simp[getElem!_def]
  rw[e,congrArg Prod.fst (hdj _ hj3)]
  have hm:j % 3<3:=Nat.mod_lt _ (by decide)
  have hjj:j=j / 3*3+j % 3:=by omega
  generalize j / 3=q at *
  generalize j % 3=r at *
  subst hjj
  match r,hm with
  | 0,_=>rfl
  | 1,_=>rfl
  | 2,_=>rfl)
 have eg:∀ args w,(callFunc 78 args).run Tryz.prog w=.ok (.enter 78 args) w:=fun args w=>Tryz.call78 args w
 have hlt:∀ x y:A,ltOf (fun x y:A=>cmR y.1.2.1 y.1.2.2.1.2 y.1.2.2.2.2 x.1.2.1 x.1.2.2.1.2 x.1.2.2.2.2) x y=true↔rvT y.1.2<rvT x.1.2:=fun x y=>by
  unfold ltOf
  rw[decide_eq_true_eq]
  show cmR _ _ _ _ _ _<0↔_
  rw[VT.cm y.2.2.2.2 x.2.2.2.2,cmQ_lt]
 have hO:SWO (ltOf (fun x y:A=>cmR y.1.2.1 y.1.2.2.1.2 y.1.2.2.2.2 x.1.2.1 x.1.2.2.1.2 x.1.2.2.2.2)):={
  irrefl:=fun x=>by
   rw[←Bool.not_eq_true,hlt];exact Rat.lt_irrefl
  trans:=fun x y z h1 h2=>by
   rw[hlt]at *;grind
  ntrans:=fun x y z h1 h2=>by
   rw[←Bool.not_eq_true,hlt]at *
   rw[Rat.not_lt]at *
   exact Rat.le_trans h1 h2 }
 have hcon:=AnyQ.slices_SortFunc Tryz.sortR 3 (fun _=>by rfl) (fun _=>by rfl) (fun x:A=>x.1.1) (fun x=>x.2.1) (fun x=>x.2.2.2.1) (fun x y:A=>cmR y.1.2.1 y.1.2.2.1.2 y.1.2.2.2.2 x.1.2.1 x.1.2.2.1.2 x.1.2.2.2.2) hO 78 #[] b 0 cap d w eg (fun m os dk hs x y=>by
  have hW:=hS dk m os hs
  obtain ⟨z,hz,h⟩:=cPrf1 x.1.2.1 x.1.2.2.1.1 x.1.2.2.1.2 x.1.2.2.2.1 x.1.2.2.2.2 y.1.2.1 y.1.2.2.1.1 y.1.2.2.1.2 y.1.2.2.2.1 y.1.2.2.2.2 ⟨y.2.2.2.2.ckp,x.2.2.2.2.ckp⟩
  have e:z=.v (.int .i64 (cmR y.1.2.1 y.1.2.2.1.2 y.1.2.2.2.2 x.1.2.1 x.1.2.2.1.2 x.1.2.2.2.2)):=by
   simp only[DC.conc,D.p.injEq]at hz
   exact hz.symm
  subst e
  have harg:∀ x:A,RD (noE E.G) (injT tR x.1.2).conc (.agg x.1.1.toArray):=fun x=>by
   have e:(injT tR x.1.2).conc=.p (.agg (tR.cells x.1.2)):=by
    simp only[injT,DC.conc,elemS_conc,mkAgg_map]
   rw[e]
   refine .p _ _ (.agg _ _ ?_ fun t ht=>?_)
   ·rw[Ty.cells_length];simp[x.2.1];rfl
   ·rw[Ty.cells_length]at ht
    have:=x.2.2.1 t ht
    show RP E.G _ _
    simpa [Array.getD_eq_getD_getElem?,List.getD_eq_getElem?_getD] using this
  refine (h.2 E.G _ #[.agg x.1.1.toArray,.agg y.1.1.toArray] hW.gok hgl rfl fun j hj=>?_).mono ?_
  ·match j,hj with
   | 0,_=>exact harg x
   | 1,_=>exact harg y
  ·rintro e w' ⟨v,G',rfl,_,_,_,hb',hx⟩
   cases hx with
   | v=>exact ⟨rfl,GR_of hb'⟩) hH (hw.ι_lt hb) (by omega)
 rw[hd]at hcon
 change Calls Tryz.prog 77 _ _ _ at hcon
 refine hcon.mono ?_
 rintro e w' ⟨rfl,d',m,os,hperm,hsort,rfl⟩
 have h2:=hS d' m os hperm.1
 have hd':d'.size=n:=hperm.1.trans hd
 have eS:d'.toList.map (fun x=>clR x.1.2)=srtD (cpRs l):=by
  refine srtD_uniq (fun x hx=>?_) ?_ ?_
  ·obtain ⟨y,hy,rfl⟩:=List.mem_map.1 hx
   exact ⟨(hl y hy).cl,rfl⟩
  ·have hpp:=hperm.2.2
   have e1:d'.extract 0 n=d':=by rw[←hd',Array.extract_size]
   have e2:d.extract 0 n=d:=by rw[←hd,Array.extract_size]
   rw[e1,e2]at hpp
   have:=hpp.map (fun x:A=>clR x.1.2)
   have e3:d.toList.map (fun x=>clR x.1.2)=cpRs l:=by
    unfold cpRs
    conv=>rhs;rw[←hdL]
    rw[List.map_map];rfl
   rw[e3]at this
   exact this
  ·rw[List.pairwise_map,List.pairwise_iff_getElem]
   intro j k hj hk hjk
   have:=hsort j k (Nat.zero_le _) hjk (by simpa [hd'] using hk)
   rw[←Bool.not_eq_true,hlt,getElem!_pos d' j (by simpa using hj),getElem!_pos d' k (by simpa using hk),Rat.not_lt]at this
   exact this
 have e3:((d'.toList.flatMap fun x:A=>tR.cells (clR x.1.2)).map D.p)=(tR.rows (srtD (cpRs l))).map .p:=by
  rw[←eS];unfold Ty.rows;rw[List.flatMap_map]
 rw[e3]at h2
 exact ⟨_,E,_,_,rfl,.refl E,h2,.p _ _ (.tup [] #[] rfl (fun i hi=>absurd hi (Nat.not_lt_zero _))),fun _ _ _ h=>absurd trivial h,hK⟩
end Go.Ab
set_option linter.unusedSimpArgs false
set_option linter.unusedVariables false
set_option maxRecDepth 20000
set_option maxHeartbeats 4000000
namespace Go.Ab
open Go.Proofs Go.RowKit
abbrev bxC (n:Nat) (l:List RT):BoxS:={ cells:=[.arr n tR l],e:=49,fz:=false,ap:=true }
def ccD:Option Nat→DC
 | none=>.tl (some true) tR []
 | some n=>.ms 0 0 3 none n
def ccB:Option Nat→List RT→List BoxS
 | none,_=>[]
 | some n,O=>[bxC n O]
theorem cColM (nl:Option Bool) (l:List RS) (b:Int) (n:Nat) (R:List RT) (hR:R=colL l b) (hn:n=l.length) (hn0:0<n) (h:CLM l b):FnS Tryz.prog 70 ([injT (.sl tRs) (nl,l),injT tI b]) (⟨[],[]⟩ ) fun x_ s_=>x_=(.ms 0 0 3 none n)∧s_=(⟨[bxC n R],[]⟩):=by
 refine FnS.of (S:=[]) (T:=[]) (U:=[]) (tbl:=[]) (n:=23) hm31 cfg .nil .nil .nil .nil 0 Tryz.call70 Tryz.func70 (ac70_ok (some (0,0))) (by rw[Tryz.ntmps70];exact Nat.le_refl _) rfl _ _ _ (by rfl) ?_
 intro cmp ar cv tn ic ai mx an ad ml sb mn ln em gt up ap sc vw cp rp p1 p2 s1 s2 X Y hX hY r0 r1 r2 r3 r4 r5 r6 r7 r8 r9 r10 r11 r12 r13 r14 r15 r16 r17 r18 r19 r20 r21 r22 r23 r24
 cbv
 have b0:=h.b0
 have hlm:=h.n
 obtain ⟨N,hN⟩:∃ N:Int,N=l.length:=⟨_,rfl⟩
 have hll:ic (ln tRs l)=N:=by rw[r4,r12,hN]
 rw[hll]
 refine LOOP.ind (σ:=(Option Nat×List RT)×Int) (fun ((o,O),i)=>[(1,.p (iv b)),(5,ccD o),(8,.tl nl tRs l),(9,.p (iv N)),(10,.p (iv i))]) (fun ((o,O),i)=>⟨ccB o O,[]⟩) (fun (_,i)=>(N - i).toNat)
  (fun ((o,O),i)=>0≤i∧i≤N∧O.length=i∧O ++ colL (l.drop i.toNat) b=R∧(o=none→i=0)∧∀ k,o=some k→k=O.length) ((none,[]),0) ⟨by omega,by show (0:Int)≤N;omega,rfl,by rw[hR];rfl,fun _=>rfl,fun k hk=>by cases hk⟩ (.inr ⟨[],[],?_⟩) ?_
 ·rw[SIM_iff];cbv;try simp[nlLe_self,lstEq]
 intro ⟨⟨o,O⟩,i⟩ ⟨i0,i1,i3,i2,i4,i5⟩ X' hX
 obtain ⟨r,hr⟩:∃ r,r=s2 tR (gt tRs l i):=⟨_,rfl⟩
 have hr':r=(gtR tRs l i).2:=by rw[hr,r24,r14]
 obtain ⟨rn,hrn⟩:∃ rn:Int,rn=r.length:=⟨_,rfl⟩
 have hrl:ic (ln tR r)=rn:=by rw[r4,r12,hrn]
 have hrb:i<l.length→b<rn:=fun h1=>by rw[hrn,hr'];exact h.h _ (gtR_mem (t:=tRs) i0 h1)
 obtain ⟨x,hx⟩:∃ x:RT,x=gt tR r b:=⟨_,rfl⟩
 have hst:i<l.length→colL (l.drop i.toNat) b=x :: colL (l.drop (i+1).toNat) b:=fun h1=>by rw[gtR_drop (t:=tRs) i0 h1,hx,r14,hr'];rfl
 have hse:¬ i<l.length→colL (l.drop i.toNat) b=[]:=fun h1=>by rw[gtR_end h1];rfl
 have hi1:i<l.length→ar .add .i64 i 1=i+1:=fun h1=>by rw[r1];exact wrap64 (n:=i+1) (by omega) (by omega)
 obtain ⟨y,hy⟩:∃ y:RT,y=(p1 .bool (.pair tN tN) x,(s1 tW (p1 tN tN (p2 .bool (.pair tN tN) x)),s2 tW (p1 tN tN (p2 .bool (.pair tN tN) x))),(s1 tW (p2 tN tN (p2 .bool (.pair tN tN) x)),s2 tW (p2 tN tN (p2 .bool (.pair tN tN) x)))):=⟨_,rfl⟩
 have hyx:y=x:=by rw[hy,r21,r22,r23,r24]
 have hap:ap tR O [y]=O ++ [y]:=by rw[r16]
 have hl1:ln tR [y]=1:=by rw[r12];rfl
 have hEQ:EQN (ml (ln tR O) 3) (ml (ln tR O) 3):=⟨rfl⟩
 have hOl:(O ++ [y]).length=O.length+1:=by rw[List.length_append];rfl
 obtain ⟨C,hC⟩:∃ C,C=colL (l.drop (i+1).toNat) b:=⟨_,rfl⟩
 rw[←hC]at hst
 rcases o with _ | k
 ·have hi0:i=0:=i4 rfl
  have hO:O=[]:=List.eq_nil_of_length_eq_zero (by omega)
  cbv
  try simp only[nc_eq]at *
  rw[hll,←hr,hrl,←hx]
  try rw[←hy]
  rw[hl1]
  refine BR.lss r0 (fun h1=>?_) (fun h1=>absurd h1 (by omega))
  have h1':i<l.length:=by omega
  have hI:INB i N:=⟨i0,h1⟩
  have hB:INB b rn:=⟨b0,hrb h1'⟩
  rw[hi1 h1']
  refine ⟨hI,hI,hB,hB,⟨Nat.le_refl _⟩,LIM_iff.2 ⟨by omega,by omega⟩,NEXT.mk (hX ((some 1,[y]),i+1) _ _ ⟨by show (0:Int)≤i+1;omega,by show i+1≤N;omega,by show ((1:Nat):Int)=i+1;omega,?_,fun h=>by (cases h),fun k h=>by cases h;rfl⟩ (by show (N - (i+1)).toNat<(N - i).toNat;omega) (.inl ⟨rfl,rfl⟩))⟩
  show [y] ++ colL (l.drop (i+1).toNat) b=R
  rw[←i2,hO,hst h1',←hC,hyx];rfl
 ·have hk:k=O.length:=i5 k rfl
  have hvO:vw tR k O 0 k=O:=by rw[r18];exact vw_all (t:=tR) hk.symm
  have had:ad k 1=k+1:=by rw[r8]
  cbv
  try simp only[nc_eq]at *
  rw[hll,←hr,hrl,←hx]
  try rw[←hy]
  rw[hl1,had,hvO,hap]
  refine BR.lss r0 (fun h1=>?_) (fun h1=>?_)
  ·have h1':i<l.length:=by omega
   have hI:INB i N:=⟨i0,h1⟩
   have hB:INB b rn:=⟨b0,hrb h1'⟩
   rw[hi1 h1']
   refine ⟨hI,hI,hB,hB,⟨Nat.le_refl _⟩,LIM_iff.2 ⟨by omega,by omega⟩,NEXT.mk (hX ((some (k+1),O ++ [y]),i+1) _ _ ⟨by show (0:Int)≤i+1;omega,by show i+1≤N;omega,by show ((O ++ [y]).length:Int)=i+1;omega,?_,fun h=>by (cases h),fun k' h=>by cases h;show k+1=(O ++ [y]).length;omega⟩ (by show (N - (i+1)).toNat<(N - i).toNat;omega) (.inr ⟨[some 1],[],?_⟩))⟩
   ·show (O ++ [y]) ++ colL (l.drop (i+1).toNat) b=R
    rw[←i2,hst h1',←hC,hyx,List.append_assoc];rfl
   ·rw[SIM_iff];cbv;try simp[nlLe_self]
  ·have hRO:R=O:=by rw[←i2,hse (by omega),List.append_nil]
   have hkn:k=n:=by omega
   subst hkn
   rw[hRO]
   refine RET.mk ⟨[some 0],[],?_⟩
   rw[SIM_iff];cbv
   try simp[lstEq,nlLe_self]
structure COLK (l:List RS) (b:Int) (k:Nat→List RT→Prop):Prop where
 p:CLM l b
 n0:l≠[]
 h:∀ n C,n=l.length→C=colL l b→k n C
def spCol:OpsS→CallS:=fun _ _ ds st K=>match ds with
 | [.tl nl t l,.p (.v (.int .i64 b))]=>(match castL tRs t l with
  | some l=>COLK l b fun n C=>frS [] [] [.tl nl tRs l,.p (iv b)] ⟨[],[]⟩ (.ms 0 0 3 none n) ⟨[bxC n C],[]⟩ [.tl nl tRs l,.p (iv b)] st K
  | none=>False)
 | _=>False
theorem cColT:∀ ds st K,spCol OpsS.real 70 ds st K→FnS Tryz.prog 70 ds st K:=fun ds st K h=>by
 unfold spCol at h
 split at h <;> first | exact h.elim | skip
 split at h <;> first | exact h.elim | skip
 rename_i l0 b l hl
 obtain ⟨rfl,e⟩:=castL_eq hl
 obtain rfl:=eq_of_heq e
 exact frS_ok (cColM _ _ _ _ _ rfl rfl (List.length_pos_iff.2 h.n0) h.p) (h.h _ _ rfl rfl)
structure SRTK (n N:Nat) (l:List RT) (k:List RT→Prop):Prop where
 hN:N=n
 hl:l.length=n
 h0:0<n
 h1:n<4611686018427387904
 hv:∀ x∈l,VT x
 hk:∀ S,S=srtD (cpRs l)→k S
def spSort:OpsS→CallS:=fun _ _ ds st K=>match ds with
 | [.ms i 0 sz none n,.fn (.func g) [] []]=>(match nthD st.box i with
  | some B=>(match B.cells with
   | [.arr N t l]=>(match castL tR t l with
    | some l=>g=78∧sz=3∧B.fz=false∧B.m=false∧SRTK n N l fun S=>K (.p (.tup [])) { st with box:=st.box.set i { B with cells:=[.arr N tR S] } }
    | none=>False)
   | _=>False)
  | none=>False)
 | _=>False
theorem cSortT:∀ ds st K,spSort OpsS.real 77 ds st K→FnS Tryz.prog 77 ds st K:=fun ds st K h=>by
 unfold spSort at h
 split at h <;> first | exact h.elim | skip
 split at h <;> first | exact h.elim | skip
 split at h <;> first | exact h.elim | skip
 split at h <;> first | exact h.elim | skip
 rename_i i sz n g _ B hB _ N t l0 hc _ l hl
 obtain ⟨rfl,rfl,hf,hm,h⟩:=h
 obtain ⟨rfl,e⟩:=castL_eq hl
 obtain rfl:=eq_of_heq e
 obtain ⟨rfl,hl,h0,h1,hv,hk⟩:=h
 have hconc:∀ (B:BoxS) (X:List RT),X.length=N→B.cells=[.arr N tR X]→B.conc.cells=(tR.rows X).map .p:=fun B X hX hc=>by
  show concCs B.cells=_
  rw[hc]
  simp only[concCs_cons,concCs_nil,cellS,arrCells,List.append_nil]
  rw[Ty.norm_eq tR hX]
 have hdc:concL [DC.ms i 0 3 none N,DC.fn (.func 78) [] []]=[.ms i 0 N,.fn (.func 78) [] []]:=by simp[concL,DC.conc]
 show FnC _ _ (concL _) _ _
 rw[hdc]
 refine sortR_calls (B:=B.conc) (by show (st.box.map BoxS.conc)[i]? = _;rw[List.getElem?_map,←nthD_eq,hB];rfl) hf hm _ hl h0 h1 hv (hconc B _ hl hc) ?_
 refine KP.of (by simp[DC.conc]) ?_ (hk _ rfl)
 rw[StS.conc_set]
 congr 2
 have:=hconc { B with cells:=[.arr N tR (srtD (cpRs _))] } (srtD (cpRs _)) (by rw[srtD_len];unfold cpRs;rw[List.length_map];exact hl) rfl
 show _=BoxS.conc _
 simp only[BoxS.conc]at this ⊢
 rw[this]
def proL (l:List RS) (b:Int):List RT:=srtD (cpRs (colL l b))
structure PRF (l:List RS) (b:Int):Prop where
 c:CLM l b
 n0:l≠[]
 v:∀ x∈colL l b,VT x
theorem colL_len (l:List RS) (b:Int):(colL l b).length=l.length:=by unfold colL;rw[List.length_map]
theorem proL_len (l:List RS) (b:Int):(proL l b).length=l.length:=by unfold proL;rw[srtD_len];unfold cpRs;rw[List.length_map,colL_len]
theorem cProf (nl:Option Bool) (l:List RS) (b:Int) (h:PRF l b):PurS Tryz.prog 44 [injT (.sl tRs) (nl,l),injT tI b] (.tl none tR (proL l b)):=by
 refine PurS.of (S:=[]) (T:=[(70,_),(77,_)]) (U:=[]) (tbl:=[]) (n:=12) hm31 cfg .nil (.cons cColT (.cons cSortT .nil)) .nil .nil 0 Tryz.call44 Tryz.func44 (ac44_ok (some (0,0))) (by rw[Tryz.ntmps44];exact Nat.le_refl _) rfl ⟨_,rfl⟩ ?_
 intro cmp ar cv tn ic ai mx an ad ml sb mn ln em gt up ap sc vw cp rp p1 p2 s1 s2 X Y hX hY r0 r1 r2 r3 r4 r5 r6 r7 r8 r9 r10 r11 r12 r13 r14 r15 r16 r17 r18 r19 r20 r21 r22 r23 r24
 generalize hg0:proL=g0
 cbv
 refine ⟨h.c,h.n0,fun n C hn hC=>?_⟩
 cbv
 try simp only[nc_eq]at *
 have h1:=h.c.n
 have hnl:C.length=n:=by rw[hC,hn,colL_len]
 refine ⟨⟨⟨nlLe_self.2 trivial,trivial⟩,trivial⟩,SRTK.mk rfl hnl (by rw[hn];exact List.length_pos_iff.2 h.n0) (by omega) (by rw[hC];exact h.v) fun S hS=>?_⟩
 have hSp:S=proL l b:=by rw[hS,hC];rfl
 have hSl:S.length=n:=by rw[hSp,proL_len,hn]
 have hvR:vw tR n S 0 n=S:=by rw[r18];exact vw_all (t:=tR) hSl
 have had:ad 0 n=n:=by rw[r8];exact Nat.zero_add n
 have hg:S=g0 l b:=by rw[hSp,←hg0]
 cbv
 try simp only[nc_eq]at *
 rw[hvR,had]
 exact ⟨⟨Nat.le_refl _⟩,nlLe_none.2 trivial,hg⟩
end Go.Ab
