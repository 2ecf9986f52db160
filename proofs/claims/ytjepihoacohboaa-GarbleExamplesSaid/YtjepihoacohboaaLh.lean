/- slices.SortFunc on solutions. -/
import Derived.Test.YtjepihoacohboaaLg
import Derived.Shelf.SlSortCmp.Whole1
import Derived.Shelf.Lay
import Derived.Ground.SlsfProg
set_option linter.unusedSimpArgs false
set_option linter.unusedVariables false
set_option maxRecDepth 100000
set_option maxHeartbeats 8000000
namespace Go.Ab
open Go.Proofs
def cmpL:List Int→List Int→Int
 | x :: a,y :: b=>if x<y then -1 else if x>y then 1 else cmpL a b
 | [],_ :: _=>-1
 | [],[]=>0
 | _ :: _,[]=>1
theorem cmpL_lt:∀ {a b:List Int},cmpL a b<0↔lexL a b
 | [],[]=>by simp[cmpL,lexL]
 | [],_ :: _=>by simp[cmpL,lexL]
 | _ :: _,[]=>by simp[cmpL,lexL]
 | x :: a,y :: b=>by
  have ih:=cmpL_lt (a:=a) (b:=b)
  simp only[cmpL,lexL]
  split
  ·simp;omega
  ·split
   ·simp;omega
   ·rw[ih];constructor
    ·intro h;exact .inr ⟨by omega,h⟩
    ·rintro (h | ⟨_,h⟩)
     ·omega
     ·exact h
def cmpU (a b:Int):Int:=if a<b then -1 else if a>b then 1 else 0
theorem cCmpU (a b:Int):PurS Try.prog 71 [injT tB a,injT tB b] (.p (iv (cmpU a b))):=by
 refine PurS.of (S:=[]) (T:=[]) (U:=[]) (tbl:=[(91,ac91 none,[.tmp 2],6)]) (n:=20) hm11 cfg .nil .nil .nil (.cons Try.call91 Try.func91 (ac91_ok none) (by rw[Try.ntmps91];exact Nat.le_refl _) .nil) 6 Try.call71 Try.func71 (ac71_ok (some (0,0))) (by rw[Try.ntmps71];exact Nat.le_refl _) rfl ⟨_,rfl⟩ ?_
 intro cmp ar cv tn ic ai mx an ad ml sb mn ln em gt up ap sc vw cp rp p1 p2 s1 s2 X Y hX hY r0 r1 r2 r3 r4 r5 r6 r7 r8 r9 r10 r11 r12 r13 r14 r15 r16 r17 r18 r19 r20 r21 r22 r23 r24
 generalize hg0:cmpU=g0
 cbv
 have e1:a<b→-1=g0 a b:=fun h=>by rw[←hg0];simp[cmpU,h]
 have e2:¬ a<b→a>b→1=g0 a b:=fun h h'=>by rw[←hg0];simp[cmpU,h,h']
 have e3:¬ a<b→¬ a>b→0=g0 a b:=fun h h'=>by rw[←hg0];simp[cmpU,h,h']
 exact BR.nn r0 (BR.nn r0 (BR.lss r0 e1 fun h1=>BR.gtr r0 (e2 h1) (e3 h1)))
theorem cmpL_cons {a b:List Int} {i:Int} (h0:0≤i) (h1:i<a.length) (h2:i<b.length):cmpL (a.drop i.toNat) (b.drop i.toNat)=if cmpU (gtR tB a i) (gtR tB b i)≠0 then cmpU (gtR tB a i) (gtR tB b i) else cmpL (a.drop (i+1).toNat) (b.drop (i+1).toNat):=by
 rw[gtR_drop (t:=tB) h0 h1,gtR_drop (t:=tB) (l:=b) h0 h2]
 simp only[cmpL,cmpU]
 split
 ·rfl
 ·split <;> rfl
theorem cCmpL (na:Option Bool) (a:List Int) (nb:Option Bool) (b:List Int) (h:Short 2000 a):PurS Try.prog 47 [injT (.sl tB) (na,a),injT (.sl tB) (nb,b)] (.p (iv (cmpL a b))):=by
 refine PurS.of (S:=[(71,_)]) (T:=[]) (U:=[]) (tbl:=[]) (n:=36) hm11 cfg (.cons (spT2.ok (a:=(.int .u8)) (b:=(.int .u8)) (pre:=fun _ _=>True) fun x0 x1 _=>cCmpU x0 x1) .nil) .nil .nil .nil 0 Try.call47 Try.func47 (ac47_ok (some (0,0))) (by rw[Try.ntmps47];exact Nat.le_refl _) rfl ⟨_,rfl⟩ ?_
 intro cmp ar cv tn ic ai mx an ad ml sb mn ln em gt up ap sc vw cp rp p1 p2 s1 s2 X Y hX hY r0 r1 r2 r3 r4 r5 r6 r7 r8 r9 r10 r11 r12 r13 r14 r15 r16 r17 r18 r19 r20 r21 r22 r23 r24
 generalize hg0:cmpL=g0
 generalize hg1:cmpU=g1
 cbv
 have h:=h.h
 have hla:ic (ln tB a)=a.length:=by rw[r4,r12]
 have hlb:ic (ln tB b)=b.length:=by rw[r4,r12]
 obtain ⟨z,hz⟩:∃ z,z=g0 a b:=⟨_,rfl⟩
 rw[←hz,hla]
 obtain ⟨N,hN⟩:∃ N:Int,N=a.length:=⟨_,rfl⟩
 obtain ⟨M,hM⟩:∃ M:Int,M=b.length:=⟨_,rfl⟩
 rw[←hN]
 rw[←hN]at hla
 rw[←hM]at hlb
 refine LOOP.ind (σ:=Int) (fun i=>[(0,.tl na tB a),(1,.tl nb tB b),(9,.tl na tB a),(10,.p (iv N)),(11,.p (iv i))]) (fun _=>⟨[],[]⟩) (fun i=>(N - i).toNat) (fun i=>0≤i∧i≤N∧cmpL (a.drop i.toNat) (b.drop i.toNat)=z∧i≤M) 0 ⟨by omega,by omega,by rw[hz,←hg0];rfl,by omega⟩ (.inl ⟨rfl,rfl⟩) ?_
 intro i hI X' hX
 obtain ⟨hI1,hI2,hI3,hI4⟩:=hI
 obtain ⟨x,hx⟩:∃ x:Int,x=gt tB a i:=⟨_,rfl⟩
 obtain ⟨y,hy⟩:∃ y:Int,y=gt tB b i:=⟨_,rfl⟩
 have hst:i<N→i<M→z=if g1 x y≠0 then g1 x y else cmpL (a.drop (i+1).toNat) (b.drop (i+1).toNat):=fun h h'=>by
  rw[←hI3,cmpL_cons hI1 (by omega) (by omega),hg1,hx,hy,r14]
 have he1:i<N→¬ i<M→1=z:=fun h h'=>by
  rw[←hI3,gtR_drop (t:=tB) hI1 (by omega),gtR_end (l:=b) (by omega)];rfl
 have he2:¬ i<N→N<M→-1=z:=fun h h'=>by
  rw[←hI3,gtR_end (by omega),gtR_drop (t:=tB) (l:=b) hI1 (by omega)];rfl
 have he3:¬ i<N→¬ N<M→0=z:=fun h h'=>by
  rw[←hI3,gtR_end (by omega),gtR_end (l:=b) (by omega)];rfl
 have hadd:i<N→ar .add .i64 i 1=i+1:=fun h=>by rw[r1];exact wrap64 (n:=i+1) (by omega) (by omega)
 obtain ⟨w,hw⟩:∃ w,w=cmpL (a.drop (i+1).toNat) (b.drop (i+1).toNat):=⟨_,rfl⟩
 rw[←hw]at hst
 clear hI3
 cbv
 try simp only[nc_eq]at *
 rw[hla,hlb,←hx,←hy]
 refine BR.lss r0 (fun hc=>?_) (fun hc=>?_)
 ·have h1:INB i N:=⟨hI1,hc⟩
  rw[hadd hc]
  refine ⟨h1,h1,BR.geq r0 (fun h2=>he1 hc (by omega)) fun h2=>?_⟩
  have h3:INB i M:=⟨hI1,by omega⟩
  have hs:=hst hc (by omega)
  refine ⟨h3,h3,BR.neq r0 (fun h4=>?_) fun h4=>?_⟩
  ·rw[if_pos h4]at hs;exact hs.symm
  ·rw[if_neg h4]at hs
   exact NEXT.mk (hX (i+1) _ _ ⟨by omega,by omega,by rw[←hw];exact hs.symm,by omega⟩ (by show (N - (i+1)).toNat<(N - i).toNat;omega) (.inl ⟨rfl,rfl⟩))
 ·exact BR.lss r0 (he2 hc) (he3 hc)
theorem cCmpF (na:Option Bool) (a:List Int) (nb:Option Bool) (b:List Int) (h:Short 2000 a):PurS Try.prog 46 [injT (.sl tB) (na,a),injT (.sl tB) (nb,b)] (.p (iv (cmpL a b))):=by
 refine PurS.of (S:=[(47,_)]) (T:=[]) (U:=[]) (tbl:=[]) (n:=8) hm11 cfg (.cons (spT2.ok (a:=(.sl (.int .u8))) (b:=(.sl (.int .u8))) fun x0 x1 h=>cCmpL x0.1 x0.2 x1.1 x1.2 h) .nil) .nil .nil .nil 0 Try.call46 Try.func46 (ac46_ok (some (0,0))) (by rw[Try.ntmps46];exact Nat.le_refl _) rfl ⟨_,rfl⟩ ?_
 intro cmp ar cv tn ic ai mx an ad ml sb mn ln em gt up ap sc vw cp rp p1 p2 s1 s2 X Y hX hY r0 r1 r2 r3 r4 r5 r6 r7 r8 r9 r10 r11 r12 r13 r14 r15 r16 r17 r18 r19 r20 r21 r22 r23 r24
 generalize hg0:cmpL=g0
 cbv
 exact ⟨h,rfl⟩
end Go.Ab
namespace Go.Ab
open Go.Proofs Go.Sort Go.RowKit
theorem GR_of {w w':World} (h:BelowF w.heap.size w w'):∃ q os',w'=grow (w.drewN q) os':=by
 refine ⟨w'.drawn - w.drawn,w'.heap.extract w.heap.size w'.heap.size,?_⟩
 obtain ⟨⟨h1,h2,h3,h4,h5⟩,_,h6⟩:=h
 have hh:w'.heap=w.heap ++ w'.heap.extract w.heap.size w'.heap.size:=by
  apply Array.ext_getElem?
  intro k
  by_cases hk:k<w.heap.size
  ·rw[Array.getElem?_append_left hk];exact h5 k hk
  ·rw[Array.getElem?_append_right (by omega),Array.getElem?_extract]
   split
   ·congr 1;omega
   ·rw[Array.getElem?_eq_none];omega
 cases w;cases w'
 simp only[grow,World.drewN]at *
 subst h1 h2 h3
 rw[←hh]
 congr 1
 omega
theorem HR.sorted1 {α:Type} [Inhabited α] {P:Program} {c:Ctx} {E:Em} {st:St} {w:World} (hw:HR P c E st w) {i b:Nat} (hb:E.ι i=some b) {B:Box} (hB:st.box[i]? = some B) (hf:B.fz=false) (enc:α→Value) (ab:α→PD)
  (h1:∀ x,(enc x).oneCell'=true) (hR:∀ x,RP E.G (ab x) (enc x)) (d:Array α) (hc:B.cells=d.toList.map fun x=>.p (ab x)) {vs:Array Value} (hv:w.heap[b]? = some (.cells vs B.e (0,0))) (hvs:∀ j,j<d.size→vs[j]? = some (enc d[j]!)) :
  Holds enc w b 0 d∧∀ (d':Array α) (n:Nat) (os:Array Obj),d'.size=d.size→HR P c E { st with box:=st.box.set i { B with cells:=d'.toList.map fun x=>.p (ab x) } } (sortWorld enc w b 0 n d' os):=by
 have hl:B.cells.length=d.size:=by rw[hc,List.length_map];simp
 refine ⟨fun j hj=>⟨?_,?_⟩,fun d' n os hd=>?_⟩
 ·rw[Nat.zero_add,cell_of_row w b j vs B.e (0,0) hv];exact hvs j hj
 ·unfold World.frozen?
  simp only[hv]
  simp
 ·have hsz:d.size≤vs.size:=by
   rcases Nat.eq_zero_or_pos d.size with h | h
   ·omega
   ·have:=(Array.getElem?_eq_some_iff.1 (hvs (d.size - 1) (by omega))).1;omega
  have hset:=hw.setbox hb hB hf (d'.toList.map fun x=>.p (ab x)) vs (Go.Sort.putCells enc 0 d' vs) hv (by simp[Go.Sort.putCells]) (by
   rw[List.length_map];simp only[Go.Sort.putCells,Array.size_mapIdx,Array.length_toList];omega) (fun j hj=>by
   have hj2:j<d'.size:=by simpa using hj
   have hlt:j<vs.size:=by omega
   have e1:(Go.Sort.putCells enc 0 d' vs).getD j undef=enc d'[j]!:=by
    simp only[Array.getD_eq_getD_getElem?,Go.Sort.putCells,Array.getElem?_mapIdx,Array.getElem?_eq_getElem hlt,Option.map_some,Option.getD_some,Nat.zero_le,true_and,Nat.zero_add,hj2,if_true,Nat.sub_zero]
   have e2:(d'.toList.map fun x=>D.p (ab x)).getD j default=.p (ab d'[j]!):=by
    rw[getElem!_pos d' j hj2]
    simp[List.getD,hj2]
   rw[e1,e2]
   exact ⟨.p _ _ (hR _),h1 _⟩)
  have e2:sortWorld enc w b 0 n d' os=grow (Go.Sort.ahead (w.setRow b (Go.Sort.putCells enc 0 d' vs)) n) os:=by
   unfold sortWorld putRow
   congr 1
   show mapBlock (Go.Sort.ahead w n) b _=_
   rw[mapBlock_congr (Go.Sort.ahead w n) b _ (fun _=>Go.Sort.putCells enc 0 d' vs) (fun c' e fr h=>by
    have:w.heap[b]? = some (.cells c' e fr):=h
    rw[hv]at this
    cases this;rfl)]
   rfl
  rw[e2]
  refine hset.grown ⟨⟨rfl,rfl,rfl,?_,fun k' hk'=>?_⟩,fun a ha=>?_,Nat.le_add_right _ _⟩
  ·simp[grow,Go.Sort.ahead]
  ·show ((w.setRow b _).heap ++ os)[k']? = _
   rw[Array.getElem?_append_left hk']
  ·unfold World.frozen?
   have:(grow (Go.Sort.ahead (w.setRow b (Go.Sort.putCells enc 0 d' vs)) n) os).heap[a.block]? = (w.setRow b (Go.Sort.putCells enc 0 d' vs)).heap[a.block]?:=by
    show ((w.setRow b _).heap ++ os)[a.block]? = _
    rw[Array.getElem?_append_left ha]
   rw[this]
end Go.Ab
namespace Go.Proofs
open Go.Shelf Go.RowKit Go.Lib Go.Sort Go.Ab
shelf_lay_g SlLaysF.n6 Slsf 6 at Try 45 as Try.sortB
end Go.Proofs
namespace Go.Ab
open Go.Proofs Go.Sort Go.RowKit
theorem sorted_uniq:∀ {S S':List (List Int)},S'.Perm S→S.Pairwise lexL→S'.Pairwise (fun a b=>¬ lexL b a)→S'=S
 | [],S',hp,_,_=>hp.eq_nil
 | a :: S,[],hp,_,_=>absurd hp.symm.eq_nil (by simp)
 | a :: S,b :: S',hp,h1,h2=>by
  rw[List.pairwise_cons]at h1 h2
  have e:b=a:=by
   refine Decidable.byContradiction fun hne=>?_
   have ha:a∈S':=by
    rcases List.mem_cons.1 (hp.mem_iff.2 (List.mem_cons_self ..)) with h | h
    ·exact absurd h.symm hne
    ·exact h
   have hb:b∈S:=by
    rcases List.mem_cons.1 (hp.mem_iff.1 (List.mem_cons_self ..)) with h | h
    ·exact absurd h hne
    ·exact h
   exact h2.1 a ha (h1.1 b hb)
  subst e
  rw[sorted_uniq ((List.perm_cons _).1 hp) h1.2 h2.2]
theorem lexSWO {α:Type} (f:α→List Int):SWO (ltOf fun x y=>cmpL (f x) (f y)) where
 irrefl x:=decide_eq_false fun h=>lex_irrefl _ (cmpL_lt.1 h)
 trans x y z h1 h2:=decide_eq_true (cmpL_lt.2 (lex_trans (cmpL_lt.1 (of_decide_eq_true h1)) (cmpL_lt.1 (of_decide_eq_true h2))))
 ntrans x y z h1 h2:=by
  have n1:¬ lexL (f x) (f y):=fun h=>of_decide_eq_false h1 (cmpL_lt.2 h)
  have n2:¬ lexL (f y) (f z):=fun h=>of_decide_eq_false h2 (cmpL_lt.2 h)
  refine decide_eq_false fun h=>?_
  have h:=cmpL_lt.1 h
  by_cases h3:lexL (f y) (f x)
  ·exact n2 (lex_trans h3 h)
  ·rw[lex_total n1 h3]at h;exact n2 h
abbrev bitV (c:List Int):PD:=.sl (some false) c.length (c.map fun x=>.v (.int .u8 x))
theorem rows_bit (c:List Int):tB.rows c=c.map fun x=>.v (.int .u8 x):=by
 induction c with
 | nil=>rfl
 | cons x c ih=>show tB.cells x ++ tB.rows c=_;rw[ih];rfl
theorem rows_tTr (L:List (List Int)):tTr.rows (L.map fun c=>(some false,c))=L.map bitV:=by
 induction L with
 | nil=>rfl
 | cons c L ih=>
  rw[List.map_cons,List.map_cons]
  show tTr.cells (some false,c) ++ tTr.rows _=_
  rw[ih]
  show [PD.sl (some false) c.length (tB.rows c)] ++ _=_
  rw[rows_bit];rfl
theorem sortB_calls {st:St} {i n:Nat} {B:Box} (hB:st.box[i]? = some B) (hf:B.fz=false) (hm:B.m=false) (L S:List (List Int)) (hn:L.length=n) (h0:0<n) (hlt:n<4611686018427387904) (hl:∀ c∈L,c.length≤200)
  (hc:B.cells=L.map fun c=>.p (bitV c)) (hp:S.Perm L) (hs:S.Pairwise lexL) {K:D→St→Prop} (hK:K (.p (.tup [])) { st with box:=st.box.set i { B with cells:=S.map fun c=>.p (bitV c) } }) :
  FnC Try.prog 45 [.ms i 0 n,.fn (.func 46) [] []] st K:=by
 intro cx
 refine ⟨Try.call45,fun E w vs hw hgl hsz hR=>?_⟩
 obtain ⟨v0,v1,rfl⟩:∃ v0 v1,vs=#[v0,v1]:=⟨vs[0]'(by simp at hsz;omega),vs[1]'(by simp at hsz;omega),by
  apply Array.ext
  ·simpa using hsz
  ·intro k h1 h2
   have hk:k<2:=by simpa using h2
   match k,hk with
   | 0,_=>rfl
   | 1,_=>rfl⟩
 obtain ⟨b,cap,hN,hcap,hkap,rfl⟩:=(hR 0 (by simp)).ms_inv
 obtain ⟨us,ws,hv1,hus,hws,_,_⟩:=(hR 1 (by simp)).fn_inv
 obtain rfl:us=#[]:=Array.eq_empty_of_size_eq_zero (by simpa using hus)
 obtain rfl:ws=#[]:=Array.eq_empty_of_size_eq_zero (by simpa using hws)
 obtain rfl:v1=.func (.func 46) #[] #[]:=hv1
 have hb:=hw.live hN hB hf
 obtain ⟨B',vB,q1,q2,q3,q4,q5,q6,q7⟩:=hw.box i b hb
 obtain rfl:B=B':=by rw[hB]at q1;simpa using q1
 rw[objOf_cells vB hm]at q2
 have hcl:B.cells.length=n:=by rw[hc,List.length_map,hn]
 have hcell:∀ j,j<n→RP E.G (bitV (L.getD j [])) (vB.getD j undef)∧(vB.getD j undef).oneCell'=true∧(L.getD j []).length≤200:=fun j hj=>by
  have hjL:j<L.length:=by omega
  have h4:=q4 j (by omega)
  have e:B.cells.getD j default=.p (bitV (L.getD j [])):=by
   rw[hc,List.getD_eq_getElem?_getD,List.getElem?_map,List.getElem?_eq_getElem hjL,List.getD_eq_getElem?_getD,List.getElem?_eq_getElem hjL];rfl
  rw[e]at h4
  refine ⟨h4.1.p_inv,h4.2,?_⟩
  rw[List.getD_eq_getElem?_getD,List.getElem?_eq_getElem hjL]
  exact hl _ (List.getElem_mem hjL)
 let A:={ p:Value×List Int // RP E.G (bitV p.2) p.1∧p.1.oneCell'=true∧p.2.length≤200 }
 let d:Array A:=Array.ofFn fun j:Fin n=>⟨(vB.getD j undef,L.getD j []),hcell j j.2⟩
 letI:Inhabited A:=⟨⟨(vB.getD 0 undef,L.getD 0 []),hcell 0 h0⟩⟩
 have hd:d.size=n:=by simp[d]
 have hdj:∀ j,j<n→d[j]!.1=(vB.getD j undef,L.getD j []):=fun j hj=>by
  rw[getElem!_pos d j (by rw[hd];exact hj)]
  simp[d]
 have hdL:d.toList.map (fun x=>x.1.2)=L:=by
  apply List.ext_getElem
  ·simp[hd,hn]
  ·intro j h1 h2
   have hj:j<n:=by omega
   have:=congrArg Prod.snd (hdj j hj)
   rw[getElem!_pos d j (by rw[hd];exact hj)]at this
   rw[List.getElem_map,Array.getElem_toList,this,List.getD_eq_getElem?_getD,List.getElem?_eq_getElem h2];rfl
 have hcd:B.cells=d.toList.map fun x=>.p (bitV x.1.2):=by
  rw[hc]
  conv=>lhs;rw[←hdL]
  rw[List.map_map];rfl
 obtain ⟨hH,hS⟩:=hw.sorted1 hb hB hf (fun x:A=>x.1.1) (fun x:A=>bitV x.1.2) (fun x=>x.2.2.1) (fun x=>x.2.1) d hcd q2 (fun j hj=>by
  rw[hd]at hj
  rw[congrArg Prod.fst (hdj j hj)]
  have:j<vB.size:=by omega
  simp[this])
 have eg:∀ args w,(callFunc 46 args).run Try.prog w=.ok (.enter 46 args) w:=fun args w=>Try.call46 args w
 have hcon:=Any.slices_SortFunc Try.sortB (fun x:A=>x.1.1) (fun x=>x.2.2.1) (fun x y=>cmpL x.1.2 y.1.2) (lexSWO fun x:A=>x.1.2) 46 #[] b 0 cap d w eg (fun m os dk hs x y=>by
  have hW:=hS dk m os hs
  obtain ⟨z,hz,h⟩:=cCmpF none x.1.2 none y.1.2 ⟨by have:=x.2.2.2;omega⟩
  have e:z=.v (.int .i64 (cmpL x.1.2 y.1.2)):=by
   simp only[DC.conc,D.p.injEq]at hz
   exact hz.symm
  subst e
  have harg:∀ x:A,RD (noE E.G) (injT (.sl tB) (none,x.1.2)).conc x.1.1:=fun x=>by
   have h1:=x.2.1
   simp only[injT,DC.conc]
   refine .p _ _ ?_
   show RP E.G (.sl none x.1.2.length (tB.rows x.1.2)) _
   rw[rows_bit]
   exact h1.fl ⟨.inl rfl⟩
  refine (h.2 E.G _ #[x.1.1,y.1.1] hW.gok hgl rfl fun j hj=>?_).mono ?_
  ·match j,hj with
   | 0,_=>exact harg x
   | 1,_=>exact harg y
  ·rintro e w' ⟨v,G',rfl,_,_,_,hb',hx⟩
   cases hx with
   | v=>exact ⟨rfl,GR_of hb'⟩) hH (hw.ι_lt hb) (by omega)
 rw[hd]at hcon
 change Calls Try.prog 45 _ _ _ at hcon
 refine hcon.mono ?_
 rintro e w' ⟨rfl,d',m,os,hperm,hsort,rfl⟩
 have h2:=hS d' m os hperm.1
 have hd':d'.size=n:=hperm.1.trans hd
 have eS:d'.toList.map (fun x=>x.1.2)=S:=by
  refine sorted_uniq ?_ hs ?_
  ·have hpp:=hperm.2.2
   have e1:d'.extract 0 n=d':=by rw[←hd',Array.extract_size]
   have e2:d.extract 0 n=d:=by rw[←hd,Array.extract_size]
   rw[e1,e2]at hpp
   have:=hpp.map (fun x:A=>x.1.2)
   rw[hdL]at this
   exact this.trans hp.symm
  ·rw[List.pairwise_map,List.pairwise_iff_getElem]
   intro j k hj hk hjk
   have:=hsort j k (Nat.zero_le _) hjk (by simpa [hd'] using hk)
   rw[getElem!_pos d' j (by simpa using hj),getElem!_pos d' k (by simpa using hk)]at this
   exact fun h=>of_decide_eq_false this (cmpL_lt.2 h)
 have e3:(d'.toList.map fun x=>D.p (bitV x.1.2))=S.map fun c=>D.p (bitV c):=by
  rw[←eS,List.map_map];rfl
 rw[e3]at h2
 exact ⟨_,E,_,_,rfl,.refl E,h2,.p _ _ (.tup [] #[] rfl (fun i hi=>absurd hi (Nat.not_lt_zero _))),fun _ _ _ h=>absurd trivial h,hK⟩
end Go.Ab
