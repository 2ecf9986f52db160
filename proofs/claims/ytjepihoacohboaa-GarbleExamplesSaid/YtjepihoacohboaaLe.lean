/- The system of a guess. -/
import Derived.Test.YtjepihoacohboaaLd
set_option linter.unusedSimpArgs false
set_option linter.unusedVariables false
set_option maxRecDepth 20000
set_option maxHeartbeats 4000000
namespace Go.Ab
open Go.Proofs
theorem spOwn.okT {P:Program} {f:FuncId} {α:Type} {arg:List DC→Option α} {pre:α→Prop} {t:Ty} {e:TypeId} {l:α→List t.den} {sh:α→DC→DC} (hsh:∀ a,ShOK (sh a) t) (ha:∀ xs a,arg xs=some a→pre a→OwnL P f xs t e (l a) (sh a)) :
  ∀ (pl:List Nat) ds st K,spOwn arg pre t e l sh OpsS.real f ds st K→CT P pl f (concL ds) st.conc (KP K):=fun pl ds st K h=>by
 refine .inr ⟨fun _=>False,fun _ _ h=>h,fun c=>?_⟩
 unfold spOwn at h
 split at h <;> first | exact h.elim | skip
 rename_i xs p hv
 obtain ⟨hp,h⟩:=h
 split at h <;> first | exact h.elim | skip
 rename_i a hxa
 obtain ⟨hpre,hk⟩:=h
 have hview:ViewAs st.conc.box (concL ds) (concL xs):=by
  unfold viewT at hv
  split at hv
  ·rename_i ys hy
   simp only[Option.some.injEq,Prod.mk.injEq]at hv
   obtain ⟨rfl,rfl⟩:=hv
   exact pureA_viewA (pureN_as hy)
  ·exact viewN_as hv hp
 have ho:=ha xs a hxa hpre
 by_cases hl:l a=[]
 ·refine (ho.nil hl).cwV rfl hview ?_
  rw[(hsh a).nil]
  have:=hk.nil hl
  simp only[List.map_nil,List.append_nil]
  exact KP.mk this
 ·refine (ho.box hl).cwV rfl hview ?_
  rw[(hsh a).box,StS.box_len]
  have:=hk.box _ hl rfl
  refine ⟨_,_,rfl,?_,this⟩
  simp only[StS.conc,List.map_append,List.map_cons,List.map_nil,BoxS.conc,Box.shift,arr_shift]
def shI (d:DC):DC:=d
theorem shI.ok (t:Ty):ShOK shI t:=⟨fun k=>by
  simp only[shI,DC.conc]
  show D.shift k (.p (.sl (some true) 0 []))=.p (.sl (some true) 0 [])
  simp[D.shift],fun k N=>by
  simp only[shI,DC.conc]
  show D.shift k (.ms 0 (0+0*t.size) N)=.ms k (0+0*t.size) N
  simp[D.shift]⟩
theorem OWD.msI {t:Ty} {e:TypeId} {l:List t.den} {d:DC} {bs:List BoxS} {st:StS} (h:OWD t e l d bs) {b n:Nat} {B:BoxS} (hl:l≠[]) (hn:n=l.length) (hb:nthD st.box b=some B) (hc:B.cells=[.arr l.length t l]) (hz:B.fz=false) (he:B.e=e) (hf:(t.rows l).all flatP=true):OWNF d bs (.ms b 0 t.size none n) st:=by
 rcases h.h with ⟨h,_,_⟩ | ⟨h,rfl,rfl⟩
 ·exact absurd h hl
 ·subst hn he
  refine ⟨_,?_,bx_box hb hc hz hf⟩
  simp only[DC.conc]
  show Ren _ (.ms b (0+0*t.size) l.length) (.ms 0 (0+0*t.size) l.length)
  simp only[Ren]
  exact ⟨0,rfl,by simp⟩
theorem RP.nonnil {G:Mem} {nl:Option Bool} {n:Nat} {cells:List PD} {u:Value} (h:RP G (.sl nl n cells) u) (hn:0<n):RP G (.sl (some false) n cells) u:=by
 rcases h.sl_inv with ⟨_,h0,_⟩ | ⟨b,o,sp,cap,us,rfl,h1,h2,h3,h4,h5⟩
 ·omega
 ·exact .sl' _ _ _ b o cap us sp (by simp) h1 h3 h4 h5
theorem tl_nonnil {E:Em} {nl:Option Bool} {t:Ty} {l:List t.den} (hl:l≠[]) {u:Value} (h:RD E (DC.tl nl t l).conc u):RD E (DC.tl (some false) t l).conc u:=by
 simp only[DC.conc]at h ⊢
 exact .p _ _ (h.p_inv.nonnil (List.length_pos_iff.2 hl))
theorem OwnFn.weak {P:Program} {f:FuncId} {args args':List D} {d:D} {bs:List Box} (h:OwnFn P f args d bs) (hl:args'.length=args.length) (ha:∀ E i u,i<args.length→RD E (args'.getD i default) u→RD E (args.getD i default) u):OwnFn P f args' d bs:=
 ⟨h.1,fun G w vs hG hgl hs hR=>h.2 G w vs hG hgl (hs.trans hl) fun i hi=>ha _ _ _ hi (hR i (by omega))⟩
theorem cCloneO' (l:List Int) (hl:l≠[]) (h:Short 2000 l):OwnL Try.prog 50 ([injT (.sl tB) (some false,l)]) (tB) 5 (l) (shI):=by
 refine OwnL.of fun d bs hD=>OwnS.of (S:=[]) (T:=[]) (U:=[]) (tbl:=[]) (n:=8) hm11 cfg .nil .nil .nil .nil 0 Try.call50 Try.func50 (ac50_ok (some (0,0))) (by rw[Try.ntmps50];exact Nat.le_refl _) rfl _ _ ?_
 intro cmp ar cv tn ic ai mx an ad ml sb mn ln em gt up ap sc vw cp rp p1 p2 s1 s2 X Y hX hY r0 r1 r2 r3 r4 r5 r6 r7 r8 r9 r10 r11 r12 r13 r14 r15 r16 r17 r18 r19 r20 r21 r22 r23 r24
 cbv
 have hz:ad 0 (ln tB l)=l.length:=by rw[r8,r12];exact Nat.zero_add _
 have hc:ap tB (vw tB 0 [] 0 0) l=l:=by rw[r16,r18];rfl
 have h:=h.h
 rw[hz,hc]
 exact BR.mk (fun h=>by cases h) fun _=>⟨⟨Nat.le_refl _⟩,LIM_iff.2 ⟨by omega,by omega⟩,hD.msI hl rfl rfl rfl rfl rfl (rows_int l)⟩
theorem cCloneO (nb:Option Bool) (l:List Int) (hl:l≠[]) (h:Short 2000 l):OwnL Try.prog 50 [injT (.sl tB) (nb,l)] tB 5 l shI:=
 ⟨fun e=>absurd e hl,fun _=>((cCloneO' l hl h).box hl).weak rfl fun E i u hi hr=>by
  match i,hi with
  | 0,_=>exact tl_nonnil (nl:=nb) hl hr⟩
abbrev tRw:Ty:=.pair tI tC
def sysS (x:Int) (nb:Option Bool) (b:List Int) (M:Nat) (B P:List Int) (R:List tRw.den) (F:List tC.den):List BoxS:=
 [{ cells:=[.p (iv x),.tl nb tB b],e:=24,fz:=false },{ cells:=[.arr M tB B],e:=5,fz:=false },{ cells:=[.p (iv x),.tl nb tB b,.ms 1 0 1 none M,.og 0 tI P,.arr 24 tRw R,.og 1 tC F],e:=75,fz:=false }]
def tCloneB:OpsS→List Nat→CallS:=fun o _=>spOwn (argT1 (.sl tB)) (fun a=>a.2≠[]∧Short 2000 a.2) tB 5 (fun a=>a.2) (fun _=>shI) o
theorem tCloneB_ok:∀ pl ds st K,tCloneB OpsS.real pl 50 ds st K→CT Try.prog pl 50 (concL ds) st.conc (KP K):=fun pl ds st K=>spOwn.okT (fun _=>shI.ok tB) (argT1.ok (a:=.sl tB) (Q:=fun xs a=>(a.2≠[]∧Short 2000 a.2)→OwnL Try.prog 50 xs tB 5 a.2 shI) (fun xs ys a he h hp=>(h hp).cong he) fun a hp=>cCloneO a.1 a.2 hp.1 hp.2) pl ds st K
def plD (l:List Nat):List Int:=l.map fun n:Nat=>(n:Int)
def rowD (r:Nat×Nat):tRw.den:=(r.1,c0 r.2,c1 r.2)
def rowsD (l:ROWS2):List tRw.den:=l.map rowD
def setD' (x:Nat):tC.den:=(c0 x,c1 x)
def freeD (l:List Nat):List tC.den:=l.map setD'
def stB (b:List Int) (i:Nat):List Int:=gbase (b.take i) ++ b.drop i
def stP (b:List Int) (i:Nat):List Int:=plD (gplaces (b.take i) 0)
theorem gplaces_app:∀ (l r:List Int) (o:Nat),gplaces (l ++ r) o=gplaces l o ++ gplaces r (o+l.length)
 | [],r,o=>by simp[gplaces]
 | x :: l,r,o=>by
  have ih:=gplaces_app l r (o+1)
  simp only[List.cons_append,gplaces,List.length_cons,ih,show o+(l.length+1)=o+1+l.length by omega]
  split <;> rfl
theorem take_one {b:List Int} {i:Nat} (h:i<b.length):b.take (i+1)=b.take i ++ [b.getD i 0]:=by
 rw[List.take_add_one,List.getElem?_eq_getElem h,List.getD_eq_getElem?_getD,List.getElem?_eq_getElem h];rfl
theorem drop_one {b:List Int} {i:Nat} (h:i<b.length):b.drop i=b.getD i 0 :: b.drop (i+1):=by
 rw[List.drop_eq_getElem_cons h,List.getD_eq_getElem?_getD,List.getElem?_eq_getElem h];rfl
theorem stB_len (b:List Int) (i:Nat):(stB b i).length=b.length:=by
 simp only[stB,List.length_append,gbase_len,List.length_take,List.length_drop];omega
theorem stB_two {b:List Int} {i:Nat} (h:i<b.length) (h2:b.getD i 0=2):(stB b i).set i 0=stB b (i+1):=by
 unfold stB
 rw[take_one h,drop_one h,h2]
 have e:(gbase (b.take i)).length=i:=by rw[gbase_len,List.length_take];omega
 rw[List.set_append_right _ _ (by omega),e,Nat.sub_self,List.set_cons_zero]
 simp[gbase]
theorem stB_not {b:List Int} {i:Nat} (h:i<b.length) (h2:b.getD i 0≠2):stB b (i+1)=stB b i:=by
 unfold stB
 rw[take_one h,drop_one h]
 simp only[gbase,List.map_append,List.map_cons,List.map_nil,if_neg h2,List.append_assoc,List.singleton_append]
theorem stP_two {b:List Int} {i:Nat} (h:i<b.length) (h2:b.getD i 0=2):stP b (i+1)=stP b i ++ [(i:Int)]:=by
 have e:(b.take i).length=i:=by rw[List.length_take];omega
 unfold stP plD
 rw[take_one h,h2,gplaces_app,e];simp[gplaces]
theorem stP_not {b:List Int} {i:Nat} (h:i<b.length) (h2:b.getD i 0≠2):stP b (i+1)=stP b i:=by
 unfold stP plD
 rw[take_one h,gplaces_app];simp only[gplaces,if_neg h2,List.append_nil]
theorem stP_len (b:List Int) (i:Nat):(stP b i).length≤b.length:=by
 unfold stP plD
 rw[List.length_map]
 have:=gplaces_len (b.take i) 0
 rw[List.length_take]at this;omega
structure OFP (b:List Int):Prop where
 gv:GV b
 l0:24≤b.length
 l1:b.length≤112
theorem shl1U {k:Nat} (h:k<64):arR .shl .u64 1 (k:Int)=((2 ^ k:Nat):Int):=by
 have hp:2 ^ k<2 ^ 64:=Nat.pow_lt_pow_right (by decide) h
 have hmin:min ((k:Nat):Int).toNat (IntKind.bits .u64)=k:=by
  rw[Int.toNat_natCast];exact Nat.min_eq_left (Nat.le_of_lt h)
 show IntKind.wrap .u64 (1*2 ^ min ((k:Nat):Int).toNat (IntKind.bits .u64))=_
 rw[hmin,Int.one_mul,show ((2:Int) ^ k)=((2 ^ k:Nat):Int) by rw[Int.natCast_pow];rfl]
 exact wrap_u64 (Int.natCast_nonneg _) (by omega)
theorem c0_lo {k:Nat} (h:k<64):c0 (2 ^ k)=((2 ^ k:Nat):Int):=by
 have hp:2 ^ k<2 ^ 64:=Nat.pow_lt_pow_right (by decide) h
 unfold c0;rw[Nat.mod_eq_of_lt hp]
theorem c1_lo {k:Nat} (h:k<64):c1 (2 ^ k)=0:=by
 have hp:2 ^ k<2 ^ 64:=Nat.pow_lt_pow_right (by decide) h
 unfold c1;rw[Nat.div_eq_of_lt hp];rfl
theorem c0_hi {k:Nat} (h:64≤k):c0 (2 ^ k)=0:=by
 unfold c0
 rw[show (18446744073709551616:Nat)=2 ^ 64 by rfl,show 2 ^ k=2 ^ 64*2 ^ (k - 64) by rw[←Nat.pow_add];congr 1;omega,Nat.mul_mod_right];rfl
theorem c1_hi {k:Nat} (h:64≤k):c1 (2 ^ k)=((2 ^ (k - 64):Nat):Int):=by
 unfold c1
 rw[show (18446744073709551616:Nat)=2 ^ 64 by rfl,show 2 ^ k=2 ^ 64*2 ^ (k - 64) by rw[←Nat.pow_add];congr 1;omega,Nat.mul_div_cancel_left _ (Nat.two_pow_pos 64)]
theorem red_fuel {rows:Nat→Nat×Nat} (hr:∀ h,(rows h).1≠0→(rows h).1.log2=h):∀ (n m:Nat) (p:Nat×Nat),p.1<2 ^ n→n≤m→red rows m p=red rows n p
 | 0,m,p,h,_=>by
  have h0:p.1=0:=by simpa using h
  cases m with
  | zero=>rfl
  | succ m=>simp only[red,h0,true_or,if_true]
 | n+1,0,p,_,h=>by omega
 | n+1,m+1,p,h,hm=>by
  simp only[red]
  split
  ·rfl
  ·rename_i hc
   rw[not_or]at hc
   have hlt:=xor_log2 hc.1 hc.2 (hr _ hc.2).symm
   have hln:p.1.log2≤n:=by have:=log2_lt' h hc.1;omega
   exact red_fuel hr n m _ (Nat.lt_of_lt_of_le hlt (Nat.pow_le_pow_right (by decide) hln)) (by omega)
theorem red_next {rows:Nat→Nat×Nat} (hr:∀ h,(rows h).1≠0→(rows h).1.log2=h) {v c:Nat} (hv:v<2 ^ 24) (h0:v≠0) (h1:(rows v.log2).1≠0) :
  red rows 24 (v ^^^ (rows v.log2).1,c ^^^ (rows v.log2).2)=red rows 24 (v,c)∧v ^^^ (rows v.log2).1<v:=by
 have hlt:=xor_log2 h0 h1 (hr _ h1).symm
 have hln:v.log2≤23:=by have:=log2_lt' hv h0;omega
 refine ⟨?_,Nat.lt_of_lt_of_le hlt (Nat.log2_self_le h0)⟩
 rw[red_fuel hr 23 24 _ (Nat.lt_of_lt_of_le hlt (Nat.pow_le_pow_right (by decide) hln)) (by decide)]
 have e:red rows 24 (v,c)=if v=0∨(rows v.log2).1=0 then (v,c) else red rows 23 (v ^^^ (rows v.log2).1,c ^^^ (rows v.log2).2):=rfl
 rw[e,if_neg (by rw[not_or];exact ⟨h0,h1⟩)]
theorem red_end {rows:Nat→Nat×Nat} {v c:Nat} (h:v=0∨(rows v.log2).1=0):red rows 24 (v,c)=(v,c):=by
 have e:red rows 24 (v,c)=if v=0∨(rows v.log2).1=0 then (v,c) else red rows 23 (v ^^^ (rows v.log2).1,c ^^^ (rows v.log2).2):=rfl
 rw[e,if_pos h]
theorem rowsD_len (l:ROWS2):(rowsD l).length=l.length:=by simp[rowsD]
theorem rowsD_get {l:ROWS2} {h:Nat} (hh:h<l.length):gtR tRw (rowsD l) (h:Int)=rowD (rowF l h):=by
 show (rowsD l).getD (Int.toNat (h:Int)) _=_
 unfold rowsD rowF
 rw[Int.toNat_natCast,List.getD_eq_getElem?_getD,List.getElem?_map,List.getElem?_eq_getElem hh,List.getD_eq_getElem?_getD,List.getElem?_eq_getElem hh];rfl
theorem rowsD_set {l:ROWS2} (hl:l.length=24) (h v c:Nat):upR tRw 24 (rowsD l) (h:Int) ((v:Int),c0 c,c1 c)=rowsD (l.set h (v,c)):=by
 unfold upR
 rw[Ty.norm_eq tRw (by rw[rowsD_len,hl]),Int.toNat_natCast]
 unfold rowsD
 rw[List.map_set];rfl
theorem elim_len (cs:List Nat):∀ k,(elim cs k).2.length≤k
 | 0=>Nat.le_refl _
 | k+1=>by
  have:=elim_len cs k
  show (estep (elim cs k) k (cs.getD k 0)).2.length≤k+1
  unfold estep
  simp only
  split
  ·simp only[List.length_append,List.length_singleton];omega
  ·simp only;omega
theorem cOf (x:Int) (nb:Option Bool) (b B P:List Int) (R:List tRw.den) (F:List tC.den) (h:OFP b) (hB:B=gbase b) (hP:P=plD (gplaces b 0)) (hR:R=rowsD (elimG b).1) (hF:F=freeD (elimG b).2) (M p' f':Nat) (hM:M=b.length) (hp':p'=P.length) (hf':f'=F.length*2):FnS Try.prog 40 ([injT tG (x,nb,b)]) (⟨[],[]⟩) fun x_ s_=>x_=(.ptr 2 0)∧s_=(⟨sysS x nb b M B P R F,[(p',3),(f',67)]⟩):=by
 refine FnS.of (S:=[(25,_),(62,_),(63,_)]) (T:=[]) (U:=[(50,_)]) (tbl:=[]) (n:=133) hm11 cfg (.cons (spT1.ok (a:=(.sl (.int .u8))) fun x0 h=>cAddrP x0.1 x0.2 h) (.cons (spT1.ok (a:=(.int .u64)) fun x0 h=>cLen x0 h) (.cons (spT2.ok (a:=(.pair (.int .u64) (.int .u64))) (b:=(.pair (.int .u64) (.int .u64))) fun x0 x1 h=>cWith x0.1 x0.2 x1.1 x1.2 h) .nil))) .nil (.cons tCloneB_ok .nil) .nil 0 Try.call40 Try.func40 (ac40_ok (some (0,0))) (by rw[Try.ntmps40];exact Nat.le_refl _) rfl _ _ _ (by rfl) ?_
 intro cmp ar cv tn ic ai mx an ad ml sb mn ln em gt up ap sc vw cp rp p1 p2 s1 s2 X Y hX hY r0 r1 r2 r3 r4 r5 r6 r7 r8 r9 r10 r11 r12 r13 r14 r15 r16 r17 r18 r19 r20 r21 r22 r23 r24
 generalize hg0:adrV=g0
 generalize hg1:adrE=g1
 generalize hg2:lenB=g2
 generalize hg3:xU=g3
 cbv
 obtain ⟨hgv,hl0,hl1⟩:=h
 have hbne:b≠[]:=fun e=>by subst e;simp at hl0
 refine ⟨⟨hbne,⟨by omega⟩⟩,OWNK.mk (fun e=>absurd e hbne) fun N _ hN=>?_⟩
 subst hN
 obtain ⟨N,hN⟩:∃ N:Int,N=b.length:=⟨_,rfl⟩
 rw[←hM]
 have hla:ic (ln tB b)=N:=by rw[r4,r12,hN]
 obtain ⟨R0,hR0⟩:∃ R0,R0=rowsD (List.replicate 24 (0,0)):=⟨_,rfl⟩
 have hR0':R0=[(0,0,0),(0,0,0),(0,0,0),(0,0,0),(0,0,0),(0,0,0),(0,0,0),(0,0,0),(0,0,0),(0,0,0),(0,0,0),(0,0,0),(0,0,0),(0,0,0),(0,0,0),(0,0,0),(0,0,0),(0,0,0),(0,0,0),(0,0,0),(0,0,0),(0,0,0),(0,0,0),(0,0,0)]:=by rw[hR0];rfl
 cbv
 try simp only[nc_eq]at *
 rw[hla,←hR0']
 refine LOOP.ind (σ:=Int×List Int×List Int) (fun (i,B',P')=>[(1,.ptr 0 0),(3,.ptr 2 0),(20,.tl nb tB b),(21,.p (iv N)),(22,.p (iv i))])
  (fun (i,B',P')=>⟨[{ cells:=[.p (iv x),.tl nb tB b],e:=24,fz:=false },{ cells:=[.arr M tB B'],e:=5,fz:=false },{ cells:=[.p (iv x),.tl nb tB b,.ms 1 0 1 none M,.og 0 tI P',.arr 24 tRw R0,.og 1 tC []],e:=75,fz:=false }],[(ml (ln tI P') 1,3),(0,67)]⟩)
  (fun (i,_,_)=>(N - i).toNat) (fun (i,B',P')=>0≤i∧i≤N∧B'=stB b i.toNat∧P'=stP b i.toNat) (0,b,[]) ⟨by omega,by show (0:Int)≤N;omega,rfl,rfl⟩ (.inr ⟨[some 0,some 1,some 2],[none,none],?_⟩) ?_
 ·rw[SIM_iff];cbv;simp[nlLe_self]
 intro ⟨i,B',P'⟩ hI X' hX
 obtain ⟨hI1,hI2,hI3,hI4⟩:=hI
 have hBl:B'.length=M:=by rw[hI3,stB_len,hM]
 have hPl:P'.length≤112:=by rw[hI4];have:=stP_len b i.toNat;omega
 obtain ⟨y,hy⟩:∃ y:Int,y=gt tB b i:=⟨_,rfl⟩
 have hyg:i<N→b.getD i.toNat 0=y:=fun h=>by rw[hy,r14];rfl
 have hadd:i<N→ar .add .i64 i 1=i+1:=fun h=>by rw[r1];exact wrap64 (n:=i+1) (by omega) (by omega)
 have hup:up tB M B' i 0=B'.set i.toNat 0:=by
  rw[r15];unfold upR;rw[Ty.norm_eq tB hBl]
 have hap:ap tI P' [i]=P' ++ [i]:=by rw[r16]
 have hlp:ad (ln tI P') (ln tI [i])=P'.length+1:=by rw[r8,r12];rfl
 have hnt:(i+1).toNat=i.toNat+1:=by omega
 have hend:¬ i<N→B'=B∧P'=P:=fun h=>by
  have hi:i.toNat=b.length:=by omega
  refine ⟨by rw[hI3,hB,hi];unfold stB;rw[List.take_length,List.drop_length,List.append_nil],by rw[hI4,hP,hi];unfold stP;rw[List.take_length]⟩
 have hM':ic M=N:=by rw[r4];show (M:Int)=N;omega
 obtain ⟨m,hm⟩:∃ m:Int,m=P.length:=⟨_,rfl⟩
 have hmP:ic (ln tI P)=m:=by rw[r4,r12,hm]
 have hml0:0=ml (ln tC []) 2:=by rw[r9,r12];rfl
 cbv
 try simp only[nc_eq]at *
 rw[←hy,hla,hM',hup,hap,hlp]
 refine BR.lss r0 (fun hc=>?_) (fun hc=>?_)
 ·have h1:INB i N:=⟨hI1,hc⟩
  have hlt:i.toNat<b.length:=by omega
  rw[hadd hc]
  refine ⟨h1,h1,BR.eql r0 (fun h=>?_) (fun h=>?_)⟩
  ·have e:=hyg hc
   rw[h]at e
   refine ⟨h1,h1,⟨rfl⟩,LIM_iff.2 ⟨by omega,by omega⟩,NEXT.mk (hX (i+1,_,_) _ _ ⟨by omega,by omega,?_,?_⟩ (by show (N - (i+1)).toNat<(N - i).toNat;omega) (.inl ⟨rfl,rfl⟩))⟩
   ·rw[hI3,stB_two hlt e,hnt]
   ·rw[hI4,hnt,stP_two hlt e,show ((i.toNat:Nat):Int)=i by omega]
  ·have e:b.getD i.toNat 0≠2:=by rw[hyg hc];exact h
   refine NEXT.mk (hX (i+1,_,_) _ _ ⟨by omega,by omega,?_,?_⟩ (by show (N - (i+1)).toNat<(N - i).toNat;omega) (.inl ⟨rfl,rfl⟩))
   ·rw[hI3,hnt,stB_not hlt e]
   ·rw[hI4,hnt,stP_not hlt e]
 obtain ⟨rfl,rfl⟩:=hend hc
 clear hend hlp hap hup hadd hyg hy y hI3 hI4 hI1 hI2 hX X' hc hnt i hPl
 rw[hmP]
 obtain ⟨cs,hcs⟩:∃ cs,cs=colsG b:=⟨_,rfl⟩
 have hcl:cs.length=P'.length:=by rw[hcs,hP];unfold colsG plD;simp
 have hcl':P'.length≤112:=by rw[hP];unfold plD;rw[List.length_map];have:=gplaces_len b 0;omega
 refine LOOP.ind (σ:=Int×List tRw.den×List tC.den) (fun (k,_,_)=>[(1,.ptr 0 0),(3,.ptr 2 0),(49,.og 0 tI P'),(50,.p (iv m)),(51,.p (iv k))])
  (fun (k,R',F')=>⟨[{ cells:=[.p (iv x),.tl nb tB b],e:=24,fz:=false },{ cells:=[.arr M tB B'],e:=5,fz:=false },{ cells:=[.p (iv x),.tl nb tB b,.ms 1 0 1 none M,.og 0 tI P',.arr 24 tRw R',.og 1 tC F'],e:=75,fz:=false }],[(ml (ln tI P') 1,3),(ml (ln tC F') 2,67)]⟩)
  (fun (k,_,_)=>(m - k).toNat) (fun (k,R',F')=>0≤k∧k≤m∧R'=rowsD (elim cs k.toNat).1∧F'=freeD (elim cs k.toNat).2) (0,R0,[]) ⟨by omega,by show (0:Int)≤m;omega,hR0,rfl⟩ (.inr ⟨[some 0,some 1,some 2],[some 0,some 1],?_⟩) ?_
 ·rw[SIM_iff];cbv;simp[nlLe_self,hml0]
 intro ⟨k,R',F'⟩ hI X' hX
 obtain ⟨hI1,hI2,hI3,hI4⟩:=hI
 obtain ⟨at',hat⟩:∃ y:Int,y=gt tI P' k:=⟨_,rfl⟩
 obtain ⟨p,hp⟩:∃ p:Nat,p=(gplaces b 0).getD k.toNat 0:=⟨_,rfl⟩
 have hml:(gplaces b 0).length=P'.length:=by rw[hP];unfold plD;simp
 have hatp:k<m→at'=p∧p<b.length:=fun h=>by
  have hk:k.toNat<(gplaces b 0).length:=by omega
  have hpe:p=(gplaces b 0)[k.toNat]:=by rw[hp,List.getD_eq_getElem?_getD,List.getElem?_eq_getElem hk];rfl
  refine ⟨?_,?_⟩
  ·rw[hat,r14,hP]
   show (plD (gplaces b 0)).getD k.toNat 0=_
   unfold plD
   rw[List.getD_eq_getElem?_getD,List.getElem?_map,List.getElem?_eq_getElem hk,hpe];rfl
  ·rw[hpe];exact (gmem.1 (List.getElem_mem hk)).1
 have htn:tn N=M:=by rw[r3];omega
 have hun:k<m→up tB M (rp tB M 0) at' 1=unitL M p:=fun h=>by
  rw[r15,r20,(hatp h).1]
  unfold upR unitL
  rw[Ty.norm_eq tB (by simp),Int.toNat_natCast]
 have hvw:vw tB M (unitL M p) 0 M=unitL M p:=by rw[r18];exact vw_all (t:=tB) (unit_len _ _)
 have hadr:k<m→g0 (unitL M p)=(cs.getD k.toNat 0:Nat):=fun h=>by
  have hbt:bitsE (unitL M p)=0:=by
   unfold bitsE
   rw[unit_len,if_neg (by omega),bigB_bit (BITS.unit M p)];rfl
  rw[←hg0]
  unfold adrV
  have hk:k.toNat<(gplaces b 0).length:=by omega
  rw[if_pos (by unfold adrE;rw[if_neg (by rw[hbt];decide),if_neg (by rw[unit_len];omega)]),hcs]
  unfold colsG
  rw[List.getD_eq_getElem?_getD,List.getElem?_map,List.getElem?_eq_getElem hk,hM]
  have hpe:p=(gplaces b 0)[k.toNat]:=by rw[hp,List.getD_eq_getElem?_getD,List.getElem?_eq_getElem hk];rfl
  rw[hpe];rfl
 have had:ad 0 M=M:=by rw[r8];exact Nat.zero_add M
 have hq:=fun h=>quo64 (k:=k) hI1 h
 have hr:=fun h=>rem64 (k:=k) hI1 h
 obtain ⟨U,hU⟩:∃ U,U=ar .shl .u64 1 (ar .rem .i64 k 64):=⟨_,rfl⟩
 have hU0:k<64→U=c0 (2 ^ k.toNat)∧0=c1 (2 ^ k.toNat):=fun h=>by
  rw[hU,r1,hr (by omega),if_pos h,shl1U (by omega)];exact ⟨(c0_lo (by omega)).symm,(c1_lo (by omega)).symm⟩
 have hU1:¬ k<64→k<128→0=c0 (2 ^ k.toNat)∧U=c1 (2 ^ k.toNat):=fun h h'=>by
  rw[hU,r1,hr h',if_neg h,shl1U (by omega)];exact ⟨(c0_hi (by omega)).symm,(c1_hi (by omega)).symm⟩
 cbv
 try simp only[nc_eq]at *
 rw[hmP,hla,htn,hM',←hat]
 refine BR.lss r0 (fun hc=>?_) (fun hc=>?_)
 ·rw[hun hc,hvw,had,←hU]
  obtain ⟨ha1,ha2⟩:=hatp hc
  refine ⟨⟨hI1,hc⟩,⟨hI1,hc⟩,MK_iff.2 ⟨by omega,by omega,by omega,by omega⟩,⟨by omega,by omega⟩,⟨by omega,by omega⟩,⟨⟨Nat.le_refl _⟩,trivial⟩,⟨by rw[unit_len];simp only[maxLen];omega,fun y hy=>?_⟩,⟨by decide⟩,⟨by decide⟩,?_,?_,?_,?_⟩
  ·rcases BITS.unit M p y hy with rfl | rfl <;> decide
  ·rw[r1,hr (by omega)];exact ⟨by omega⟩
  ·rw[r1,r4,hq (by omega)];split <;> exact ⟨by decide,by decide⟩
  all_goals
   refine CASE.mk fun hcase=>?_
   rw[r1,hq (by omega)]at hcase
   rw[hadr hc]
   obtain ⟨A0,A1,hA0,hA1⟩:∃ A0 A1:Int,A0=c0 (2 ^ k.toNat)∧A1=c1 (2 ^ k.toNat):=⟨_,_,rfl,rfl⟩
   have hAA:(k<64→U=A0∧0=A1)∧(¬ k<64→0=A0∧U=A1):=by
    rw[hA0,hA1];exact ⟨hU0,fun h=>hU1 h (by omega)⟩
   obtain ⟨w,hw⟩:∃ w:Nat,w=cs.getD k.toNat 0:=⟨_,rfl⟩
   obtain ⟨W,hW⟩:∃ W:Int,W=w:=⟨_,rfl⟩
   rw[←hw,←hW]
   have hcsb:∀ c∈cs,c<2 ^ 24:=by rw[hcs];exact colsG_lt hl0
   have hei:=elim_ei cs hcsb k.toNat (by omega)
   obtain ⟨est,hest⟩:∃ est,est=elim cs k.toNat:=⟨_,rfl⟩
   have hnx:elim cs (k+1).toNat=estep est k.toNat w:=by
    rw[show (k+1).toNat=k.toNat+1 by omega,hest,hw];rfl
   rw[←hest]at hei hI3 hI4
   have hwb:w<2 ^ 24:=by
    rw[hw,List.getD_eq_getElem?_getD,List.getElem?_eq_getElem (by omega)]
    exact hcsb _ (List.getElem_mem _)
   refine LOOP.ind (σ:=Int×Int×Int) (fun (V,_,_)=>[(1,.ptr 0 0),(3,.ptr 2 0),(11,.ptr 3 0),(49,.og 0 tI P'),(50,.p (iv m)),(51,.p (iv k))])
    (fun (V,a0,a1)=>⟨[{ cells:=[.p (iv x),.tl nb tB b],e:=24,fz:=false },{ cells:=[.arr M tB B'],e:=5,fz:=false },{ cells:=[.p (iv x),.tl nb tB b,.ms 1 0 1 none M,.og 0 tI P',.arr 24 tRw R',.og 1 tC F'],e:=75,fz:=false },{ cells:=[.p (iv V),.p (.v (.int .u64 a0)),.p (.v (.int .u64 a1))],e:=71,fz:=false }],[(ml (ln tI P') 1,3),(ml (ln tC F') 2,67)]⟩)
    (fun (V,_,_)=>V.toNat) (fun (V,a0,a1)=>∃ v c:Nat,V=v∧a0=c0 c∧a1=c1 c∧v<2 ^ 24∧c<2 ^ 113∧red (rowF est.1) 24 (v,c)=red (rowF est.1) 24 (w,2 ^ k.toNat)) (W,A0,A1)
    ⟨w,2 ^ k.toNat,hW,hA0,hA1,hwb,Nat.pow_lt_pow_right (by decide) (by omega),rfl⟩ (.inr ⟨[some 0,some 1,some 2,some 4],[some 0,some 1],?_⟩) ?_
   ·rw[SIM_iff];cbv
    by_cases hk64:k<64
    ·rw[if_pos hk64]at hcase
     first | (exact absurd hcase (by decide)) | simp[nlLe_self,(hAA.1 hk64).1,(hAA.1 hk64).2]
    ·rw[if_neg hk64]at hcase
     first | (exact absurd hcase (by decide)) | simp[nlLe_self,(hAA.2 hk64).1,(hAA.2 hk64).2]
   ·intro ⟨V,a0,a1⟩ hJ X2 hY
    obtain ⟨v,c,hJ1,hJ2,hJ3,hJ4,hJ5,hJ6⟩:=hJ
    obtain ⟨H,hH⟩:∃ H,H=ar .sub .i64 (g2 (cv .u64 V)) 1:=⟨_,rfl⟩
    obtain ⟨⟨rv,ra,rb⟩,hrw⟩:∃ r:tRw.den,r=gt tRw R' H:=⟨_,rfl⟩
    have hlen:=hei.len
    have hHv:v≠0→H=(v.log2:Nat)∧v.log2<24:=fun h=>by
     have h2:=lenB_eq h (show v<2 ^ 63 by omega)
     have hlt:=log2_lt' hJ4 h
     refine ⟨?_,hlt⟩
     have e:cv .u64 V=(v:Int):=by rw[r2,hJ1];exact wrap_u64 (by omega) (by omega)
     rw[hH,e,←hg2,h2,r1]
     exact (wrap64 (n:=((v.log2:Int)+1) - 1) (by omega) (by omega)).trans (by omega)
    have hrow:v≠0→rv=((rowF est.1 v.log2).1:Nat)∧ra=c0 (rowF est.1 v.log2).2∧rb=c1 (rowF est.1 v.log2).2:=fun h=>by
     obtain ⟨h1,h2⟩:=hHv h
     have e:(rv,ra,rb)=rowD (rowF est.1 v.log2):=by rw[hrw,r14,h1,hI3,rowsD_get (by omega)]
     simp only[rowD,Prod.mk.injEq]at e
     exact e
    have hrlt:=hei.rok.lt v.log2
    have hklt:2 ^ k.toNat≤2 ^ 112:=Nat.pow_le_pow_right (by decide) (by omega)
    have hvU:INB (cv .u64 V) 18446744073709551616:=by
     rw[r2,hJ1];show INB (IntKind.wrap .u64 (v:Int)) _;rw[wrap_u64 (by omega) (by omega)];exact ⟨by omega,by omega⟩
    have p_1:p1 tI tC (rv,ra,rb)=rv:=by rw[r21]
    have p_2:p1 tV tV (p2 tI tC (rv,ra,rb))=ra:=by rw[r21,r22]
    have p_3:p2 tV tV (p2 tI tC (rv,ra,rb))=rb:=by rw[r22]
    have hi24:v≠0→INB H 24:=fun h=>by obtain ⟨h1,h2⟩:=hHv h;exact ⟨by omega,by omega⟩
    have hic:ic 24=24:=by rw[r4];rfl
    have hup:v≠0→up tRw 24 R' H (V,a0,a1)=rowsD (est.1.set v.log2 (v,c)):=fun h=>by
     obtain ⟨h1,h2⟩:=hHv h
     rw[r15,h1,hI3,hJ1,hJ2,hJ3,rowsD_set hlen]
    have hadd:ar .add .i64 k 1=k+1:=by rw[r1];exact wrap64 (n:=k+1) (by omega) (by omega)
    have hstep:v≠0→(rowF est.1 v.log2).1=0→elim cs (k+1).toNat=(est.1.set v.log2 (v,c),est.2):=fun h h0=>by
     rw[hnx]
     unfold estep
     rw[←hJ6,red_end (.inr h0)]
     exact if_neg h
    have hfin:v=0→elim cs (k+1).toNat=(est.1,est.2 ++ [c]):=fun h=>by
     rw[hnx]
     unfold estep
     rw[←hJ6,red_end (.inl h)]
     exact if_pos h
    have hnext:v≠0→(rowF est.1 v.log2).1≠0→ar .xor .i64 V rv=((v ^^^ (rowF est.1 v.log2).1:Nat):Int)∧g3 a0 ra=c0 (c ^^^ (rowF est.1 v.log2).2)∧g3 a1 rb=c1 (c ^^^ (rowF est.1 v.log2).2)∧C2P a0 a1 ra rb∧v ^^^ (rowF est.1 v.log2).1<2 ^ 24∧c ^^^ (rowF est.1 v.log2).2<2 ^ 113:=fun h h1=>by
     obtain ⟨q1,q2,q3⟩:=hrow h
     have hr24:(rowF est.1 v.log2).1<2 ^ 24:=by
      have:=hei.rok.hi _ h1
      exact (Nat.log2_lt h1).1 (by have:=(hHv h).2;omega)
     refine ⟨?_,?_,?_,⟨?_,?_,?_,?_⟩,Nat.xor_lt_two_pow hJ4 hr24,Nat.xor_lt_two_pow hJ5 (by omega)⟩
     ·rw[r1,hJ1,q1,xorI (by omega) (by omega)]
     ·rw[hJ2,q2,←hg3,xU0]
     ·rw[hJ3,q3,←hg3,xU1]
     ·rw[hJ2];exact c0U _
     ·rw[hJ3];exact c1U (by omega)
     ·rw[q2];exact c0U _
     ·rw[q3];exact c1U (by omega)
    have hap:ap tC F' [(a0,a1)]=freeD (est.2 ++ [c]):=by
     rw[r16,hI4,hJ2,hJ3];unfold freeD;rw[List.map_append];rfl
    have hFl:F'.length≤112:=by
     rw[hI4];unfold freeD;rw[List.length_map,hest];have:=elim_len cs k.toNat;omega
    have hli:LIM (ad (ln tC F') (ln tC [(a0,a1)])) 16:=by
     rw[r8,r12];show LIM (F'.length+1) 16
     exact LIM_iff.2 ⟨by omega,by omega⟩
    have hpa:p2 tI tC (V,a0,a1)=(a0,a1):=by rw[r22]
    have hn1:m - (k+1)<m - k:=by omega
    clear hAA
    cbv
    try simp only[nc_eq]at *
    rw[←hH,←hrw,p_1,p_2,p_3,hic,hap,hadd]
    refine BR.neq r0 (fun hc0=>?_) (fun hc0=>?_)
    ·have hv0:v≠0:=by omega
     have hi:=hi24 hv0
     obtain ⟨q1,q2,q3⟩:=hrow hv0
     rw[hup hv0]
     refine ⟨hvU,hi,hi,BR.eql r0 (fun h=>?_) (fun h=>?_)⟩
     ·refine ⟨hi,hi,NEXT.mk (hX (k+1,rowsD (est.1.set v.log2 (v,c)),F') _ _ ⟨by omega,by omega,?_,?_⟩ (by show (m - (k+1)).toNat<(m - k).toNat;omega) (.inr ⟨[some 0,some 1,some 2],[some 0,some 1],?_⟩))⟩
      ·rw[hstep hv0 (by omega)]
      ·rw[hstep hv0 (by omega)];exact hI4
      ·rw[SIM_iff];cbv;simp[nlLe_self]
     ·obtain ⟨z1,z2,z3,z4,z5,z6⟩:=hnext hv0 (by omega)
      have hrn:=red_next hei.rok.hi hJ4 hv0 (c:=c) (show (rowF est.1 v.log2).1≠0 by omega)
      refine ⟨hi,hi,hi,hi,z4,NEXT.mk (hY (_,_,_) _ _ ⟨_,_,z1,z2,z3,z5,z6,by rw[←hJ6];exact hrn.1⟩ ?_ (.inl ⟨rfl,rfl⟩))⟩
      show (ar .xor .i64 V rv).toNat<V.toNat
      rw[z1,hJ1,Int.toNat_natCast,Int.toNat_natCast];exact hrn.2
    ·have hv0:v=0:=by omega
     refine ⟨⟨rfl⟩,hli,NEXT.mk (hX (k+1,R',freeD (est.2 ++ [c])) _ _ ⟨by omega,by omega,?_,?_⟩ (by show (m - (k+1)).toNat<(m - k).toNat;omega) (.inr ⟨[some 0,some 1,some 2],[some 0,some 1],?_⟩))⟩
     ·rw[hfin hv0];exact hI3
     ·rw[hfin hv0]
     ·rw[SIM_iff];cbv;simp[nlLe_self]
 ·have hk:k.toNat=cs.length:=by omega
  have hRF:R'=R∧F'=F:=by
   rw[hI3,hI4,hR,hF,hk,hcs];exact ⟨rfl,rfl⟩
  obtain ⟨rfl,rfl⟩:=hRF
  have g1':ml (ln tI P') 1=P'.length:=by rw[r9,r12];exact Nat.mul_one _
  have g2':ml (ln tC F') 2=F'.length*2:=by rw[r9,r12]
  rw[g1',g2',←hp',←hf']
  refine RET.mk ⟨[some 0,some 1,some 2],[some 0,some 1],?_⟩
  rw[SIM_iff];cbv;simp[nlLe_self]
end Go.Ab
