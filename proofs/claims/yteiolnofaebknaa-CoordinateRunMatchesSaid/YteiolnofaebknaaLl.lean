/- The reference channel. -/
import Derived.Test.YteiolnofaebknaaMo
set_option linter.unusedSimpArgs false
set_option linter.unusedVariables false
set_option maxRecDepth 20000
set_option maxHeartbeats 8000000
namespace Go.Ab
open Go.Proofs
abbrev tB:Ty:=.bool
def refE (k:Nat) (F:List Int) (now:Int):StS:=
 ⟨[{ cells:=[.ms 1 0 1 none k,.p (iv now),.tl (some true) tPar [],.tl (some true) tB []],e:=93,fz:=false },{ cells:=[.arr k tI F],e:=3,fz:=false,ap:=true }],[]⟩
def refS (k:Nat) (F:List Int) (now:Int) (m:Nat) (A:List tPar.den) (W:List Bool):StS:=
 ⟨[{ cells:=[.ms 1 0 1 none k,.p (iv now),.ms 2 0 6 none m,.ms 3 0 1 none m],e:=93,fz:=false },{ cells:=[.arr k tI F],e:=3,fz:=false,ap:=true },
  { cells:=[.arr m tPar A],e:=97,fz:=false,ap:=true },{ cells:=[.arr m tB W],e:=4,fz:=false,ap:=true }],[]⟩
def refN (k:Nat) (F:List Int) (now:Int) (m:Nat) (A:List tPar.den) (W:List Bool):StS:=
 ⟨[{ cells:=[.ms 1 0 1 none k,.p (iv now),.ms 4 0 6 none m,.ms 5 0 1 none m],e:=93,fz:=false },{ cells:=[.arr k tI F],e:=3,fz:=false,ap:=true },
  { cells:=[],e:=97,fz:=true,ap:=true },{ cells:=[],e:=4,fz:=true,ap:=true },
  { cells:=[.arr m tPar A],e:=97,fz:=false,ap:=true },{ cells:=[.arr m tB W],e:=4,fz:=false,ap:=true }],[]⟩
theorem rNew (nl:Option Bool) (l:List Int) (hw:wrongM l=0) (k:Nat) (hk:l.length=k):FnS Try.prog 41 ([injT (.sl tI) (nl,l)]) (⟨[],[]⟩) fun x_ s_=>x_=(.tup [.ptr 0 0,.p (iv 0)])∧s_=(refE k l 0):=by
 refine FnS.of (S:=[(52,_)]) (T:=[]) (U:=[]) (tbl:=[]) (n:=15) hm33 cfg (.cons (spT1.ok (a:=(.sl (.int .i64))) (pre:=fun _=>True) fun x0 _=>c52 x0.1 x0.2) .nil) .nil .nil .nil 0 Try.call41 Try.func41 (ac41_ok (some (0,0))) (by rw[Try.ntmps41];exact Nat.le_refl _) rfl _ _ _ (by rfl) ?_
 intro cmp ar cv tn ic ai mx an ad ml sb mn ln em gt up ap sc vw cp rp p1 p2 s1 s2 X Y hX hY r0 r1 r2 r3 r4 r5 r6 r7 r8 r9 r10 r11 r12 r13 r14 r15 r16 r17 r18 r19 r20 r21 r22 r23 r24
 generalize hg0:wrongM=g0
 cbv
 have hw2:g0 l=0:=by rw[←hg0];exact hw
 have hl:=wrong_len hw
 have hln:ln tI l=k:=by rw[r12];exact hk
 have had:ad 0 k=k:=by rw[r8];exact Nat.zero_add k
 have hvw:vw tI 0 [] 0 0=[]:=by rw[r18];simp[vwR]
 have hap:ap tI [] l=l:=by rw[r16];rfl
 rw[show g0 (nl,l).snd=0 from hw2,hln,had,hvw,hap]
 refine BR.neq r0 (fun h=>absurd rfl h) fun _=>⟨⟨by omega⟩,⟨by omega,by simp only[maxLen];omega⟩,?_⟩
 refine RET.mk ⟨[some 2,some 1],[],?_⟩
 rw[SIM_iff];cbv
 try simp[nlLe_self,lstEq]
theorem rNewE (nl:Option Bool) (l:List Int) (r:Int) (hr:r=wrongM l) (hl:r≠0):FnS Try.prog 41 ([injT (.sl tI) (nl,l)]) (⟨[],[]⟩) fun x_ s_=>x_=(.tup [.p (.v (.pointer none)),.p (iv r)])∧s_=(⟨[],[]⟩):=by
 refine FnS.of (S:=[(52,_)]) (T:=[]) (U:=[]) (tbl:=[]) (n:=15) hm33 cfg (.cons (spT1.ok (a:=(.sl (.int .i64))) (pre:=fun _=>True) fun x0 _=>c52 x0.1 x0.2) .nil) .nil .nil .nil 0 Try.call41 Try.func41 (ac41_ok (some (0,0))) (by rw[Try.ntmps41];exact Nat.le_refl _) rfl _ _ _ (by rfl) ?_
 intro cmp ar cv tn ic ai mx an ad ml sb mn ln em gt up ap sc vw cp rp p1 p2 s1 s2 X Y hX hY r0 r1 r2 r3 r4 r5 r6 r7 r8 r9 r10 r11 r12 r13 r14 r15 r16 r17 r18 r19 r20 r21 r22 r23 r24
 generalize hg0:wrongM=g0
 cbv
 rw[show g0 (nl,l).snd=r by rw[←hg0];exact hr.symm]
 refine BR.neq r0 (fun _=>?_) (fun h=>absurd hl h)
 refine RET.mk ⟨[],[],?_⟩;rw[SIM_iff];cbv
 try simp[lstEq]
structure RR (s:List PT) (A:List PT) (W:List Bool):Prop where
 so:s.Pairwise ltP
 num:∀ k,k<A.length→(ga A k).2.1=(k:Int)
 wl:W.length=A.length
 mem:∀ p∈s,∃ k,k<A.length∧p=ga A k∧W.getD k false=true
 all:∀ k,k<A.length→W.getD k false=true→ga A k∈s
def TK (s A:List PT) (t:Nat) (T:List Bool):Prop:=t≤s.length∧T.length=A.length∧∀ k,k<A.length→(T.getD k false=true↔ga A k∈s.take t)
theorem RR.inj {s A:List PT} {W:List Bool} (h:RR s A W) {i j:Nat} (hi:i<A.length) (hj:j<A.length) (e:ga A i=ga A j):i=j:=by
 have h1:=h.num i hi
 have h2:=h.num j hj
 rw[e,h2]at h1;omega
theorem ga_memL {l:List PT} {k:Nat} (h:k<l.length):ga l k∈l:=by
 unfold ga
 rw[List.getD_eq_getElem?_getD,List.getElem?_eq_getElem h]
 exact List.getElem_mem h
theorem ga_take_succ {l:List PT} {t:Nat} (h:t<l.length):l.take (t+1)=l.take t ++ [ga l t]:=by
 unfold ga
 rw[List.getD_eq_getElem?_getD,List.getElem?_eq_getElem h,List.take_add_one,List.getElem?_eq_getElem h];rfl
theorem so_fresh {s:List PT} (h:s.Pairwise ltP) {t:Nat} (ht:t<s.length):ga s t∉s.take t:=fun hm=>by
 have hs:=ga_take_succ ht
 have h2:(s.take (t+1)).Pairwise ltP:=h.sublist (List.take_sublist _ _)
 rw[hs,List.pairwise_append]at h2
 exact ltP.irrefl _ (h2.2.2 _ hm _ List.mem_cons_self)
theorem so_least {s:List PT} (h:s.Pairwise ltP) {t:Nat} {p:PT} (hp:p∈s) (hn:p∉s.take t):t<s.length∧(p=ga s t∨ltP (ga s t) p):=by
 have hp:p∈s.take t ++ s.drop t:=by rw[List.take_append_drop];exact hp
 have hd:=(List.mem_append.1 hp).resolve_left hn
 have hlt:t<s.length:=by
  have:=List.length_pos_of_mem hd
  rw[List.length_drop]at this;omega
 refine ⟨hlt,?_⟩
 rw[List.drop_eq_getElem_cons hlt]at hd
 have e:ga s t=s[t]:=by unfold ga;rw[List.getD_eq_getElem?_getD,List.getElem?_eq_getElem hlt];rfl
 rw[e]
 rcases List.mem_cons.1 hd with h1 | h1
 ·exact .inl h1
 ·have h2:(s.drop t).Pairwise ltP:=h.sublist (List.drop_sublist _ _)
  rw[List.drop_eq_getElem_cons hlt]at h2
  exact .inr ((List.pairwise_cons.1 h2).1 _ h1)
theorem RR.done {s A:List PT} {W T:List Bool} {t:Nat} (h:RR s A W) (hT:TK s A t T) (hno:∀ k,k<A.length→W.getD k false=true→T.getD k false=true):t=s.length:=by
 rcases Nat.lt_or_ge t s.length with hl | hl
 ·obtain ⟨k,hk,e,hw⟩:=h.mem _ (ga_memL hl)
  have:=(hT.2.2 k hk).1 (hno k hk hw)
  rw[←e]at this
  exact absurd this (so_fresh h.so hl)
 ·have:=hT.1;omega
theorem RR.pick {s A:List PT} {W T:List Bool} {t b:Nat} (h:RR s A W) (hT:TK s A t T) (hb:b<A.length) (hw:W.getD b false=true) (hn:T.getD b false=false)
  (hmin:∀ k,k<A.length→W.getD k false=true→T.getD k false=false→¬ ltP (ga A k) (ga A b)):t<s.length∧ga A b=ga s t∧TK s A (t+1) (T.set b true):=by
 have hnot:ga A b∉s.take t:=fun hm=>by have:=(hT.2.2 b hb).2 hm;rw[hn]at this;cases this
 obtain ⟨hl,hc⟩:=so_least h.so (h.all b hb hw) hnot
 have e:ga A b=ga s t:=by
  rcases hc with hc | hc
  ·exact hc
  ·obtain ⟨k,hk,e,hwk⟩:=h.mem _ (ga_memL hl)
   have hTk:T.getD k false=false:=by
    cases hx:T.getD k false with
    | false=>rfl
    | true=>exact absurd (e ▸ (hT.2.2 k hk).1 hx) (so_fresh h.so hl)
   exact absurd (e ▸ hc) (hmin k hk hwk hTk)
 refine ⟨hl,e,hl,by rw[List.length_set];exact hT.2.1,fun k hk=>?_⟩
 rw[ga_take_succ hl,List.mem_append,List.mem_singleton,←e]
 by_cases hkb:k=b
 ·subst hkb
  have:k<T.length:=by rw[hT.2.1];exact hk
  simp[List.getD_eq_getElem?_getD,this]
 ·have h1:(T.set b true).getD k false=T.getD k false:=by simp[List.getD_eq_getElem?_getD,List.getElem?_set,Ne.symm hkb]
  rw[h1,hT.2.2 k hk]
  exact ⟨.inl,fun hh=>hh.resolve_right fun h2=>hkb (h.inj hk hb h2)⟩
structure BST (A:List PT) (W T:List Bool) (b i:Int):Prop where
 no:b<0→∀ k:Nat,(k:Int)<i→W.getD k false=true→T.getD k false=true
 is:0≤b→W.getD b.toNat false=true∧T.getD b.toNat false=false∧∀ k:Nat,(k:Int)<i→W.getD k false=true→T.getD k false=false→¬ ltP (ga A k) (ga A b.toNat)
theorem BST.start (A:List PT) (W T:List Bool):BST A W T (-1) 0:=⟨fun _ k hk=>by omega,fun h=>by omega⟩
theorem BST.skip {A:List PT} {W T:List Bool} {b i:Int} (h:BST A W T b i) (i0:0≤i) (hn:W.getD i.toNat false=true→T.getD i.toNat false=true):BST A W T b (i+1):=by
 have e:∀ k:Nat,(k:Int)<i+1→(k:Int)<i∨k=i.toNat:=fun k hk=>by omega
 refine ⟨fun hb k hk hw=>?_,fun hb=>⟨(h.is hb).1,(h.is hb).2.1,fun k hk hw ht=>?_⟩⟩
 ·rcases e k hk with h1 | rfl
  ·exact h.no hb k h1 hw
  ·exact hn hw
 ·rcases e k hk with h1 | rfl
  ·exact (h.is hb).2.2 k h1 hw ht
  ·rw[hn hw]at ht;cases ht
theorem BST.keep {A:List PT} {W T:List Bool} {b i:Int} (h:BST A W T b i) (i0:0≤i) (b0:0≤b) (hn:¬ ltP (ga A i.toNat) (ga A b.toNat)):BST A W T b (i+1):=by
 have e:∀ k:Nat,(k:Int)<i+1→(k:Int)<i∨k=i.toNat:=fun k hk=>by omega
 refine ⟨fun hb k hk hw=>by omega,fun hb=>⟨(h.is hb).1,(h.is hb).2.1,fun k hk hw ht=>?_⟩⟩
 rcases e k hk with h1 | rfl
 ·exact (h.is hb).2.2 k h1 hw ht
 ·exact hn
theorem BST.take {A:List PT} {W T:List Bool} {b i:Int} (h:BST A W T b i) (i0:0≤i) (hw:W.getD i.toNat false=true) (ht:T.getD i.toNat false=false) (hb:b<0∨0≤b∧ltP (ga A i.toNat) (ga A b.toNat)):BST A W T i (i+1):=by
 have e:∀ k:Nat,(k:Int)<i+1→(k:Int)<i∨k=i.toNat:=fun k hk=>by omega
 refine ⟨fun hb k hk hw=>by omega,fun _=>⟨hw,ht,fun k hk hwk htk=>?_⟩⟩
 rcases e k hk with h1 | rfl
 ·rcases hb with hb | ⟨b0,hl⟩
  ·have:=h.no hb k h1 hwk;rw[htk]at this;cases this
  ·exact fun hh=>(h.is b0).2.2 k h1 hwk htk (hh.trans hl)
 ·exact ltP.irrefl _
theorem TK.start (s A:List PT):TK s A 0 (List.replicate A.length false):=⟨Nat.zero_le _,by simp,fun k hk=>by simp[List.getD_eq_getElem?_getD,hk]⟩
theorem rPend (k:Nat) (F:List Int) (now:Int) (m:Nat) (A:List tPar.den) (W:List Bool) (hA:A.length=m) (s:List tPar.den) (hr:RR s A W) (hm:m≤1000) (hsm:s.length≤1000) (g:Nat) (hg:g=s.length*6):FnS Try.prog 54 ([.ptr 0 0]) (refS k F now m A W ) fun x_ s_=>x_=(.og 0 tPar s)∧s_=(⟨(refS k F now m A W).box,[(g,97)]⟩):=by
 refine FnS.of (S:=[]) (T:=[]) (U:=[]) (tbl:=[]) (n:=76) hm33 cfg .nil .nil .nil .nil 0 Try.call54 Try.func54 (ac54_ok (some (4,0))) (by rw[Try.ntmps54];exact Nat.le_refl _) rfl _ _ _ (by rfl) ?_
 intro cmp ar cv tn ic ai mx an ad ml sb mn ln em gt up ap sc vw cp rp p1 p2 s1 s2 X Y hX hY r0 r1 r2 r3 r4 r5 r6 r7 r8 r9 r10 r11 r12 r13 r14 r15 r16 r17 r18 r19 r20 r21 r22 r23 r24
 cbv
 have hA1:tn (ic m)=m:=by rw[r3,r4];rfl
 have hB1:rp tB m false=List.replicate m false:=by rw[r20]
 have him:ic m=m:=by rw[r4]
 rw[hA1,hB1,him]
 refine ⟨by rw[MK_iff];omega,?_⟩
 refine LOOP.ind (σ:=Nat×List tPar.den×List Bool) (fun (_,O,_)=>[(0,.ptr 0 0),(3,.og 0 tPar O),(4,.ms 4 0 1 none m)])
  (fun (_,O,T)=>⟨(refS k F now m A W).box ++ [{ cells:=[.arr m tB T],e:=4,fz:=false,ap:=true }],[(ml (ln tPar O) 6,97)]⟩) (fun (t,_,_)=>s.length - t) (fun (t,O,T)=>TK s A t T∧O=s.take t) (0,[],List.replicate m false) ⟨hA ▸ TK.start s A,by simp⟩ (.inr ⟨[some 0,some 1,some 2,some 3,some 4],[none],?_⟩) ?_
 ·rw[SIM_iff];cbv;try simp[nlLe_self,lstEq]
 intro ⟨t,O,T⟩ hI X1 hX
 dsimp only at hI
 obtain ⟨hI1,hI2⟩:=hI
 have hTl:T.length=m:=hI1.2.1.trans hA
 cbv
 refine LOOP.ind (σ:=Int×Int) (fun (b,i)=>[(0,.ptr 0 0),(3,.og 0 tPar O),(4,.ms 4 0 1 none m),(5,.p (iv b)),(6,.p (iv i))])
  (fun _=>⟨(refS k F now m A W).box ++ [{ cells:=[.arr m tB T],e:=4,fz:=false,ap:=true }],[(ml (ln tPar O) 6,97)]⟩) (fun (_,i)=>(m - i).toNat)
  (fun (b,i)=>(0≤i∧i≤m)∧(-1≤b∧b<i∨b = -1)∧BST A W T b i) (-1,0) ⟨by omega,.inr rfl,BST.start A W T⟩ (.inl ⟨rfl,rfl⟩) ?_
 intro ⟨b,i⟩ hJ X2 hY
 dsimp only at hJ
 obtain ⟨hJ1,hJ2,hJ3⟩:=hJ
 have ha1:ar .add .i64 i 1=i+1:=by rw[r1];exact wrap64 (n:=i+1) (by omega) (by omega)
 have hgW:gt tB W i=W.getD i.toNat false:=by rw[r14];rfl
 have hgT:gt tB T i=T.getD i.toNat false:=by rw[r14];rfl
 have hgA:∀ k,gt tPar A k=ga A k.toNat:=fun k=>by rw[r14];rfl
 have hmu:i<m→(m - (i+1):Int).toNat<(m - i:Int).toNat:=by omega
 cbv
 rw[him,ha1,hgW,hgT,hgA,hgA,r21]
 dsimp only
 refine BR.lss r0 (fun hi=>?_) fun hi=>?_
 ·try simp only[nc_eq]at hi hJ1 hJ2
  have hin:INB i (m:Int):=⟨hJ1.1,hi⟩
  have hmu:=hmu hi
  have hN:0≤b→¬ (ga A i.toNat).1<(ga A b.toNat).1→¬ ltP (ga A i.toNat) (ga A b.toNat):=fun b0 h hl=>by
   have h1:=hr.num i.toNat (by omega)
   have h2:=hr.num b.toNat (by omega)
   unfold ltP at hl;omega
  have sk:(W.getD i.toNat false=true→T.getD i.toNat false=true)→(0≤i+1∧i+1≤m)∧(-1≤b∧b<i+1∨b = -1)∧BST A W T b (i+1):=fun h=>⟨by omega,by omega,hJ3.skip hJ1.1 h⟩
  have kp:0≤b→¬ (ga A i.toNat).1<(ga A b.toNat).1→(0≤i+1∧i+1≤m)∧(-1≤b∧b<i+1∨b = -1)∧BST A W T b (i+1):=fun b0 h=>⟨by omega,by omega,hJ3.keep hJ1.1 b0 (hN b0 h)⟩
  have tk:W.getD i.toNat false=true→T.getD i.toNat false=false→(b<0∨0≤b∧(ga A i.toNat).1<(ga A b.toNat).1)→(0≤i+1∧i+1≤m)∧(-1≤i∧i<i+1∨i = -1)∧BST A W T i (i+1):=fun hw ht h=>⟨by omega,by omega,hJ3.take hJ1.1 hw ht (h.imp id fun h=>⟨h.1,.inl h.2⟩)⟩
  refine ⟨hin,hin,BR.mk (fun hw=>⟨hin,hin,BR.mk (fun ht=>?_) fun ht=>?_⟩) fun hw=>?_⟩
  ·exact NEXT.mk (hY (b,i+1) _ _ (sk fun _=>ht) hmu (.inl ⟨rfl,rfl⟩))
  ·refine BR.lss r0 (fun hb=>?_) fun hb=>?_
   ·exact NEXT.mk (hY (i,i+1) _ _ (tk hw ht (.inl hb)) hmu (.inl ⟨rfl,rfl⟩))
   ·have hinb:INB b (m:Int):=⟨by omega,by omega⟩
    refine ⟨hin,hin,hinb,hinb,BR.lss r0 (fun hd=>?_) fun hd=>?_⟩
    ·exact NEXT.mk (hY (i,i+1) _ _ (tk hw ht (.inr ⟨by omega,hd⟩)) hmu (.inl ⟨rfl,rfl⟩))
    ·exact NEXT.mk (hY (b,i+1) _ _ (kp (by omega) hd) hmu (.inl ⟨rfl,rfl⟩))
  ·exact NEXT.mk (hY (b,i+1) _ _ (sk fun h=>by rw[hw]at h;cases h) hmu (.inl ⟨rfl,rfl⟩))
 ·try simp only[nc_eq]at hi hJ1 hJ2
  have hi:i=m:=by omega
  clear hY hmu ha1 hgW hgT
  refine BR.lss r0 (fun hb=>?_) fun hb=>?_
  ·have ht:=hr.done hI1 (fun k hk hw=>hJ3.no hb k (by omega) hw)
   have hO:O=s:=by rw[hI2,ht,List.take_length]
   have hgg:ml (ln tPar s) 6=g:=by rw[r9,r12,hg]
   rw[hO,hgg]
   clear hX
   refine RET.mk ⟨[some 0,some 1,some 2,some 3],[some 0],?_⟩;rw[SIM_iff];cbv
   try simp[nlLe_self,lstEq]
  ·have hb2:b.toNat<A.length:=by omega
   obtain ⟨h1,h2,h3⟩:=hr.pick hI1 hb2 (hJ3.is (by omega)).1 (hJ3.is (by omega)).2.1 (fun k hk hw ht=>(hJ3.is (by omega)).2.2 k (by omega) hw ht)
   have hinb:INB b (m:Int):=⟨by omega,by omega⟩
   have hap:ap tPar O [ga A b.toNat]=s.take (t+1):=by rw[r16,hI2,h2,ga_take_succ h1]
   have hlO:ln tPar O=t:=by rw[r12,hI2];show (s.take t).length=t;rw[List.length_take];omega
   have hl1:∀ x:tPar.den,ln tPar [x]=1:=fun x=>by rw[r12];rfl
   have hup:up tB m T b true=T.set b.toNat true:=by rw[r15];exact upR_len (t:=tB) hTl b true
   have had:ad t 1=t+1:=by rw[r8]
   rw[r22]
   dsimp only
   rw[hl1,hlO,had,hup]
   obtain ⟨O2,hO2⟩:∃ x,x=ap tPar O [ga A b.toNat]:=⟨_,rfl⟩
   have hO3:ap tPar O [((ga A b.toNat).fst,(ga A b.toNat).snd.fst,(ga A b.toNat).snd.snd.fst,(ga A b.toNat).snd.snd.snd.fst,(ga A b.toNat).snd.snd.snd.snd.fst,(ga A b.toNat).snd.snd.snd.snd.snd)]=O2:=hO2.symm
   rw[hO3]
   refine ⟨hinb,hinb,hinb,hinb,⟨rfl⟩,⟨by omega,by simp only[maxLen];omega⟩,NEXT.mk (hX (t+1,O2,T.set b.toNat true) _ _ ⟨h3,hO2.trans hap⟩ (by show s.length - (t+1)<s.length - t;omega) (.inr ⟨[some 0,some 1,some 2,some 3,some 4],[some 0],?_⟩))⟩
   rw[SIM_iff];cbv
   try simp[nlLe_self,lstEq]
theorem rPend0 (k:Nat) (F:List Int) (now:Int):FnS Try.prog 54 ([.ptr 0 0]) (refE k F now ) fun x_ s_=>x_=(.p (.sl (some true) 0 []))∧s_=(refE k F now):=by
 refine FnS.of (S:=[]) (T:=[]) (U:=[]) (tbl:=[]) (n:=76) hm33 cfg .nil .nil .nil .nil 0 Try.call54 Try.func54 (ac54_ok (some (2,0))) (by rw[Try.ntmps54];exact Nat.le_refl _) rfl _ _ _ (by rfl) ?_
 intro cmp ar cv tn ic ai mx an ad ml sb mn ln em gt up ap sc vw cp rp p1 p2 s1 s2 X Y hX hY r0 r1 r2 r3 r4 r5 r6 r7 r8 r9 r10 r11 r12 r13 r14 r15 r16 r17 r18 r19 r20 r21 r22 r23 r24
 cbv
 have hl:ln tPar []=0:=by rw[r12];rfl
 have hi:ic 0=0:=by rw[r4];rfl
 have ht:tn 0=0:=by rw[r3];rfl
 rw[hl,hi,ht]
 refine ⟨by rw[MK_iff];omega,?_⟩
 refine LOOP.ind (σ:=Unit) (fun _=>_) (fun _=>_) (fun _=>0) (fun _=>True) () trivial (.inl ⟨rfl,rfl⟩) ?_
 intro _ _ X1 hX1
 cbv
 refine LOOP.ind (σ:=Unit) (fun _=>_) (fun _=>_) (fun _=>0) (fun _=>True) () trivial (.inl ⟨rfl,rfl⟩) ?_
 intro _ _ X2 hX2
 cbv
 rw[hl,hi]
 refine BR.lss r0 (fun h=>by omega) fun _=>?_
 refine BR.lss r0 (fun _=>?_) fun h=>by omega
 refine RET.mk ⟨[some 0,some 1],[],?_⟩
 rw[SIM_iff];cbv
 try simp[nlLe_self,lstEq]
end Go.Ab
