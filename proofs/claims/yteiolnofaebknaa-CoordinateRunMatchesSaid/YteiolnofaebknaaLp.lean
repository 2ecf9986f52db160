/- The plain law of the channel's heap: what lies on the way is a sorted list. -/
import Derived.Test.YteiolnofaebknaaLi
set_option linter.unusedSimpArgs false
set_option linter.unusedVariables false
set_option maxRecDepth 20000
set_option maxHeartbeats 2000000
namespace Go.Ab
open Go.Proofs
abbrev PT:=Int×Int×tChoice.den
def ltP (a b:PT):Prop:=a.1<b.1∨a.1=b.1∧a.2.1<b.2.1
instance (a b:PT):Decidable (ltP a b):=by unfold ltP;exact inferInstance
theorem ltP.trans {a b c:PT} (h:ltP a b) (k:ltP b c):ltP a c:=by unfold ltP at *;omega
theorem ltP.asymm {a b:PT} (h:ltP a b):¬ ltP b a:=by unfold ltP at *;omega
theorem ltP.irrefl (a:PT):¬ ltP a a:=by unfold ltP;omega
theorem leP.trans {a b c:PT} (h:¬ ltP b a) (k:¬ ltP c b):¬ ltP c a:=by unfold ltP at *;omega
def ga (q:List PT) (i:Nat):PT:=q.getD i tPar.dflt
theorem gtR_ga (q:List PT) (i:Nat):gtR tPar q (i:Int)=ga q i:=rfl
def sw (q:List PT) (i j:Nat):List PT:=(q.set i (ga q j)).set j (ga q i)
theorem sw_len (q:List PT) (i j:Nat):(sw q i j).length=q.length:=by simp[sw]
theorem ga_set {q:List PT} {i k:Nat} {x:PT} (h:i<q.length):ga (q.set i x) k=if k=i then x else ga q k:=by
 unfold ga
 simp only[List.getD_eq_getElem?_getD,List.getElem?_set]
 by_cases hk:k=i
 ·subst hk;simp[h]
 ·rw[if_neg (by omega),if_neg hk]
theorem ga_sw {q:List PT} {i j k:Nat} (hi:i<q.length) (hj:j<q.length):ga (sw q i j) k=if k=j then ga q i else if k=i then ga q j else ga q k:=by
 unfold sw
 rw[ga_set (by simpa using hj),ga_set hi]
theorem ga_take {q:List PT} {n k:Nat} (h:k<n):ga (q.take n) k=ga q k:=by
 unfold ga
 simp only[List.getD_eq_getElem?_getD,List.getElem?_take,if_pos h]
theorem take_sw {q:List PT} {i j n:Nat} (hi:i<n) (hj:j<n):(sw q i j).take n=sw (q.take n) i j:=by
 unfold sw
 rw[List.take_set,List.take_set,ga_take hi,ga_take hj]
theorem sw_perm {q:List PT} {i j:Nat} (hi:i<q.length) (hj:j<q.length):(sw q i j).Perm q:=by
 have h:=List.set_set_perm hi hj
 unfold sw ga
 rw[List.getD_eq_getElem?_getD,List.getD_eq_getElem?_getD,List.getElem?_eq_getElem hi,List.getElem?_eq_getElem hj]
 exact h
theorem sw_take_perm {q:List PT} {i j n:Nat} (hi:i<n) (hj:j<n) (hn:n≤q.length):((sw q i j).take n).Perm (q.take n):=by
 rw[take_sw hi hj]
 exact sw_perm (by rw[List.length_take];omega) (by rw[List.length_take];omega)
def Heap (n:Nat) (q:List PT):Prop:=∀ i,0<i→i<n→¬ ltP (ga q i) (ga q ((i - 1) / 2))
theorem par_nat (j:Nat):parM (j:Int)=((j - 1) / 2:Nat):=by
 unfold parM
 by_cases h0:j=0
 ·subst h0;decide
 ·rw[Int.tdiv_eq_ediv_of_nonneg (by omega)];omega
theorem up_step {k:Nat} {q:List PT} {j:Nat}:upM (k+1) q (j:Int)=if (j - 1) / 2=j then q else if ltP (ga q j) (ga q ((j - 1) / 2)) then upM k (sw q ((j - 1) / 2) j) (((j - 1) / 2:Nat):Int) else q:=by
 simp only[upM,par_nat,gtR_ga,Int.toNat_natCast,sw,ltP]
 congr 1
 simp only[eq_iff_iff];omega
theorem up_ok:∀ (k:Nat) (q:List PT) (j n:Nat),j<n→n≤q.length→j<k →
  (∀ i,0<i→i<n→i≠j→¬ ltP (ga q i) (ga q ((i - 1) / 2))) →
  (∀ i,0<i→i<n→(i - 1) / 2=j→0<j→¬ ltP (ga q i) (ga q ((j - 1) / 2))) →
  Heap n (upM k q j)∧((upM k q j).take n).Perm (q.take n)∧(upM k q j).length=q.length
 | 0,q,j,n,_,_,h,_,_=>by omega
 | k+1,q,j,n,hj,hn,hk,h1,h2=>by
  rw[up_step]
  split
  ·rename_i hp
   exact ⟨fun i hi hin=>h1 i hi hin (by omega),.refl _,rfl⟩
  ·rename_i hp
   split
   ·rename_i hl
    obtain ⟨p,hpe⟩:∃ p,p=(j - 1) / 2:=⟨_,rfl⟩
    rw[←hpe]at hl hp ⊢
    have hpj:p<j:=by omega
    have hs:=fun c=>ga_sw (q:=q) (i:=p) (j:=j) (k:=c) (by omega) (by omega)
    have ih:=up_ok k (sw q p j) p n (by omega) (by rw[sw_len];exact hn) (by omega) (fun i hi hin hip=>?_) (fun i hi hin hip hp0=>?_)
    ·refine ⟨ih.1,ih.2.1.trans (sw_take_perm (by omega) hj hn),by rw[ih.2.2,sw_len]⟩
    ·rw[hs i,hs ((i - 1) / 2)]
     by_cases e:i=j
     ·subst e
      rw[if_pos rfl,if_neg (by omega),if_pos (by omega)]
      exact hl.asymm
     ·rw[if_neg e,if_neg hip]
      by_cases e2:(i - 1) / 2=j
      ·rw[if_pos e2]
       have:=h2 i hi hin e2 (by omega)
       rwa [←hpe]at this
      ·rw[if_neg e2]
       by_cases e3:(i - 1) / 2=p
       ·rw[if_pos e3]
        have:=h1 i hi hin e
        rw[e3]at this
        exact leP.trans hl.asymm this
       ·rw[if_neg e3]
        exact h1 i hi hin e
    ·have hpp:=h1 p hp0 (by omega) (by omega)
     rw[hs i,hs ((p - 1) / 2),if_neg (show ¬ (p - 1) / 2=j by omega),if_neg (show ¬ (p - 1) / 2=p by omega)]
     by_cases e:i=j
     ·subst e
      rw[if_pos rfl];exact hpp
     ·rw[if_neg e,if_neg (show ¬ i=p by omega)]
      have:=h1 i hi hin e
      rw[hip]at this
      exact leP.trans hpp this
   ·rename_i hl
    refine ⟨fun i hi hin=>?_,.refl _,rfl⟩
    by_cases e:i=j
    ·subst e;exact hl
    ·exact h1 i hi hin e
def kidN (q:List PT) (i m:Nat):Nat:=if 2*i+2<m∧ltP (ga q (2*i+2)) (ga q (2*i+1)) then 2*i+2 else 2*i+1
theorem kid_nat (q:List PT) (i m:Nat):kidM q (i:Int) (m:Int)=(kidN q i m:Int):=by
 unfold kidM kidN
 have e1:(2*(i:Int)+1+1)=((2*i+2:Nat):Int):=by omega
 have e2:(2*(i:Int)+1)=((2*i+1:Nat):Int):=by omega
 have e3:(lessQ q ((2*i+2:Nat):Int) ((2*i+1:Nat):Int))=ltP (ga q (2*i+2)) (ga q (2*i+1)):=rfl
 rw[e1,e2]
 by_cases h:2*i+2<m∧ltP (ga q (2*i+2)) (ga q (2*i+1))
 ·rw[if_pos h,if_pos ⟨by omega,e3 ▸ h.2⟩]
 ·rw[if_neg h,if_neg (fun hh=>h ⟨by omega,e3 ▸ hh.2⟩)]
theorem down_step {k:Nat} {q:List PT} {i m:Nat}:downM (k+1) q (i:Int) (m:Int)=if 2*i+1≥m then q else if ltP (ga q (kidN q i m)) (ga q i) then downM k (sw q i (kidN q i m)) (kidN q i m:Int) (m:Int) else q:=by
 simp only[downM,kid_nat,gtR_ga,Int.toNat_natCast,sw,lessQ]
 by_cases h:2*i+1≥m
 ·rw[if_pos h,if_pos (by omega)]
 ·rw[if_neg h,if_neg (by omega)];rfl
theorem down_ok:∀ (k:Nat) (q:List PT) (i m:Nat),(m - i<k)→m≤q.length →
  (∀ c,0<c→c<m→(c - 1) / 2≠i→¬ ltP (ga q c) (ga q ((c - 1) / 2))) →
  (∀ c,0<c→c<m→(c - 1) / 2=i→0<i→¬ ltP (ga q c) (ga q ((i - 1) / 2))) →
  Heap m (downM k q i m)∧((downM k q i m).take m).Perm (q.take m)∧(∀ c,m≤c→ga (downM k q i m) c=ga q c)
 | 0,q,i,m,h,_,_,_=>by omega
 | k+1,q,i,m,hk,hm,h1,h2=>by
  rw[down_step]
  split
  ·exact ⟨fun c hc hcm=>h1 c hc hcm (by omega),.refl _,fun _ _=>rfl⟩
  ·rename_i him
   have hkid:kidN q i m=2*i+1∨kidN q i m=2*i+2∧2*i+2<m:=by unfold kidN;split <;> omega
   have hleast:∀ o,(o - 1) / 2=i→0<o→o<m→¬ ltP (ga q o) (ga q (kidN q i m)):=by
    intro o ho h0 hom
    unfold kidN
    split
    ·rename_i hc
     rcases (show o=2*i+1∨o=2*i+2 by omega) with rfl | rfl
     ·exact hc.2.asymm
     ·exact ltP.irrefl _
    ·rename_i hc
     rcases (show o=2*i+1∨o=2*i+2 by omega) with rfl | rfl
     ·exact ltP.irrefl _
     ·exact fun hh=>hc ⟨hom,hh⟩
   split
   ·rename_i hl
    obtain ⟨d,hd⟩:∃ d,d=kidN q i m:=⟨_,rfl⟩
    rw[←hd]at hl hkid hleast ⊢
    have hdi:(d - 1) / 2=i:=by omega
    have hs:=fun c=>ga_sw (q:=q) (i:=i) (j:=d) (k:=c) (by omega) (by omega)
    have ih:=down_ok k (sw q i d) d m (by omega) (by rw[sw_len];exact hm) (fun c hc hcm hcd=>?_) (fun c hc hcm hcd hd0=>?_)
    ·refine ⟨ih.1,ih.2.1.trans (sw_take_perm (by omega) (by omega) hm),fun c hc=>?_⟩
     rw[ih.2.2 c hc,hs c,if_neg (by omega),if_neg (by omega)]
    ·rw[hs c,hs ((c - 1) / 2)]
     by_cases e:(c - 1) / 2=i
     ·rw[if_neg hcd,if_pos e]
      by_cases e1:c=d
      ·rw[if_pos e1];exact hl.asymm
      ·rw[if_neg e1,if_neg (by omega)]
       exact hleast c e hc hcm
     ·rw[if_neg hcd,if_neg e,if_neg (show ¬ c=d by intro h;subst h;exact e hdi)]
      by_cases e1:c=i
      ·rw[if_pos e1]
       subst e1
       exact h2 d (by omega) (by omega) hdi hc
      ·rw[if_neg e1]
       exact h1 c hc hcm e
    ·rw[hs c,hs ((d - 1) / 2),hdi,if_neg (show ¬ i=d by omega),if_pos rfl,if_neg (show ¬ c=d by omega),if_neg (show ¬ c=i by omega)]
     have:=h1 c hc hcm (by omega)
     rwa [hcd]at this
   ·rename_i hl
    refine ⟨fun c hc hcm=>?_,.refl _,fun _ _=>rfl⟩
    by_cases e:(c - 1) / 2=i
    ·rw[e]
     exact leP.trans hl (hleast c e hc hcm)
    ·exact h1 c hc hcm e
structure SQ (q:List PT) (n:Nat) (s:List PT):Prop where
 le:n≤q.length
 hp:Heap n q
 pm:s.Perm (q.take n)
 so:s.Pairwise ltP
theorem SQ.len {q:List PT} {n:Nat} {s:List PT} (h:SQ q n s):s.length=n:=by
 rw[h.pm.length_eq,List.length_take];have:=h.le;omega
theorem heap_root {n:Nat} {q:List PT} (h:Heap n q):∀ i,i<n→¬ ltP (ga q i) (ga q 0):=by
 intro i
 induction i using Nat.strongRecOn with
 | _ i ih=>
  intro hi
  by_cases h0:i=0
  ·subst h0;exact ltP.irrefl _
  ·exact leP.trans (ih ((i - 1) / 2) (by omega) (by omega)) (h i (by omega) hi)
theorem ga_mem {q:List PT} {i n:Nat} (h:i<n) (hn:n≤q.length):ga q i∈q.take n:=by
 have:i<(q.take n).length:=by rw[List.length_take];omega
 rw[←ga_take h,ga,List.getD_eq_getElem?_getD,List.getElem?_eq_getElem this]
 exact List.getElem_mem this
theorem mem_ga {q:List PT} {n:Nat} {x:PT} (h:x∈q.take n):∃ i,i<n∧ga q i=x:=by
 obtain ⟨i,hi,rfl⟩:=List.mem_iff_getElem.1 h
 have h2:=hi
 rw[List.length_take]at h2
 refine ⟨i,by omega,?_⟩
 rw[←ga_take (n:=n) (by omega),ga,List.getD_eq_getElem?_getD,List.getElem?_eq_getElem hi];rfl
theorem SQ.root {q:List PT} {n:Nat} {y:PT} {s:List PT} (h:SQ q n (y :: s)):ga q 0=y:=by
 have hn:=h.len
 simp only[List.length_cons]at hn
 have hm:ga q 0∈y :: s:=(h.pm.mem_iff).2 (ga_mem (by omega) h.le)
 rcases List.mem_cons.1 hm with e | e
 ·exact e
 ·obtain ⟨i,hi,hx⟩:=mem_ga ((h.pm.mem_iff).1 (List.mem_cons_self (a:=y) (l:=s)))
  have:=heap_root h.hp i hi
  rw[hx]at this
  exact absurd ((List.pairwise_cons.1 h.so).1 _ e) this
theorem SQ.nil {q:List PT} {n:Nat} (h:SQ q n []):n=0:=by simpa using h.len.symm
theorem SQ.zero (q:List PT):SQ q 0 []:=⟨by omega,fun i h k=>by omega,by simp,.nil⟩
theorem pop_eq (q:List PT) (m:Nat):popM q m=downM (m+1+1) (sw q 0 m) ((0:Nat):Int) (m:Int):=rfl
theorem take_succ_ga {q:List PT} {m:Nat} (h:m<q.length):q.take (m+1)=q.take m ++ [ga q m]:=by
 rw[List.take_add_one,ga,List.getD_eq_getElem?_getD,List.getElem?_eq_getElem h];rfl
theorem SQ.pop {q:List PT} {m:Nat} {y:PT} {s:List PT} (h:SQ q (m+1) (y :: s)):SQ (popM q m) m s∧ga (popM q m) m=y:=by
 have hr:=h.root
 have hle:=h.le
 have hs:=fun c=>ga_sw (q:=q) (i:=0) (j:=m) (k:=c) (by omega) (by omega)
 have hd:=down_ok (m+1+1) (sw q 0 m) 0 m (by omega) (by rw[sw_len];omega) (fun c hc hcm hp=>by
  rw[hs c,hs ((c - 1) / 2),if_neg (by omega),if_neg (by omega),if_neg (by omega),if_neg (by omega)]
  exact h.hp c hc (by omega)) (fun c _ _ _ h0=>by omega)
 rw[←pop_eq]at hd
 have hm:ga (popM q m) m=y:=by rw[hd.2.2 m (Nat.le_refl _),hs m,if_pos rfl,hr]
 refine ⟨⟨by rw[popM_len];omega,hd.1,?_,(List.pairwise_cons.1 h.so).2⟩,hm⟩
 have h1:((sw q 0 m).take (m+1)).Perm (q.take (m+1)):=sw_take_perm (by omega) (by omega) hle
 rw[take_succ_ga (by rw[sw_len];omega),hs m,if_pos rfl,hr]at h1
 have h2:(y :: (sw q 0 m).take m).Perm (y :: s):=(List.perm_append_comm (l₁:=[y])).trans (h1.trans h.pm.symm)
 exact (h2.cons_inv.symm.trans hd.2.1.symm)
def insP (x:PT):List PT→List PT
 | []=>[x]
 | y :: s=>if ltP x y then x :: y :: s else y :: insP x s
theorem insP_perm (x:PT):∀ s,(insP x s).Perm (x :: s)
 | []=>.refl _
 | y :: s=>by
  unfold insP
  split
  ·exact .refl _
  ·exact ((insP_perm x s).cons y).trans (.swap x y s)
theorem insP_so {x:PT}:∀ {s:List PT},s.Pairwise ltP→(∀ y∈s,y.2.1<x.2.1)→(insP x s).Pairwise ltP
 | [],_,_=>by simp[insP]
 | y :: s,h,hx=>by
  have hp:=List.pairwise_cons.1 h
  unfold insP
  split
  ·rename_i hl
   exact List.pairwise_cons.2 ⟨fun z hz=>by
    rcases List.mem_cons.1 hz with rfl | hz
    ·exact hl
    ·exact hl.trans (hp.1 z hz),h⟩
  ·rename_i hl
   refine List.pairwise_cons.2 ⟨fun z hz=>?_,insP_so hp.2 fun y hy=>hx y (List.mem_cons_of_mem _ hy)⟩
   rcases List.mem_cons.1 (((insP_perm x s).mem_iff).1 hz) with rfl | hz
   ·have:=hx y List.mem_cons_self
    unfold ltP at *;omega
   ·exact hp.1 z hz
theorem SQ.push {q:List PT} {n:Nat} {s:List PT} {x:PT} (h:SQ q n s) (hx:∀ y∈s,y.2.1<x.2.1):SQ (upM (n+1) (takeM q n ++ [x]) n) (n+1) (insP x s):=by
 have hle:=h.le
 have hl:(takeM q n ++ [x]).length=n+1:=by simp[takeM];omega
 have hg:∀ c,c<n→ga (takeM q n ++ [x]) c=ga q c:=fun c hc=>by
  rw[←ga_take (q:=q) hc]
  have:c<(takeM q n).length:=by simp[takeM];omega
  unfold ga
  rw[List.getD_eq_getElem?_getD,List.getElem?_append_left this]
  simp[takeM]
 have hu:=up_ok (n+1) (takeM q n ++ [x]) n (n+1) (by omega) (by omega) (by omega) (fun i hi hin hne=>by
  rw[hg i (by omega),hg _ (by omega)]
  exact h.hp i hi (by omega)) (fun i hi hin hp h0=>by omega)
 refine ⟨by rw[hu.2.2,hl];exact Nat.le_refl _,hu.1,?_,insP_so h.so hx⟩
 refine (insP_perm x s).trans (.trans ?_ hu.2.1.symm)
 rw[List.take_of_length_le (by omega)]
 exact (h.pm.cons x).trans (List.perm_append_comm (l₁:=[x]))
def dueT (t:Int) (x:PT):Bool:=decide (x.1≤t)
theorem SQ.hear {t:Int}:∀ {s:List PT} {q:List PT} {n:Nat} {out:List tChoice.den},SQ q n s →
  ∃ q',hearM t n q out=((s.dropWhile (dueT t)).length,q',out ++ (s.takeWhile (dueT t)).map (fun x=>x.2.2))∧SQ q' (s.dropWhile (dueT t)).length (s.dropWhile (dueT t))∧q'.length=q.length
 | [],q,n,out,h=>by
  obtain rfl:=h.nil
  exact ⟨q,by simp[hearM],by simpa using h,rfl⟩
 | y :: s,q,n,out,h=>by
  have hn:=h.len
  obtain ⟨m,rfl⟩:∃ m,n=m+1:=⟨s.length,by simpa using hn.symm⟩
  by_cases hd:y.1≤t
  ·obtain ⟨hp,he⟩:=h.pop
   obtain ⟨q',h1,h2,h3⟩:=SQ.hear (t:=t) (out:=out ++ [y.2.2]) hp
   refine ⟨q',?_,?_,by rw[h3,popM_len]⟩
   ·have hg:gtR tPar q 0=y:=h.root
    have hg2:gtR tPar (popM q m) m=y:=he
    simp only[hearM,hg,hg2]
    rw[if_pos hd,h1]
    simp[dueT,hd]
   ·simpa [dueT,hd] using h2
  ·refine ⟨q,?_,?_,rfl⟩
   ·have hg:gtR tPar q 0=y:=h.root
    simp only[hearM,hg]
    rw[if_neg hd]
    simp only[List.dropWhile,List.takeWhile,dueT,hd,decide_false,List.map_nil,List.append_nil,List.length_cons]
    simp only[List.length_cons]at hn;rw[hn]
   ·simp only[List.dropWhile,dueT,hd,decide_false]
    rw[hn];exact h
def sIns (F:List Int) (sent t:Int) (c:tChoice.den) (s:List PT):List PT:=if fateM F sent = -1 then s else insP (t+fateM F sent,(sent,c)) s
theorem SQ.send {F:List Int} {now sent t:Int} {N n:Nat} {q s:List PT} {c:tChoice.den} (h:SQ q n s) (hq:q.length=N) (hs:∀ y∈s,y.2.1<sent) (ht:atM now t=0) (hc:lcheckM c=0) (hn:n<64) :
  sendE F now sent n t c=0∧sendNow F now sent n t c=t∧sendSent F now sent n t c=sent+1 ∧
  SQ (sendQ F now sent n q t c) (sendN F now sent n t c) (sIns F sent t c s)∧(sendQ F now sent n q t c).length=sendCap F now sent N n t c∧sendN F now sent n t c≤n+1:=by
 have he:sendE F now sent n t c=0:=by
  unfold sendE
  rw[if_neg (by simp[ht]),if_neg (by simp[hc]),if_neg (by omega)]
 have hle:=h.le
 refine ⟨he,by simp[sendNow,he],by simp[sendSent,he],?_,?_,by unfold sendN;split <;> omega⟩
 ·unfold sendQ sendN sIns
  by_cases hf:fateM F sent = -1
  ·simp[hf];exact h
  ·rw[if_pos ⟨he,hf⟩,if_pos ⟨he,hf⟩,if_neg hf]
   exact h.push hs
 ·unfold sendQ sendCap
  by_cases hf:fateM F sent = -1
  ·simp[hf,hq]
  ·rw[if_pos ⟨he,hf⟩,if_pos ⟨he,hf⟩,((up_ok (n+1) _ n (n+1) (by omega) (by simp[takeM];omega) (by omega) (fun i hi hin hne=>?_) (fun i hi hin hp h0=>by omega)).2.2)]
   ·simp[takeM];omega
   ·have hg:∀ c',c'<n→ga (takeM q n ++ ([(t+fateM F sent,(sent,c))]:List PT)) c'=ga q c':=fun c' hc'=>by
     rw[←ga_take (q:=q) hc']
     have:c'<(takeM q n).length:=by simp[takeM];omega
     unfold ga
     rw[List.getD_eq_getElem?_getD,List.getElem?_append_left this]
     simp[takeM]
    rw[hg i (by omega),hg _ (by omega)]
    exact h.hp i hi (by omega)
end Go.Ab
