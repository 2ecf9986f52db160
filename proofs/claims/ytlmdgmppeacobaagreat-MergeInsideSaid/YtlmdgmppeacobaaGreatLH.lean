/- Plain laws: the greatest one is taken again and again. -/
import Derived.Test.YtlmdgmppeacobaaGreatLG
set_option linter.unusedSimpArgs false
set_option linter.unusedVariables false
set_option maxRecDepth 20000
set_option maxHeartbeats 4000000
namespace Go.Ab
open Go.Proofs
def bsel (c:List RT) (T:List Bool):Nat→Int→Int→Int
 | 0,_,best=>best
 | n+1,i,best=>bsel c T n (i+1) (if gtR .bool T i=false∧(best<0∨cmQ (rvT (gtR tR c i)) (rvT (gtR tR c best))>0) then i else best)
def rpro (c:List RT):Nat→List Bool→List RT
 | 0,_=>[]
 | n+1,T=>gtR tR c (bsel c T c.length 0 (-1)) :: rpro c n (T.set (bsel c T c.length 0 (-1)).toNat true)
theorem cmQ_gt {a b:Rat}:cmQ a b>0↔b<a:=by
 unfold cmQ
 split
 ·rename_i h;exact ⟨fun h1=>absurd h1 (by decide),fun h1=>absurd h1 (Rat.not_lt.2 (Rat.le_of_lt h))⟩
 ·rename_i h
  split
  ·rename_i h1;subst h1;exact ⟨fun h1=>absurd h1 (by decide),fun h1=>absurd h1 Rat.lt_irrefl⟩
  ·rename_i h1
   exact ⟨fun _=>by
    rcases Rat.le_iff_lt_or_eq.1 (Rat.not_lt.1 h) with h2 | h2
    ·exact h2
    ·exact absurd h2.symm h1,fun _=>by decide⟩
theorem cmQ_zero {a b:Rat}:cmQ a b=0↔a=b:=by
 unfold cmQ
 split
 ·rename_i h;exact ⟨fun h1=>absurd h1 (by decide),fun h1=>by subst h1;exact absurd h Rat.lt_irrefl⟩
 ·split
  ·rename_i h1;exact ⟨fun _=>h1,fun _=>rfl⟩
  ·rename_i h1;exact ⟨fun h=>absurd h (by decide),fun h=>absurd h h1⟩
structure BSP (c:List RT) (T:List Bool) (i best:Int):Prop where
 h:(best = -1∧∀ j:Int,0≤j→j<i→gtR .bool T j=true) ∨
  (0≤best∧best<i∧gtR .bool T best=false∧∀ j:Int,0≤j→j<i→gtR .bool T j=false→rvT (gtR tR c j)≤rvT (gtR tR c best))
theorem BSP.step {c:List RT} {T:List Bool} {i best:Int} (h:BSP c T i best) (i0:0≤i):BSP c T (i+1) (if gtR .bool T i=false∧(best<0∨cmQ (rvT (gtR tR c i)) (rvT (gtR tR c best))>0) then i else best):=by
 by_cases hc:gtR .bool T i=false∧(best<0∨cmQ (rvT (gtR tR c i)) (rvT (gtR tR c best))>0)
 ·rw[if_pos hc]
  refine ⟨.inr ⟨i0,by omega,hc.1,fun j j0 j1 j2=>?_⟩⟩
  by_cases hj:j=i
  ·subst hj;exact Rat.le_refl
  ·rcases h.h with ⟨_,h1⟩ | ⟨h1,h2,h3,h4⟩
   ·rw[h1 j j0 (by omega)]at j2;cases j2
   ·rcases hc.2 with h5 | h5
    ·omega
    ·exact Rat.le_trans (h4 j j0 (by omega) j2) (Rat.le_of_lt (cmQ_gt.1 h5))
 ·rw[if_neg hc]
  rcases h.h with ⟨h0,h1⟩ | ⟨h1,h2,h3,h4⟩
  ·refine ⟨.inl ⟨h0,fun j j0 j1=>?_⟩⟩
   by_cases hj:j=i
   ·subst hj
    cases ht:gtR .bool T j with
    | true=>rfl
    | false=>exact absurd ⟨ht,.inl (by omega)⟩ hc
   ·exact h1 j j0 (by omega)
  ·refine ⟨.inr ⟨h1,by omega,h3,fun j j0 j1 j2=>?_⟩⟩
   by_cases hj:j=i
   ·subst hj
    refine Rat.not_lt.1 fun h5=>hc ⟨j2,.inr (cmQ_gt.2 h5)⟩
   ·exact h4 j j0 (by omega) j2
theorem bsel_ok (c:List RT) (T:List Bool):∀ (n:Nat) (i best:Int),0≤i→BSP c T i best→BSP c T (i+n) (bsel c T n i best)
 | 0,i,best,_,h=>by rw[show i+((0:Nat):Int)=i by omega];exact h
 | n+1,i,best,i0,h=>by
  rw[show i+((n+1:Nat):Int)=i+1+(n:Int) by omega]
  exact bsel_ok c T n (i+1) _ (by omega) (h.step i0)
def lefL:List RT→List Bool→List RT
 | x :: c,t :: T=>if t=true then lefL c T else x :: lefL c T
 | _,_=>[]
theorem lefL_set:∀ {c:List RT} {T:List Bool} {k:Nat},k<c.length→k<T.length→T.getD k false=false→(lefL c T).Perm (c.getD k tR.dflt :: lefL c (T.set k true))
 | x :: c,t :: T,0,_,_,h=>by
  have:t=false:=h
  subst this
  show (x :: lefL c T).Perm (x :: lefL c T)
  exact .refl _
 | x :: c,t :: T,k+1,h1,h2,h=>by
  have ih:=lefL_set (c:=c) (T:=T) (k:=k) (by simpa using h1) (by simpa using h2) (by simpa using h)
  have e:(x :: c).getD (k+1) tR.dflt=c.getD k tR.dflt:=rfl
  rw[e,List.set_cons_succ]
  unfold lefL
  cases t with
  | true=>exact ih
  | false=>exact (ih.cons x).trans (List.Perm.swap ..)
theorem lefL_mem:∀ {c:List RT} {T:List Bool} {x:RT},x∈lefL c T→∃ k:Nat,k<c.length∧k<T.length∧T.getD k false=false∧x=c.getD k tR.dflt
 | y :: c,t :: T,x,h=>by
  unfold lefL at h
  have key:x∈lefL c T→∃ k:Nat,k<(y :: c).length∧k<(t :: T).length∧(t :: T).getD k false=false∧x=(y :: c).getD k tR.dflt:=fun h=>by
   obtain ⟨k,k1,k2,k3,k4⟩:=lefL_mem h
   exact ⟨k+1,by simpa using k1,by simpa using k2,k3,k4⟩
  cases t with
  | true=>exact key h
  | false=>
   rcases List.mem_cons.1 h with rfl | h
   ·exact ⟨0,by simp,by simp,rfl,rfl⟩
   ·exact key h
 | [],T,x,h=>by cases T <;> cases h
 | _ :: _,[],x,h=>by cases h
theorem lefL_rep:∀ c:List RT,lefL c (List.replicate c.length false)=c
 | []=>rfl
 | x :: c=>by
  show lefL (x :: c) (false :: List.replicate c.length false)=_
  unfold lefL
  rw[if_neg (by decide),lefL_rep c]
theorem gtB (T:List Bool) (i:Int):gtR .bool T i=T.getD i.toNat false:=rfl
theorem gtT (T:List RT) (i:Int):gtR tR T i=T.getD i.toNat tR.dflt:=rfl
theorem bsel_at {c:List RT} {T:List Bool} (hT:T.length=c.length) (h:0<(lefL c T).length):∃ k:Nat,bsel c T c.length 0 (-1)=k∧k<c.length∧T.getD k false=false∧∀ x∈lefL c T,rvT x≤rvT (c.getD k tR.dflt):=by
 have hb:=bsel_ok c T c.length 0 (-1) (Int.le_refl _) ⟨.inl ⟨rfl,fun j h0 h1=>by omega⟩⟩
 obtain ⟨x,hx⟩:=List.exists_mem_of_length_pos h
 obtain ⟨k,k1,k2,k3,k4⟩:=lefL_mem hx
 rcases hb.h with ⟨_,h1⟩ | ⟨h1,h2,h3,h4⟩
 ·have:=h1 k (by omega) (by omega)
  rw[gtB,Int.toNat_natCast,k3]at this;cases this
 ·refine ⟨(bsel c T c.length 0 (-1)).toNat,by omega,by omega,h3,fun y hy=>?_⟩
  obtain ⟨j,j1,j2,j3,rfl⟩:=lefL_mem hy
  exact h4 j (by omega) (by omega) j3
theorem rpro_ok (c:List RT):∀ (n:Nat) (T:List Bool),T.length=c.length→(lefL c T).length=n→(rpro c n T).Perm (lefL c T)∧(rpro c n T).Pairwise fun x y=>rvT y≤rvT x
 | 0,T,hT,h=>by
  rw[List.eq_nil_of_length_eq_zero h]
  exact ⟨.nil,.nil⟩
 | n+1,T,hT,h=>by
  obtain ⟨k,e,k1,k2,k3⟩:=bsel_at hT (by omega)
  unfold rpro
  rw[e,gtT,Int.toNat_natCast]
  have hp:=lefL_set k1 (by omega) k2
  obtain ⟨q1,q2⟩:=rpro_ok c n (T.set k true) (by rw[List.length_set];exact hT) (by have:=hp.length_eq;rw[h]at this;simpa using this.symm)
  refine ⟨(q1.cons _).trans hp.symm,List.pairwise_cons.2 ⟨fun y hy=>?_,q2⟩⟩
  exact k3 y (hp.mem_iff.2 (List.mem_cons_of_mem _ (q1.mem_iff.1 hy)))
def rproL (l:List RS) (b:Int):List RT:=rpro (colL l b) l.length (List.replicate l.length false)
theorem rproL_eq {l:List RS} {b:Int} (h:∀ x∈colL l b,VT x):cpRs (rproL l b)=proL l b:=by
 unfold rproL
 have hl:=colL_len l b
 rw[←hl]
 obtain ⟨h1,h2⟩:=rpro_ok (colL l b) (colL l b).length (List.replicate (colL l b).length false) (by simp) (by rw[lefL_rep])
 rw[lefL_rep]at h1
 refine srtD_uniq (fun x hx=>?_) (h1.map clR) ?_
 ·obtain ⟨y,hy,rfl⟩:=List.mem_map.1 hx
  exact ⟨(h y hy).cl,rfl⟩
 ·unfold cpRs
  rw[List.pairwise_map]
  exact h2
theorem rproL_len {l:List RS} {b:Int} (h:∀ x∈colL l b,VT x):(rproL l b).length=l.length:=by
 have:=congrArg List.length (rproL_eq h)
 rw[proL_len]at this
 unfold cpRs at this
 rwa [List.length_map]at this
theorem rproL_val {l:List RS} {b:Int} (h:∀ x∈colL l b,VT x):(rproL l b).map rvT=valP l b:=by
 unfold valP
 rw[←rproL_eq h]
 unfold cpRs
 rw[List.map_map];rfl
theorem rproL_VT {l:List RS} {b:Int} (h:∀ x∈colL l b,VT x):∀ x∈rproL l b,VT x:=fun x hx=>by
 have h1:clR x∈proL l b:=by rw[←rproL_eq h];exact List.mem_map_of_mem hx
 exact ⟨(proL_VT h _ h1).k⟩
theorem COST.head {l:List RS} {m:Nat} (h:COST l m) {b:Int} (h0:0≤b) (h1:b<m):clR (gtR tR (rproL l b) 0)=clR (mxF l b):=by
 have hv:=h.col h0 h1
 obtain ⟨m1,_,_,⟨z,hz,hz2⟩,m3⟩:=h.mx h0 h1
 have hl:=rproL_len hv
 obtain ⟨x,r,e⟩:=List.exists_cons_of_ne_nil (l:=rproL l b) (fun e=>by rw[e]at hl;have:=h.n0;simp at hl;omega)
 have e1:gtR tR (rproL l b) 0=x:=by rw[e];rfl
 rw[e1]
 have hx:VT x:=rproL_VT hv x (by rw[e];simp)
 obtain ⟨p1,p2⟩:=rpro_ok (colL l b) (colL l b).length (List.replicate (colL l b).length false) (by simp) (by rw[lefL_rep])
 rw[lefL_rep]at p1
 have e2:rpro (colL l b) (colL l b).length (List.replicate (colL l b).length false)=x :: r:=by rw[←e];unfold rproL;rw[colL_len]
 rw[e2]at p1 p2
 refine hx.eq m1 (Rat.le_antisymm (m3 x (p1.mem_iff.1 List.mem_cons_self)) ?_)
 have hz3:rvT (mxF l b)=rvT z:=by rw[←rvT_cl,hz2,rvT_cl]
 rw[hz3]
 rcases List.mem_cons.1 (p1.mem_iff.2 hz) with rfl | hz
 ·exact Rat.le_refl
 ·exact (List.pairwise_cons.1 p2).1 z hz
def bstE (l:List RS) (A:List Bool):Int:=if mchk l≠0 then mchk l else if A.length≠(row0 l).length then 16 else if bst (valP l) A 0 (-1)<0 then 9 else 0
def bstN (l:List RS) (A:List Bool):Int:=if bstE l A=0 then bst (valP l) A 0 (-1) else 0
end Go.Ab
