/- Guesses: base,places,solutions,what is certain. Plain Lean. -/
import Derived.Test.YtjepihoacohboaaLn
set_option linter.unusedSimpArgs false
set_option linter.unusedVariables false
set_option maxRecDepth 20000
set_option maxHeartbeats 2000000
namespace Go.Ab
def gbase (b:List Int):List Int:=b.map fun x=>if x=2 then 0 else x
def gplaces:List Int→Nat→List Nat
 | [],_=>[]
 | x :: l,i=>if x=2 then i :: gplaces l (i+1) else gplaces l (i+1)
def GV (b:List Int):Prop:=∀ x∈b,x=0∨x=1∨x=2
theorem gbase_len (b:List Int):(gbase b).length=b.length:=by simp[gbase]
theorem gbase_bit {b:List Int} (h:GV b):BITS (gbase b):=fun x hx=>by
 obtain ⟨y,hy,rfl⟩:=List.mem_map.1 hx
 have:=h y hy
 split <;> omega
theorem gbase_get (b:List Int) (i:Nat):(gbase b).getD i 0=if b.getD i 0=2 then 0 else b.getD i 0:=by
 simp only[gbase,List.getD_eq_getElem?_getD,List.getElem?_map]
 cases b[i]? <;> rfl
theorem gplaces_mem:∀ {b:List Int} {i p:Nat},p∈gplaces b i↔i≤p∧p<i+b.length∧b.getD (p - i) 0=2
 | [],i,p=>by simp[gplaces]
 | x :: b,i,p=>by
  have ih:=gplaces_mem (b:=b) (i:=i+1) (p:=p)
  have hs:i+1≤p→(x :: b).getD (p - i) 0=b.getD (p - (i+1)) 0:=fun h=>by
   rw[show p - i=p - (i+1)+1 by omega,List.getD_cons_succ]
  have hz:p=i→(x :: b).getD (p - i) 0=x:=fun h=>by subst h;rw[Nat.sub_self,List.getD_cons_zero]
  simp only[gplaces,List.length_cons]
  split
  ·rename_i hx
   rw[List.mem_cons,ih]
   constructor
   ·rintro (rfl | ⟨h1,h2,h3⟩)
    ·exact ⟨Nat.le_refl _,by omega,by rw[hz rfl];exact hx⟩
    ·exact ⟨by omega,by omega,by rw[hs h1];exact h3⟩
   ·rintro ⟨h1,h2,h3⟩
    by_cases e:p=i
    ·exact .inl e
    ·exact .inr ⟨by omega,by omega,by rw[hs (by omega)]at h3;exact h3⟩
  ·rename_i hx
   rw[ih]
   constructor
   ·rintro ⟨h1,h2,h3⟩
    exact ⟨by omega,by omega,by rw[hs h1];exact h3⟩
   ·rintro ⟨h1,h2,h3⟩
    by_cases e:p=i
    ·rw[hz e]at h3;exact absurd h3 hx
    ·exact ⟨by omega,by omega,by rw[hs (by omega)]at h3;exact h3⟩
theorem gplaces_as:∀ (b:List Int) (i:Nat),(gplaces b i).Pairwise (· < ·)
 | [],_=>by simp[gplaces]
 | x :: b,i=>by
  simp only[gplaces]
  split
  ·refine List.pairwise_cons.2 ⟨fun p hp=>?_,gplaces_as b (i+1)⟩
   have:=gplaces_mem.1 hp;omega
  ·exact gplaces_as b (i+1)
theorem gplaces_len:∀ (b:List Int) (i:Nat),(gplaces b i).length≤b.length
 | [],_=>by simp[gplaces]
 | x :: b,i=>by
  have:=gplaces_len b (i+1)
  simp only[gplaces,List.length_cons]
  split
  ·rw[List.length_cons];omega
  ·omega
theorem gmem {b:List Int} {p:Nat}:p∈gplaces b 0↔p<b.length∧b.getD p 0=2:=by
 rw[gplaces_mem,Nat.sub_zero,Nat.zero_add];exact ⟨fun h=>h.2,fun h=>⟨Nat.zero_le _,h⟩⟩
theorem gopn {b:List Int} (h:GV b):OPN (gbase b) (gplaces b 0):=⟨gbase_bit h,fun p hp=>by
 have:=gmem.1 hp
 exact ⟨by rw[gbase_len];exact this.1,by rw[gbase_get,if_pos this.2]⟩,gplaces_as b 0⟩
def colsG (b:List Int):List Nat:=(gplaces b 0).map (col b.length)
def elimG (b:List Int):ROWS2×List Nat:=elimA (colsG b)
def tgt (b:List Int) (over:Nat):Nat:=ovN (gbase b) ^^^ over
def slv (st:ROWS2×List Nat) (v:Nat):Nat×Nat:=red (rowF st.1) 24 (v,0)
def isG (b:List Int) (over:Nat):Bool:=decide ((slv (elimG b) (tgt b over)).1=0)
def solG (b:List Int) (over:Nat):List (List Int):=solB (gbase b) (gplaces b 0) over
structure GOOD (b:List Int) (over:Nat):Prop where
 gv:GV b
 l:24≤b.length
 o:over<2 ^ 24
section
variable {b:List Int} {over:Nat}
theorem colsG_lt (hl:24≤b.length):∀ c∈colsG b,c<2 ^ 24:=fun c hc=>by
 obtain ⟨p,_,rfl⟩:=List.mem_map.1 hc
 exact col_lt hl
theorem GOOD.ei (h:GOOD b over):EI (colsG b) (colsG b).length (elimG b):=elimA_ei (colsG_lt h.l)
theorem GOOD.tlt (h:GOOD b over):tgt b over<2 ^ 24:=Nat.xor_lt_two_pow (ovN_lt (gbase_bit h.gv) (by rw[gbase_len];exact h.l)) h.o
theorem slv_spec {cs:List Nat} {st:ROWS2×List Nat} (h:EI cs cs.length st) {v:Nat} (hv:v<2 ^ 24) :
  ((slv st v).1=0↔inS cs v)∧((slv st v).1=0→val cs (slv st v).2=v)∧(slv st v).2<2 ^ cs.length:=by
 obtain ⟨i1,i2,i3,i4,i5,i6⟩:=red_spec h.rok 24 (v,0) hv
 simp only[val_zero,Nat.xor_zero]at i3
 simp only at i2 i4 i5
 refine ⟨⟨fun h0=>?_,fun hs=>?_⟩,fun h0=>?_,i5 _ (Nat.le_refl _) (Nat.two_pow_pos _)⟩
 ·have h0':(red (rowF st.1) 24 (v,0)).1=0:=h0
  rw[h0',Nat.xor_zero]at i4;exact i4
 ·have hs2:inS cs (red (rowF st.1) 24 (v,0)).1:=by
   have:=inS_xor hs i4
   rwa [←Nat.xor_assoc,Nat.xor_self,Nat.zero_xor]at this
  refine Decidable.byContradiction fun hne=>h.all _ hs2 hne (i1.resolve_left hne)
 ·have h0':(red (rowF st.1) 24 (v,0)).1=0:=h0
  rw[h0',Nat.zero_xor]at i3
  exact i3
theorem GOOD.is (h:GOOD b over):isG b over=true↔inS (colsG b) (tgt b over):=by
 unfold isG
 rw[decide_eq_true_eq];exact (slv_spec h.ei h.tlt).1
theorem GOOD.first (h:GOOD b over) (hi:isG b over=true):val (colsG b) (slv (elimG b) (tgt b over)).2=tgt b over:=(slv_spec h.ei h.tlt).2.1 (of_decide_eq_true hi)
theorem GOOD.flt (h:GOOD b over):(slv (elimG b) (tgt b over)).2<2 ^ (gplaces b 0).length:=by
 have:=(slv_spec h.ei h.tlt).2.2
 rwa [colsG,List.length_map]at this
theorem sol_cnt (h:GV b):(solG b over).length=cnt (colsG b) (tgt b over):=by
 unfold solG
 rw[solB_len over (gopn h),gbase_len];rfl
theorem GOOD.len (h:GOOD b over):(solG b over).length=if isG b over then 2 ^ (elimG b).2.length else 0:=by
 have hk:=h.ei.kd (tgt b over)
 rw[sol_cnt h.gv]
 by_cases hi:isG b over=true
 ·rw[if_pos hi]
  rw[if_pos (show 0<cnt (colsG b) (tgt b over) from h.is.1 hi)]at hk;exact hk
 ·rw[if_neg hi]
  rw[if_neg (show ¬ 0<cnt (colsG b) (tgt b over) from fun h'=>hi (h.is.2 h'))]at hk;exact hk
def mkS (b:List Int) (free:List Nat) (first:Nat):List (List Int):=(List.range (2 ^ free.length)).map fun x=>putM (gbase b) (gplaces b 0) (first ^^^ val free x)
theorem perm_of_sub {α:Type} [BEq α] [LawfulBEq α]:∀ {l1 l2:List α},l1.Nodup→l1.length=l2.length→(∀ x∈l1,x∈l2)→l1.Perm l2
 | [],l2,_,hl,_=>by rw[List.eq_nil_of_length_eq_zero hl.symm]
 | a :: l1,l2,hn,hl,hs=>by
  have ha:=hs a (by simp)
  have hp:=List.perm_cons_erase ha
  refine .trans (.cons a (perm_of_sub (List.nodup_cons.1 hn).2 (by have:=hp.length_eq;simp only[List.length_cons]at this hl;omega) fun x hx=>?_)) hp.symm
  have hne:x≠a:=fun e=>by subst e;exact (List.nodup_cons.1 hn).1 hx
  exact (List.mem_erase_of_ne hne).2 (hs x (by simp[hx]))
theorem GOOD.perm (h:GOOD b over) (hi:isG b over=true):(solG b over).Perm (mkS b (elimG b).2 (slv (elimG b) (tgt b over)).2):=by
 have hl:=h.len
 rw[if_pos hi]at hl
 refine perm_of_sub (solB_nodup (gopn h.gv)) (by simp only[mkS,List.length_map,List.length_range];exact hl) fun c hc=>?_
 have hs:=(solB_mem (gopn h.gv)).1 hc
 obtain ⟨x,hx,rfl⟩:=put_of (gopn h.gv) hs
 have hov:=ov_put x (gopn h.gv)
 rw[hs.ov,gbase_len]at hov
 have hv:val (colsG b) x=tgt b over:=by
  show val ((gplaces b 0).map (col b.length)) x=ovN (gbase b) ^^^ over
  rw[hov,←Nat.xor_assoc,Nat.xor_self,Nat.zero_xor]
 have hf:=h.first hi
 have hz:val (colsG b) (x ^^^ (slv (elimG b) (tgt b over)).2)=0:=by rw[val_xor,hv,hf,Nat.xor_self]
 have hlt:x ^^^ (slv (elimG b) (tgt b over)).2<2 ^ (colsG b).length:=by
  rw[colsG,List.length_map];exact Nat.xor_lt_two_pow hx h.flt
 obtain ⟨y,hy,hvy⟩:=val_of_inS (h.ei.comp _ hlt hz)
 refine List.mem_map.2 ⟨y,List.mem_range.2 hy,?_⟩
 rw[hvy,Nat.xor_comm x,←Nat.xor_assoc,Nat.xor_self,Nat.zero_xor]
def certV (st:ROWS2×List Nat) (first k:Nat):Int:=if st.2.any (·.testBit k) then 2 else if first.testBit k then 1 else 0
end
end Go.Ab
