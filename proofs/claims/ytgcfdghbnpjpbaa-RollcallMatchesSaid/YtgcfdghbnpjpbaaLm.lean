/- Plan: the loop that takes the targets,the walk. -/
import Derived.Test.YtgcfdghbnpjpbaaLl
set_option linter.unusedSimpArgs false
set_option linter.unusedVariables false
set_option maxRecDepth 20000
set_option maxHeartbeats 4000000
namespace Go.Ab
open Go.Proofs Go.RowKit
theorem callFree {bx0 : List Box} {st : St} {q : List DUE} {per cy : Int} {T : Nat} {nb : List (Option Nat)} {ls : List (List Int)} (h : PST bx0 st.box q per T nb ls) (hn : (ls.length : Int) = cy) (hcy : 0 ≤ cy ∧ cy ≤ 64) {la : Int} (hla : 0 ≤ la) {K : D → St → Prop}
   (hK : ∀ st',st'.grp = st.grp → st'.box.length = st.box.length → PST bx0 st'.box q per T nb ls → (∀ i,T + 4 < i → st'.box[i]? = st.box[i]?) → K (intB (freeN ls per (capI la cy + 1).toNat)) st') :
   FnC Try.prog 31 [intB (capI la cy),.ptr bx0.length 0,.ptr (T + 1) 0,.ptr (T + 3) 0,.ptr (T + 4) 0] st K := by
 obtain ⟨k,m,h1,h2,h3⟩ := h.mp
 have hc : -1 ≤ capI la cy ∧ capI la cy < ls.length := by unfold capI; split <;> omega
 have hlen : (rowsP ls).length = ls.length := by simp [rowsP]
 obtain ⟨d,r,m',k',_,hF,hm',hI⟩ := FREER.ex (rows := rowsP ls) (per := per) _ (capI la cy) m k (Nat.le_refl _) hc.1 (by rw [hlen]; exact hc.2) h3
 have hr : r = freeN ls per (capI la cy + 1).toNat := by
   have := freeN_isf ls per (capI la cy + 1).toNat
   rw [show (((capI la cy + 1).toNat : Nat) : Int) - 1 = capI la cy by omega] at this
   exact hI.uniq this
 subst hr
 have hov := h.ov
 refine freeC h.vars h.rows h1 (by omega) hF hc.2 h2 (hK { st with box := st.box.set (T + 2) (mapBx k' m') } rfl (by simp) (h.map (by have := hF.k0; omega) hm') fun i hi => ?_)
 exact List.getElem?_set_ne (by omega)
theorem mkAgg_p (l : List PD) : mkAgg (l.map D.p) = .p (.agg l) := by
 unfold mkAgg
 rw [allP_map]
theorem planL1 {bx0 : List Box} {q : List DUE} {per cy : Int} {T : Nat} {ls0 : List (List Int)} {nb0 : List (Option Nat)} {g0 : List (Nat × TypeId)} {Q : Ax → Env → St → Prop} {ρ : Env} {st : St} (hq : q.length ≤ 64) (hcy : 0 ≤ cy ∧ cy ≤ 64) (hqb : ∀ x ∈ q,¬ badD x)
   (hl0 : (ls0.length : Int) = cy) (h1 : ρ.get 1 = intB cy) (h12 : ρ.get 12 = .ptr (T + 1) 0) (h14 : ρ.get 14 = .ptr (T + 4) 0) (h48 : ρ.get 48 = .ms (bx0.length + 1) 0 q.length) (h49 : ρ.get 49 = intB q.length) (h50 : ρ.get 50 = intB 0)
   (hp : PST bx0 st.box q per T nb0 ls0) (hg : st.grp = g0) (hs0 : ∀ l ∈ ls0,l = [])
   (hQ : ∀ ρ st nb,ρ.get 12 = .ptr (T + 1) 0 → PST bx0 st.box q per T nb (q.foldl (placeM per cy) ls0) → st.grp = g0 → Q .n ρ st) :
   wpA (FnC Try.prog) (CPo Try.prog) (.blk 2 (.loop none [1,12,14,48,49,50] (ac11_L1 none))) noH Q ρ st := by
 show wpA _ _ (.loop none _ _) noH (Ax.blk 2 Q) ρ st
 refine wloop (fun k ρ st => ∃ (i : Nat) (nb : List (Option Nat)),i + k = q.length ∧ ρ.get 1 = intB cy ∧ ρ.get 12 = .ptr (T + 1) 0 ∧ ρ.get 14 = .ptr (T + 4) 0 ∧ ρ.get 48 = .ms (bx0.length + 1) 0 q.length ∧ ρ.get 49 = intB q.length ∧ ρ.get 50 = intB i ∧
   PST bx0 st.box q per T nb ((q.take i).foldl (placeM per cy) ls0) ∧ st.grp = g0 ∧ ∀ l ∈ (q.take i).foldl (placeM per cy) ls0,l.length ≤ i) q.length ?_ ?_
 · refine ⟨0,nb0,by omega,?_⟩
   simp only [Env.keep,Env.get,Nat.reduceEqDiff,if_true,if_false,h1,h12,h14,h48,h49,h50]
   exact ⟨trivial,trivial,trivial,trivial,trivial,rfl,hp,hg,fun l hl => by rw [hs0 l hl]; exact Nat.le_refl _⟩
 · rintro k ρ st ⟨i,nb,hi,h1,h12,h14,h48,h49,h50,hp,hg,hsl⟩
   unfold ac11_L1
   obtain ⟨ls,hls⟩ : ∃ ls,ls = (q.take i).foldl (placeM per cy) ls0 := ⟨_,rfl⟩
   rw [← hls] at hp hsl
   have hlen : (ls.length : Int) = cy := by rw [hls,fold_len]; exact hl0
   refine wseq (fun ρ' st' => st' = st ∧ ρ' = (51,.p (.v (.bool (decide ((i : Int) < q.length))))) :: ρ) ?_ ?_
   · simp only [wpA,wpR,wpOp,ev,setD,h49,h50,sBin]
     exact ⟨trivial,rfl,rfl⟩
   rintro ρ1 st1 ⟨e1,e2⟩
   rw [e1,e2]
   clear e1 e2 ρ1 st1
   refine wseq (fun ρ' st' => st' = st ∧ ρ' = (51,.p (.v (.bool (decide ((i : Int) < q.length))))) :: ρ ∧ i < q.length) ?_ ?_
   · simp only [wpA,ev,Env.get,if_true]
     refine ⟨fun h => ⟨rfl,rfl,by have := of_decide_eq_true h; omega⟩,fun h => ?_⟩
     have hi' : i = q.length := by have := of_decide_eq_false h; omega
     rw [hi',List.take_length] at hls
     rw [hls] at hp
     exact hQ _ _ nb (by simp only [Env.get]; exact h12) hp hg
   rintro ρ1 st1 ⟨e1,e2,hil⟩
   rw [e1,e2]
   clear e1 e2 ρ1 st1
   obtain ⟨x,hx⟩ : ∃ x,x = q[i] := ⟨_,rfl⟩
   have hla : 0 ≤ x.2.1 ∧ x.2.1 ≤ 1048576 := by
     have := hqb x (by rw [hx]; exact List.getElem_mem hil)
     unfold badD at this; omega
   have hnext : (q.take (i + 1)).foldl (placeM per cy) ls0 = placeM per cy ls x := by
     rw [List.take_add_one,List.getElem?_eq_getElem hil,← hx,List.foldl_append,← hls]; rfl
   refine wseq (fun ρ' st' => ∃ nb',ρ'.get 1 = intB cy ∧ ρ'.get 12 = .ptr (T + 1) 0 ∧ ρ'.get 14 = .ptr (T + 4) 0 ∧ ρ'.get 48 = .ms (bx0.length + 1) 0 q.length ∧ ρ'.get 49 = intB q.length ∧ ρ'.get 50 = intB i ∧
     PST bx0 st'.box q per T nb' (placeM per cy ls x) ∧ st'.grp = g0) ?_ ?_
   · show wpA _ _ (.seq _ _) noH (Ax.blk 3 _) _ _
     refine wseq (fun ρ' st' => st' = { st with box := st.box ++ [{ cells := [intB x.1,intB x.2.1,intB x.2.2],e := 56,fz := false }] } ∧ ρ'.get 1 = intB cy ∧ ρ'.get 12 = .ptr (T + 1) 0 ∧ ρ'.get 14 = .ptr (T + 4) 0 ∧ ρ'.get 48 = .ms (bx0.length + 1) 0 q.length ∧ ρ'.get 49 = intB q.length ∧ ρ'.get 50 = intB i ∧ ρ'.get 16 = .ptr st.box.length 0) ?_ ?_
     · obtain ⟨d1,d2⟩ := due_at hil
       rw [← hx] at d1
       have hag : mkAgg ((((tDue.rows q).map D.p).drop (i * 3)).take 3) = .p (.agg (tDue.cells x)) := by
         rw [← List.map_drop,← List.map_take,d1,mkAgg_p]
       simp only [wpA,wpR,wpOp,ev,setD,Env.get,Nat.reduceEqDiff,if_true,if_false,h48,h50,Int.toNat_natCast,Nat.zero_add,hp.od,get_new,set_new]
       refine ⟨by omega,by omega,trivial,?_,?_⟩
       · rw [List.length_map]
         rw [List.length_drop] at d2
         omega
       · rw [hag]
         refine ⟨trivial,rfl,Nat.le_refl 3,rfl,?_⟩
         refine ⟨rfl,?_⟩
         simp only [Env.get,Nat.reduceEqDiff,if_true,if_false]
         exact ⟨h1,h12,h14,h48,h49,h50,trivial⟩
     · rintro ρ1 st1 ⟨rfl,h1,h12,h14,h48,h49,h50,h16⟩
       have hp1 := hp.push { cells := [intB x.1,intB x.2.1,intB x.2.2],e := 56,fz := false }
       have hxb := get_new st.box { cells := [intB x.1,intB x.2.1,intB x.2.2],e := 56,fz := false }
       have hmT : T + 4 < st.box.length := hp.ov
       have hfar : ∀ (j b : Nat),nb[j]? = some (some b) → b ≠ st.box.length := fun j b hj => by have := hp.rows.lt hj; omega
       obtain ⟨st1,hst1⟩ : ∃ st1 : St,st1 = { st with box := st.box ++ [{ cells := [intB x.1,intB x.2.1,intB x.2.2],e := 56,fz := false }] } := ⟨_,rfl⟩
       rw [show st.box ++ [{ cells := [intB x.1,intB x.2.1,intB x.2.2],e := 56,fz := false }] = st1.box by rw [hst1]] at hp1 hxb
       have hg1 : st1.grp = g0 := by rw [hst1]; exact hg
       rw [← hst1]
       obtain ⟨mx,hmx⟩ : ∃ mx,mx = st.box.length := ⟨_,rfl⟩
       rw [← hmx] at hxb hmT hfar h16
       clear hst1 hp hg
       obtain ⟨Br,v1,v2,v3,v4⟩ := hp1.vars.r
       refine wseq (fun ρ' st' => ρ'.get 1 = intB cy ∧ ρ'.get 12 = .ptr (T + 1) 0 ∧ ρ'.get 14 = .ptr (T + 4) 0 ∧ ρ'.get 48 = .ms (bx0.length + 1) 0 q.length ∧ ρ'.get 49 = intB q.length ∧ ρ'.get 50 = intB i ∧ ρ'.get 16 = .ptr mx 0 ∧
         ρ'.get 17 = intB (freeN ls per (capI x.2.1 cy + 1).toNat) ∧ PST bx0 st'.box q per T nb ls ∧ st'.grp = g0 ∧ st'.box[mx]? = some { cells := [intB x.1,intB x.2.1,intB x.2.2],e := 56,fz := false }) ?_ ?_
       · simp only [wpA,wpR,wpOp,ev,setD,Env.get,Nat.reduceEqDiff,if_true,if_false,h14,v1]
         refine ⟨v2,_,by rw [v4]; rfl,?_⟩
         simp only [Env.get,Nat.reduceEqDiff,if_true,if_false,h16,hxb,Nat.zero_add]
         refine ⟨trivial,_,rfl,?_⟩
         simp only [Env.get,Nat.reduceEqDiff,if_true,if_false,h1,cstP,sBin,List.map_cons,List.map_nil,ev,List.nil_append]
         refine ⟨trivial,trivial,?_⟩
         rw [wrap64 (n := cy - 1) (by omega) (by omega)]
         refine callFree (la := x.2.1) hp1 hlen hcy hla.1 fun st2 hg2 hl2 hp2 ho2 => ?_
         show _ ∧ _
         simp only [Env.get,Nat.reduceEqDiff,if_true,if_false]
         exact ⟨h1,h12,h14,h48,h49,h50,h16,trivial,hp2,hg2.trans hg1,(ho2 mx (by omega)).trans hxb⟩
       · clear hp1 hg1 hxb v1 v2 v3 v4 Br st1 h1 h12 h14 h48 h49 h50 h16 ρ1
         rintro ρ1 st1 ⟨h1,h12,h14,h48,h49,h50,h16,h17,hp,hg,hxb⟩
         obtain ⟨r,hr⟩ : ∃ r,r = freeN ls per (capI x.2.1 cy + 1).toNat := ⟨_,rfl⟩
         rw [← hr] at h17
         refine wseq (fun ρ' st' => st' = st1 ∧ ρ' = (62,.p (.v (.bool (decide (r ≥ 0))))) :: (61,intB r) :: ρ1) ?_ ?_
         · simp only [wpA,wpR,wpOp,ev,setD,h17,cstP,sBin,Env.get,Nat.reduceEqDiff,if_true,if_false]
           exact ⟨trivial,rfl,rfl⟩
         rintro ρ2 st2 ⟨e1,e2⟩
         rw [e1,e2]
         clear e1 e2 ρ2 st2
         simp only [wpA,ev,Env.get,if_true]
         refine ⟨fun h => ?_,fun h => ?_⟩
         · have hr0 : 0 ≤ r := of_decide_eq_true h
           have hisf := freeN_isf ls per (capI x.2.1 cy + 1).toNat
           rw [← hr] at hisf
           have hrc : r < ls.length := by
             have h5 := hisf.le
             have : capI x.2.1 cy < cy := by unfold capI; split <;> omega
             have : -1 ≤ capI x.2.1 cy := by unfold capI; split <;> omega
             omega
           obtain ⟨rN,hrN⟩ : ∃ rN : Nat,r = rN := ⟨r.toNat,by omega⟩
           have hrl : rN < ls.length := by omega
           have hrb : rN < nb.length := by rw [hp.rows.n]; exact hrl
           have hgl : ls[rN]? = some ls[rN] := List.getElem?_eq_getElem hrl
           have hgd : ls.getD rN [] = ls[rN] := by rw [List.getD,hgl]; rfl
           have hpl : placeM per cy ls x = ls.set rN (ls[rN] ++ [x.1]) := by
             unfold placeM
             rw [← hr,hrN,if_pos (by omega),Int.toNat_natCast,hgd]
           have hli : ls[rN].length ≤ i := hsl _ (List.getElem_mem hrl)
           rw [hpl]
           rw [hrN] at h17 ⊢
           clear hr hrN hisf hrc hr0 h r hpl hnext
           obtain ⟨Bo,o1,o2,o3,o4⟩ := hp.vars.o
           have htb := hp.rows.tb
           have hzg := zip_get hp.rows.n hrl
           have hov := hp.ov
           have hltT := hp.lt
           obtain ⟨d,hd⟩ : ∃ d,d = cellOf nb[rN] ls[rN] := ⟨_,rfl⟩
           rw [← hd] at hzg
           simp only [wpDs,wpD,touchB,readsB,wpOp,ev,setD,plF,Env.get,Nat.reduceEqDiff,if_true,if_false,h12,o1,reduceCtorEq,false_implies,implies_true,true_and]
           refine ⟨o2,_,by rw [o4]; rfl,?_⟩
           simp only [Env.get,Nat.reduceEqDiff,if_true,if_false,h12,o1,h17]
           refine ⟨o2,_,by rw [o4]; rfl,?_⟩
           simp only [Env.get,Nat.reduceEqDiff,if_true,if_false,h17,Int.toNat_natCast,Nat.mul_one,Nat.zero_add,htb]
           refine ⟨by omega,by omega,trivial,d,hzg,?_⟩
           simp only [Env.get,Nat.reduceEqDiff,if_true,if_false,h16,Nat.add_zero,hxb]
           refine ⟨trivial,_,rfl,?_⟩
           split
           rotate_left
           · rename_i hcs
             cases (show some [intP x.1] = none from hcs)
           rename_i cs hcs
           obtain rfl : [intP x.1] = cs := Option.some.inj (show some [intP x.1] = some cs from hcs)
           have hnb : nb[rN]? = some nb[rN] := List.getElem?_eq_getElem hrb
           cases hb : nb[rN] with
           | none =>
             rw [hb] at hd hnb
             have hd : d = .p (.sl (some true) 0 []) := hd
             subst hd
             have hle : ls[rN] = [] := by
               have := hp.rows.no rN hnb
               rw [hgl] at this
               exact Option.some.inj this
             simp only [reduceCtorEq,false_implies,implies_true,true_and,Env.get,Nat.reduceEqDiff,if_true,if_false,srcP,toP]
             have htb' := get_push htb (rowBox [x.1])
             refine ⟨rfl,by decide,by decide,.inr (.inr ⟨Nat.one_pos,?_⟩)⟩
             show wpR _ _ _ _ { st1 with box := st1.box ++ [rowBox [x.1]] }
             simp only [wpR,wpOp,ev,setD,Env.get,Nat.reduceEqDiff,if_true,if_false,Int.toNat_natCast,Nat.mul_one,Nat.zero_add,htb']
             refine ⟨by omega,by omega,trivial,rfl,by rw [List.length_zipWith]; have := hp.rows.n; omega,rfl,?_⟩
             refine ⟨nb.set rN (some st1.box.length),?_⟩
             simp only [Env.get,Nat.reduceEqDiff,if_true,if_false]
             refine ⟨h1,h12,h14,h48,h49,h50,?_,hg⟩
             rw [hle,List.nil_append]
             refine hp.app hrl (by rw [hgd,hle]; exact Nat.zero_le _) ?_ (fun j hj1 hj2 hj3 => ?_) ?_
             · rw [get_self htb']
               exact congrArg some (congrArg (fun c => Box.mk c 41 false true false) (put_set (by rw [List.length_zipWith]; have := hp.rows.n; omega) _))
             · show ((st1.box ++ _).set T _)[j]? = _
               rw [List.getElem?_set_ne (Ne.symm hj2),List.getElem?_append_left hj1]
             · exact get_set (get_new _ _) (by omega) _
           | some b =>
             rw [hb] at hd hnb
             have hd : d = .ms b 0 ls[rN].length := hd
             subst hd
             have hB := hp.rows.so rN b _ hnb hgl
             have hbf := hp.far rN b hnb
             have hbm := hfar rN b hnb
             refine ⟨fun j hj hm => ?_,?_⟩
             · obtain rfl : b = j := Option.some.inj hj
               have hm : b ∈ [mx,T,T + 1,T + 1] := hm
               simp only [List.mem_cons,List.not_mem_nil,or_false] at hm
               omega
             simp only [reduceCtorEq,false_implies,implies_true,true_and,Env.get,Nat.reduceEqDiff,if_true,if_false,srcP,toP,hB]
             refine ⟨rfl,rfl,rfl,rfl,by simp [rowBox],by omega,by unfold maxLen; omega,.inr ?_⟩
             have hrow : (rowBox ls[rN]).cells.take ls[rN].length ++ [intP x.1].map D.p = (rowBox (ls[rN] ++ [x.1])).cells := by
               rw [List.take_of_length_le (by simp [rowBox])]
               simp [rowBox]
             obtain ⟨bx,hbx⟩ : ∃ bx,bx = st1.box.set b { rowBox ls[rN] with cells := [],fz := true } := ⟨_,rfl⟩
             have hbl : bx.length = st1.box.length := by rw [hbx,List.length_set]
             have htb' : (bx ++ [rowBox (ls[rN] ++ [x.1])])[T]? = _ := get_push (by rw [hbx]; exact get_set htb (by omega) _) _
             have hst : St.mk (st1.box.set b { rowBox ls[rN] with cells := [],fz := true } ++ [{ cells := (rowBox ls[rN]).cells.take ls[rN].length ++ [intP x.1].map D.p,e := 3,fz := false,ap := true }]) st1.grp = ⟨bx ++ [rowBox (ls[rN] ++ [x.1])],st1.grp⟩ := by
               rw [hrow,hbx]; rfl
             show wpR _ _ _ _ (St.mk (st1.box.set b { rowBox ls[rN] with cells := [],fz := true } ++ [{ cells := (rowBox ls[rN]).cells.take ls[rN].length ++ [intP x.1].map D.p,e := 3,fz := false,ap := true }]) st1.grp)
             rw [hst]
             simp only [wpR,wpOp,ev,setD,Env.get,Nat.reduceEqDiff,if_true,if_false,Int.toNat_natCast,Nat.mul_one,Nat.zero_add,htb']
             refine ⟨by omega,by omega,trivial,rfl,by rw [List.length_zipWith]; have := hp.rows.n; omega,rfl,?_⟩
             refine ⟨nb.set rN (some st1.box.length),?_⟩
             simp only [Env.get,Nat.reduceEqDiff,if_true,if_false]
             refine ⟨h1,h12,h14,h48,h49,h50,?_,hg⟩
             refine hp.app hrl (by rw [hgd]; simp) ?_ (fun j hj1 hj2 hj3 => ?_) ?_
             · rw [get_self htb',List.length_append]
               exact congrArg some (congrArg (fun c => Box.mk c 41 false true false) (put_set (by rw [List.length_zipWith]; have := hp.rows.n; omega) _))
             · show ((bx ++ _).set T _)[j]? = _
               rw [List.getElem?_set_ne (Ne.symm hj2),List.getElem?_append_left (by omega),hbx,List.getElem?_set_ne (Ne.symm (hj3 b hnb))]
             · rw [← hbl]
               exact get_set (get_new _ _) (by omega) _
         · have hr0 : ¬ r ≥ 0 := of_decide_eq_false h
           refine ⟨nb,?_⟩
           simp only [Env.get,Nat.reduceEqDiff,if_true,if_false]
           rw [show placeM per cy ls x = ls by unfold placeM; rw [← hr,if_neg hr0]]
           exact ⟨h1,h12,h14,h48,h49,h50,hp,hg⟩
   · rintro ρ1 st1 ⟨nb',h1,h12,h14,h48,h49,h50,hp,hg⟩
     simp only [wpA,wpR,wpOp,ev,setD,Env.get,Nat.reduceEqDiff,if_true,if_false,h50,cstP,sBin]
     refine ⟨trivial,k - 1,by omega,i + 1,nb',by omega,?_⟩
     simp only [Env.keep,Env.get,Nat.reduceEqDiff,if_true,if_false]
     rw [hnext]
     refine ⟨h1,h12,h14,h48,h49,?_,hp,hg,?_⟩
     · rw [wrap64 (n := (i : Int) + 1) (by omega) (by omega)]
       rfl
     · intro l hl
       unfold placeM at hl
       split at hl
       · rcases List.mem_or_eq_of_mem_set hl with hl | rfl
         · have := hsl l hl; omega
         · rw [List.length_append]
           have : ∀ r : Nat,(ls.getD r []).length ≤ i := fun r => by
             rw [List.getD]
             cases h : ls[r]? with
             | none => exact Nat.zero_le _
             | some l => exact hsl l (List.mem_of_getElem? h)
           have := this (freeN ls per (capI x.2.1 cy + 1).toNat).toNat
           simp only [List.length_cons,List.length_nil]
           omega
       · have := hsl l hl; omega
end Go.Ab
