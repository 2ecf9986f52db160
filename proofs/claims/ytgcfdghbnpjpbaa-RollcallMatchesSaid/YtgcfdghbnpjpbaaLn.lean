/- Plan: the rows are sorted; Plan as a call. -/
import Derived.Test.YtgcfdghbnpjpbaaLm
set_option linter.unusedSimpArgs false
set_option linter.unusedVariables false
set_option maxRecDepth 20000
set_option maxHeartbeats 4000000
namespace Go.Ab
open Go.Proofs Go.RowKit
theorem srtI_len (l : List Int) : (srtI l).length = l.length := List.length_mergeSort l
theorem cellOf_len {o : Option Nat} {l l' : List Int} (h : l.length = l'.length) : cellOf o l = cellOf o l' := by
 cases o <;> simp [cellOf,h]
theorem zip_len {nb : List (Option Nat)} {ls ls' : List (List Int)} (h : ls.map List.length = ls'.map List.length) : List.zipWith cellOf nb ls = List.zipWith cellOf nb ls' := by
 induction ls generalizing ls' nb with
 | nil => cases ls' with
   | nil => rfl
   | cons => simp at h
 | cons l ls ih => cases ls' with
   | nil => simp at h
   | cons l' ls' =>
     simp only [List.map_cons,List.cons.injEq] at h
     cases nb with
     | nil => rfl
     | cons o nb => simp only [List.zipWith_cons_cons]; rw [cellOf_len h.1,ih h.2]
theorem PST.put {bx0 bx : List Box} {q : List DUE} {per : Int} {T r b : Nat} {nb : List (Option Nat)} {ls : List (List Int)} {l : List Int} (h : PST bx0 bx q per T nb ls) (hr : r < ls.length) (hl : l.length = ls[r].length) (hb : nb[r]? = some (some b)) :
   PST bx0 (bx.set b (rowBox l)) q per T nb (ls.set r l) := by
 have hov := h.ov
 have hlt := h.lt
 have hbf := h.far r b hb
 have hg : ∀ i,i ≠ b → (bx.set b (rowBox l))[i]? = bx[i]? := fun i hi => List.getElem?_set_ne (Ne.symm hi)
 have hml : (ls.set r l).map List.length = ls.map List.length := by
   apply List.ext_getElem?
   intro i
   rw [List.getElem?_map,List.getElem?_map,List.getElem?_set]
   by_cases hi : r = i
   · subst hi; rw [if_pos rfl,if_pos hr,List.getElem?_eq_getElem hr]; simp [hl]
   · rw [if_neg hi]
 refine ⟨h.pref.set (by omega) _,by rw [hg _ (by omega)]; exact h.od,h.lt,?_,⟨by rw [List.length_set]; exact h.rows.n,?_,fun i hi => ?_,fun i b' l' hi hl' => ?_,h.rows.inj⟩,h.far,?_⟩
 · rw [List.length_set]
   exact h.vars.keep (hg _ (by omega)) (hg _ (by omega)) (hg _ (by omega)) (hg _ (by omega))
 · rw [hg _ (by omega),zip_len hml]; exact h.rows.tb
 · have := h.rows.no i hi
   rw [List.getElem?_set]
   by_cases hri : r = i
   · subst hri; rw [hb] at hi; cases hi
   · rw [if_neg hri]; exact this
 · rw [List.getElem?_set] at hl'
   by_cases hri : r = i
   · subst hri
     rw [if_pos rfl,if_pos hr] at hl'
     obtain rfl := Option.some.inj hl'
     rw [hb] at hi
     obtain rfl := Option.some.inj (Option.some.inj hi)
     rw [List.getElem?_set_self (by have := h.rows.lt hb; omega)]
   · rw [if_neg hri] at hl'
     rw [hg b' (fun e => hri (h.rows.inj r i b hb (e ▸ hi)))]
     exact h.rows.so i b' l' hi hl'
 · obtain ⟨k,m,h1,h2,h3⟩ := h.mp
   refine ⟨k,m,by rw [hg _ (by omega)]; exact h1,h2,h3.grow (by simp) fun j => ?_⟩
   simp only [List.getD,List.getElem?_set]
   by_cases hj : r = j
   · subst hj
     rw [if_pos rfl,if_pos hr,List.getElem?_eq_getElem hr]
     simp [hl]
   · rw [if_neg hj]; exact Nat.le_refl _
def halfS (ls : List (List Int)) (i : Nat) : List (List Int) := (ls.take i).map srtI ++ ls.drop i
theorem halfS_len (ls : List (List Int)) (i : Nat) : (halfS ls i).length = ls.length := by simp [halfS]; omega
theorem halfS_succ {ls : List (List Int)} {i : Nat} (h : i < ls.length) : halfS ls (i + 1) = (halfS ls i).set i (srtI ls[i]) ∧ (halfS ls i)[i]? = some ls[i] := by
 unfold halfS
 have hl : ((ls.take i).map srtI).length = i := by simp; omega
 constructor
 · rw [List.set_append_right i _ (by omega),hl,Nat.sub_self,List.drop_eq_getElem_cons h,List.set_cons_zero,List.take_add_one,List.getElem?_eq_getElem h,List.map_append,List.append_assoc]
   rfl
 · rw [List.getElem?_append_right (by omega),hl,Nat.sub_self,List.drop_eq_getElem_cons h]; rfl
theorem planL2 {bx0 : List Box} {q : List DUE} {per : Int} {T : Nat} {ls : List (List Int)} {nb : List (Option Nat)} {g0 : List (Nat × TypeId)} {Q : Ax → Env → St → Prop} {ρ : Env} {st : St} (hls : ls.length ≤ 64) (hsl : ∀ l ∈ ls,l.length ≤ 64)
   (h12 : ρ.get 12 = .ptr (T + 1) 0) (h75 : ρ.get 75 = .ms T 0 ls.length) (h76 : ρ.get 76 = intB ls.length) (h77 : ρ.get 77 = intB 0)
   (hp : PST bx0 st.box q per T nb ls) (hg : st.grp = g0)
   (hQ : ∀ ρ st,ρ.get 12 = .ptr (T + 1) 0 → PST bx0 st.box q per T nb (ls.map srtI) → st.grp = g0 → Q .n ρ st) :
   wpA (FnC Try.prog) (CPo Try.prog) (.blk 4 (.loop none [12,75,76,77] (ac11_L2 none))) noH Q ρ st := by
 show wpA _ _ (.loop none _ _) noH (Ax.blk 4 Q) ρ st
 refine wloop (fun k ρ st => ∃ i : Nat,i + k = ls.length ∧ ρ.get 12 = .ptr (T + 1) 0 ∧ ρ.get 75 = .ms T 0 ls.length ∧ ρ.get 76 = intB ls.length ∧ ρ.get 77 = intB i ∧ PST bx0 st.box q per T nb (halfS ls i) ∧ st.grp = g0) ls.length ?_ ?_
 · refine ⟨0,by omega,?_⟩
   simp only [Env.keep,Env.get,Nat.reduceEqDiff,if_true,if_false,h12,h75,h76,h77]
   exact ⟨trivial,trivial,trivial,rfl,hp,hg⟩
 · rintro k ρ st ⟨i,hi,h12,h75,h76,h77,hp,hg⟩
   unfold ac11_L2
   refine wseq (fun ρ' st' => st' = st ∧ ρ' = (78,.p (.v (.bool (decide ((i : Int) < ls.length))))) :: ρ) ?_ ?_
   · simp only [wpA,wpR,wpOp,ev,setD,h76,h77,sBin]
     exact ⟨trivial,rfl,rfl⟩
   rintro ρ1 st1 ⟨e1,e2⟩
   rw [e1,e2]
   clear e1 e2 ρ1 st1
   refine wseq (fun ρ' st' => st' = st ∧ ρ' = (78,.p (.v (.bool (decide ((i : Int) < ls.length))))) :: ρ ∧ i < ls.length) ?_ ?_
   · simp only [wpA,ev,Env.get,if_true]
     refine ⟨fun h => ⟨rfl,rfl,by have := of_decide_eq_true h; omega⟩,fun h => ?_⟩
     have hi' : i = ls.length := by have := of_decide_eq_false h; omega
     have : halfS ls i = ls.map srtI := by rw [hi',halfS,List.take_length,List.drop_length,List.append_nil]
     rw [this] at hp
     exact hQ _ _ (by simp only [Env.get]; exact h12) hp hg
   rintro ρ1 st1 ⟨e1,e2,hil⟩
   rw [e1,e2]
   clear e1 e2 ρ1 st1
   obtain ⟨s1,s2⟩ := halfS_succ hil
   have hhl := halfS_len ls i
   have hhi : i < (halfS ls i).length := by omega
   have hhe : (halfS ls i)[i] = ls[i] := by rw [List.getElem?_eq_getElem hhi] at s2; exact Option.some.inj s2
   have hib : i < nb.length := by rw [hp.rows.n]; exact hhi
   refine wseq (fun ρ' st' => ρ'.get 12 = .ptr (T + 1) 0 ∧ ρ'.get 75 = .ms T 0 ls.length ∧ ρ'.get 76 = intB ls.length ∧ ρ'.get 77 = intB i ∧ PST bx0 st'.box q per T nb (halfS ls (i + 1)) ∧ st'.grp = g0) ?_ ?_
   · show wpA _ _ (.seq _ _) noH (Ax.blk 5 _) _ _
     refine wseq (fun ρ' st' => st' = st ∧ ρ'.get 12 = .ptr (T + 1) 0 ∧ ρ'.get 75 = .ms T 0 ls.length ∧ ρ'.get 76 = intB ls.length ∧ ρ'.get 77 = intB i ∧ ρ'.get 19 = cellOf nb[i] (halfS ls i)[i]) ?_ ?_
     · have htb := hp.rows.tb
       have hzg := zip_get hp.rows.n hhi
       simp only [wpA,wpR,wpOp,ev,setD,Env.get,Nat.reduceEqDiff,if_true,if_false,h75,h77,Int.toNat_natCast,Nat.mul_one,Nat.zero_add,htb]
       refine ⟨by omega,by omega,trivial,_,hzg,?_⟩
       show _ ∧ _
       simp only [Env.get,Nat.reduceEqDiff,if_true,if_false]
       exact ⟨trivial,h12,h75,h76,h77,trivial⟩
     · rintro ρ1 st1 ⟨rfl,h12,h75,h76,h77,h19⟩
       simp only [wpA,wpR,wpOp,ev,setD,Env.get,Nat.reduceEqDiff,if_true,if_false,h19,List.map_cons,List.map_nil]
       rw [s1]
       have hnb : nb[i]? = some nb[i] := List.getElem?_eq_getElem hib
       cases hb : nb[i] with
       | none =>
         rw [hb] at hnb
         have := hp.rows.no i hnb
         rw [s2] at this
         have hle : ls[i] = [] := Option.some.inj this
         refine sortI_nil ?_
         show _ ∧ _
         simp only [Env.get,Nat.reduceEqDiff,if_true,if_false]
         refine ⟨h12,h75,h76,h77,?_,hg⟩
         have : (halfS ls i).set i (srtI ls[i]) = halfS ls i := by
           rw [hle]
           apply List.ext_getElem?
           intro j
           rw [List.getElem?_set]
           by_cases hj : i = j
           · subst hj
             rw [if_pos rfl,if_pos hhi,s2,hle]
             simp [srtI]
           · rw [if_neg hj]
         rw [this]; exact hp
       | some b =>
         rw [hb] at hnb
         have hB := hp.rows.so i b _ hnb s2
         have hll : ls[i].length ≤ 64 := hsl _ (List.getElem_mem hil)
         refine sortI_calls (i := b) (n := (halfS ls i)[i].length) hB rfl ls[i] (by rw [hhe]) (by rw [hhe]; omega) rfl ?_
         show _ ∧ _
         simp only [Env.get,Nat.reduceEqDiff,if_true,if_false]
         exact ⟨h12,h75,h76,h77,hp.put hhi (by rw [srtI_len,hhe]) hnb,hg⟩
   · rintro ρ1 st1 ⟨h12,h75,h76,h77,hp,hg⟩
     simp only [wpA,wpR,wpOp,ev,setD,Env.get,Nat.reduceEqDiff,if_true,if_false,h77,cstP,sBin]
     refine ⟨trivial,k - 1,by omega,i + 1,by omega,?_⟩
     simp only [Env.keep,Env.get,Nat.reduceEqDiff,if_true,if_false]
     refine ⟨h12,h75,h76,?_,hp,hg⟩
     rw [wrap64 (n := (i : Int) + 1) (by omega) (by omega)]
     rfl
theorem place_row {per cy : Int} {ls : List (List Int)} {x : DUE} {k : Nat} (h : ∀ l ∈ ls,l.length ≤ k) : ∀ l ∈ placeM per cy ls x,l.length ≤ k + 1 := fun l hl => by
 unfold placeM at hl
 split at hl
 · rcases List.mem_or_eq_of_mem_set hl with hl | rfl
   · have := h l hl; omega
   · rw [List.length_append]
     have : ∀ r : Nat,(ls.getD r []).length ≤ k := fun r => by
       rw [List.getD]
       cases h' : ls[r]? with
       | none => exact Nat.zero_le _
       | some l => exact h l (List.mem_of_getElem? h')
     have := this (freeN ls per (capI x.2.1 cy + 1).toNat).toNat
     simp only [List.length_cons,List.length_nil]
     omega
 · have := h l hl; omega
theorem fold_row (per cy : Int) : ∀ (q : List DUE) (ls : List (List Int)) (k : Nat),(∀ l ∈ ls,l.length ≤ k) → ∀ l ∈ q.foldl (placeM per cy) ls,l.length ≤ k + q.length
 | [],_,_,h,l,hl => h l hl
 | x :: q,ls,k,h,l,hl => by
   have := fold_row per cy q _ (k + 1) (place_row h) l hl
   rw [List.length_cons]; omega
noncomputable def planN (l : List DUE) (cy per : Int) : List (List Int) := ((sortT l).foldl (placeM per cy) (List.replicate cy.toNat [])).map srtI
theorem rep_flat (n : Nat) : (List.replicate n [D.p (.v (.int .i64 0)),D.p (.v (.int .i64 0)),D.p (.v (.int .i64 0))]).flatten = (tDue.rows (List.replicate n Z3)).map .p := by
 induction n with
 | zero => rfl
 | succ n ih => rw [List.replicate_succ,List.flatten_cons,ih,List.replicate_succ]; rfl
theorem zip_nil (n : Nat) : List.zipWith cellOf (List.replicate n none) (List.replicate n []) = List.replicate n (D.p (.sl (some true) 0 [])) := by
 induction n with
 | zero => rfl
 | succ n ih => rw [List.replicate_succ,List.replicate_succ,List.replicate_succ,List.zipWith_cons_cons,ih]; rfl
theorem flat_one (n : Nat) (d : D) : (List.replicate n [d]).flatten = List.replicate n d := by
 induction n with
 | zero => rfl
 | succ n ih => rw [List.replicate_succ,List.flatten_cons,ih,List.replicate_succ]; rfl
theorem planW {l : List DUE} {nl : Option Bool} {cy per : Int} {st : St} {K : D → St → Prop} (hl : l.length ≤ 2000)
   (hE : wrnM l cy per ≠ 0 → ∀ st' : St,PREF st.box st'.box → st'.grp = st.grp → K (.p (.tup [.sl (some true) 0 [],intP (wrnM l cy per)])) st')
   (hO : wrnM l cy per = 0 → ∀ (st' : St) T nb,PST st.box st'.box (sortT l) per T nb (planN l cy per) → st'.grp = st.grp → K (.tup [.ms T 0 (planN l cy per).length,intB 0]) st') :
   wpA (FnC Try.prog) (CPo Try.prog) (ac11 none) noH (retQ [.tmp 6,.tmp 7] K) (argsEnv 0 [injL nl l,intB cy,intB per]) st := by
 unfold ac11
 refine wseq (fun ρ' st' => ρ'.get 0 = injL nl l ∧ ρ'.get 1 = intB cy ∧ ρ'.get 5 = .ptr st.box.length 0 ∧ st' = { st with box := st.box ++ [perBox per] }) ?_ ?_
 · simp only [wpA,wpR,wpOp,ev,setD,argsEnv,Env.get,Nat.reduceEqDiff,if_true,if_false]
   refine ⟨rfl,?_⟩
   show _ ∧ _
   simp only [Env.get,Nat.reduceEqDiff,if_true,if_false]
   exact ⟨trivial,trivial,trivial,rfl⟩
 rintro ρ st1 ⟨h0,h1,h5,rfl⟩
 refine wseq (fun ρ' st' => wrnM l cy per = 0 ∧ ρ'.get 0 = injL nl l ∧ ρ'.get 1 = intB cy ∧ ρ'.get 5 = .ptr st.box.length 0 ∧ st' = { st with box := st.box ++ [perBox per] }) ?_ ?_
 · refine wseq (fun ρ' st' => ρ'.get 8 = intB (wrnM l cy per) ∧ ρ'.get 0 = injL nl l ∧ ρ'.get 1 = intB cy ∧ ρ'.get 5 = .ptr st.box.length 0 ∧ st' = { st with box := st.box ++ [perBox per] }) ?_ ?_
   · simp only [wpA,wpR,wpOp,ev,setD,Env.get,Nat.reduceEqDiff,if_true,if_false,h0,h1,h5,get_new,List.map_cons,List.map_nil]
     refine ⟨trivial,_,rfl,?_⟩
     refine chkC hl ?_
     show _ ∧ _
     simp only [Env.get,Nat.reduceEqDiff,if_true,if_false]
     exact ⟨trivial,h0,h1,h5,trivial⟩
   rintro ρ1 st1 ⟨h8,h0,h1,h5,rfl⟩
   refine wseq (fun ρ' st' => st' = { st with box := st.box ++ [perBox per] } ∧ ρ' = (25,.p (.v (.bool (wrnM l cy per != 0)))) :: (24,intB (wrnM l cy per)) :: ρ1) ?_ ?_
   · simp only [wpA,wpR,wpOp,ev,setD,h8,cstP,sBin,Env.get,Nat.reduceEqDiff,if_true,if_false]
     exact ⟨trivial,rfl,rfl⟩
   rintro ρ2 st2 ⟨rfl,rfl⟩
   simp only [wpA,ev,Env.get,if_true]
   refine ⟨fun h => ?_,fun h => ?_⟩
   · have hne : wrnM l cy per ≠ 0 := by simpa using h
     simp only [wpR,wpOp,ev,setD,h8,cstP,Env.get,Nat.reduceEqDiff,if_true,if_false,retQ,wpRes,wpRes1,Ax.thn]
     exact hE hne _ ((PREF.refl _).push _) rfl
   · have heq : wrnM l cy per = 0 := by simpa using h
     show _ ∧ _
     simp only [Env.get,Nat.reduceEqDiff,if_true,if_false]
     exact ⟨heq,h0,h1,h5,trivial⟩
 rintro ρ st1 ⟨hw,h0,h1,h5,rfl⟩
 have hck : chkD l = 0 ∧ 0 ≤ cy ∧ cy ≤ 64 := by
   unfold wrnM at hw
   split at hw
   · rename_i h; exact absurd hw h
   · rename_i h
     split at hw
     · cases hw
     · exact ⟨Classical.not_not.1 h,by omega,by omega⟩
 have hD := chkD_ok hck.1
 have hO := hO hw
 obtain ⟨s1,s2,s3⟩ := sortT_spec l
 refine wseq (fun ρ' st' => ρ'.get 0 = injL nl l ∧ ρ'.get 1 = intB cy ∧ ρ'.get 5 = .ptr st.box.length 0 ∧ ρ'.get 9 = .ms (st.box.length + 1) 0 l.length ∧ st' = { st with box := st.box ++ [perBox per] ++ [ordBox (List.replicate l.length Z3)] }) ?_ ?_
 · simp only [wpA,wpR,wpOp,ev,setD,Env.get,Nat.reduceEqDiff,if_true,if_false,h0,injL,List.length_append,List.length_cons,List.length_nil,Nat.zero_add,Int.toNat_natCast,rep_flat]
   have hn := hD.n
   refine ⟨by omega,by omega,by omega,by unfold maxLen; omega,?_⟩
   show _ ∧ _
   simp only [Env.get,Nat.reduceEqDiff,if_true,if_false]
   exact ⟨h0,h1,h5,trivial,trivial⟩
 clear h0 h1 h5 ρ
 rintro ρ st1 ⟨h0,h1,h5,h9,rfl⟩
 refine wseq (fun ρ' st' => ρ'.get 1 = intB cy ∧ ρ'.get 5 = .ptr st.box.length 0 ∧ ρ'.get 9 = .ms (st.box.length + 1) 0 l.length ∧ PREF st.box st'.box ∧ st'.grp = st.grp ∧ st'.box[st.box.length]? = some (perBox per) ∧ st'.box[st.box.length + 1]? = some (ordBox l)) ?_ ?_
 · refine wseq (fun ρ' st' => ρ'.get 1 = intB cy ∧ ρ'.get 5 = .ptr st.box.length 0 ∧ ρ'.get 9 = .ms (st.box.length + 1) 0 l.length ∧ ρ'.get 30 = injL nl l ∧ ρ'.get 31 = intB l.length ∧ ρ'.get 32 = intB 0 ∧ st' = { st with box := st.box ++ [perBox per] ++ [ordBox (List.replicate l.length Z3)] }) ?_ ?_
   · simp only [wpA,wpR,wpOp,ev,setD,Env.get,Nat.reduceEqDiff,if_true,if_false,h0,injL,cstP]
     show _ ∧ _
     simp only [Env.get,Nat.reduceEqDiff,if_true,if_false]
     exact ⟨h1,h5,h9,trivial,trivial,trivial,trivial⟩
   · rintro ρ1 st1 ⟨h1,h5,h9,h30,h31,h32,rfl⟩
     refine planL0 (g0 := st.grp) (by have := hD.n; omega) h1 h5 h9 h30 h31 h32 (((PREF.refl _).push _).push _) rfl (get_push (get_new _ _) _) ?_ fun ρ st' h1 h5 h9 hp hg hb0 hb1 => ⟨h1,h5,h9,hp,hg,hb0,hb1⟩
     have := get_new (st.box ++ [perBox per]) (ordBox (List.replicate l.length Z3))
     rw [List.length_append] at this
     exact this
 clear h0 h1 h5 h9 ρ
 rintro ρ st1 ⟨h1,h5,h9,hp,hg,hb0,hb1⟩
 refine wseq (fun ρ' st' => ρ'.get 1 = intB cy ∧ ρ'.get 5 = .ptr st.box.length 0 ∧ ρ'.get 9 = .ms (st.box.length + 1) 0 l.length ∧ PREF st.box st'.box ∧ st'.grp = st.grp ∧ st'.box[st.box.length]? = some (perBox per) ∧ st'.box[st.box.length + 1]? = some (ordBox (sortT l))) ?_ ?_
 · simp only [wpA,wpR,wpOp,ev,setD,Env.get,Nat.reduceEqDiff,if_true,if_false,h9,List.map_cons,List.map_nil]
   refine sort_calls hb1 rfl l rfl (by have := hD.n; omega) rfl ?_
   show _ ∧ _
   simp only [Env.get,Nat.reduceEqDiff,if_true,if_false]
   exact ⟨h1,h5,h9,hp.set (by omega) _,hg,get_set hb0 (by omega) _,get_self hb1 _⟩
 clear h1 h5 h9 hp hg hb0 hb1 st1 ρ
 rintro ρ st1 ⟨h1,h5,h9,hp,hg,hb0,hb1⟩
 have hlen1 := (List.getElem?_eq_some_iff.1 hb1).1
 obtain ⟨T,hT⟩ : ∃ T,T = st1.box.length := ⟨_,rfl⟩
 obtain ⟨n,hn⟩ : ∃ n : Nat,cy = n := ⟨cy.toNat,by omega⟩
 have hn64 : n ≤ 64 := by omega
 subst hn
 obtain ⟨tb,htb⟩ : ∃ tb : Box,tb = { cells := List.replicate n (.p (.sl (some true) 0 [])),e := 41,fz := false,ap := true } := ⟨_,rfl⟩
 obtain ⟨ob,hob⟩ : ∃ ob : Box,ob = { cells := [.ms T 0 n],e := 26,fz := false } := ⟨_,rfl⟩
 obtain ⟨fb,hfb⟩ : ∃ fb : Box,fb = { cells := [.mref (T + 2)],e := 60,fz := false } := ⟨_,rfl⟩
 obtain ⟨rb,hrb⟩ : ∃ rb : Box,rb = { cells := [.fn (.func 31) [] [.ptr st.box.length 0,.ptr (T + 1) 0,.ptr (T + 3) 0,.ptr (T + 4) 0]],e := 61,fz := false } := ⟨_,rfl⟩
 have hl1 : (st1.box ++ [tb]).length = T + 1 := by simp [hT]
 have hl2 : (st1.box ++ [tb] ++ [ob]).length = T + 2 := by simp [hT]
 have hl3 : (st1.box ++ [tb] ++ [ob] ++ [mapBx 0 []]).length = T + 3 := by simp [hT]
 have hl4 : (st1.box ++ [tb] ++ [ob] ++ [mapBx 0 []] ++ [fb]).length = T + 4 := by simp [hT]
 have hnw : ∀ (bx : List Box) (B : Box) (k : Nat),bx.length = k → (bx ++ [B])[k]? = some B := fun bx B k h => by rw [← h]; exact get_new bx B
 have hns : ∀ (bx : List Box) (A B : Box) (k : Nat),bx.length = k → (bx ++ [A]).set k B = bx ++ [B] := fun bx A B k h => by rw [← h]; exact set_new bx A B
 refine wseq (fun ρ' st' => ρ'.get 1 = intB n ∧ ρ'.get 5 = .ptr st.box.length 0 ∧ ρ'.get 9 = .ms (st.box.length + 1) 0 l.length ∧ ρ'.get 12 = .ptr (T + 1) 0 ∧ st' = { st1 with box := st1.box ++ [tb] ++ [ob] }) ?_ ?_
 · simp only [wpA,wpR,wpOp,ev,setD,Env.get,Nat.reduceEqDiff,if_true,if_false,h1,Int.toNat_natCast,flat_one,← hT,← htb,hl1]
   refine ⟨by omega,by omega,by omega,by unfold maxLen; omega,?_⟩
   rw [hnw _ _ _ hl1]
   refine ⟨rfl,rfl,Nat.le_refl 1,rfl,?_⟩
   show _ ∧ _
   simp only [Env.get,Nat.reduceEqDiff,if_true,if_false]
   exact ⟨h1,h5,h9,trivial,by rw [hob]; exact congrArg (fun b => St.mk b st1.grp) (hns _ _ { cells := [.ms T 0 n],e := 26,fz := false } _ hl1)⟩
 clear h1 h5 h9 ρ
 rintro ρ st2 ⟨h1,h5,h9,h12,rfl⟩
 refine wseq (fun ρ' st' => ρ'.get 1 = intB n ∧ ρ'.get 5 = .ptr st.box.length 0 ∧ ρ'.get 9 = .ms (st.box.length + 1) 0 l.length ∧ ρ'.get 12 = .ptr (T + 1) 0 ∧ ρ'.get 13 = .ptr (T + 3) 0 ∧ st' = { st1 with box := st1.box ++ [tb] ++ [ob] ++ [mapBx 0 []] ++ [fb] }) ?_ ?_
 · have hmb : ({ cells := [intD 0],e := 1 + 1000 * 0 + 0,fz := true,m := true } : Box) = mapBx 0 [] := rfl
   simp only [wpA,wpR,wpOp,wpM,ev,setD,Env.get,Nat.reduceEqDiff,if_true,if_false,hl2,hmb,hl3]
   rw [hnw _ _ _ hl3]
   refine ⟨by decide,rfl,rfl,Nat.le_refl 1,rfl,?_⟩
   show _ ∧ _
   simp only [Env.get,Nat.reduceEqDiff,if_true,if_false]
   exact ⟨h1,h5,h9,h12,trivial,by rw [hfb]; exact congrArg (fun b => St.mk b st1.grp) (hns _ _ { cells := [.mref (T + 2)],e := 60,fz := false } _ hl3)⟩
 clear h1 h5 h9 h12 ρ
 rintro ρ st2 ⟨h1,h5,h9,h12,h13,rfl⟩
 refine wseq (fun ρ' st' => ρ'.get 1 = intB n ∧ ρ'.get 5 = .ptr st.box.length 0 ∧ ρ'.get 9 = .ms (st.box.length + 1) 0 l.length ∧ ρ'.get 12 = .ptr (T + 1) 0 ∧ ρ'.get 13 = .ptr (T + 3) 0 ∧ ρ'.get 14 = .ptr (T + 4) 0 ∧ st' = { st1 with box := st1.box ++ [tb] ++ [ob] ++ [mapBx 0 []] ++ [fb] ++ [{ cells := [.p (.v .nilFunc)],e := 61,fz := false }] }) ?_ ?_
 · simp only [wpA,wpR,wpOp,ev,setD,Env.get,Nat.reduceEqDiff,if_true,if_false,hl4]
   show _ ∧ _
   simp only [Env.get,Nat.reduceEqDiff,if_true,if_false]
   exact ⟨h1,h5,h9,h12,h13,trivial,trivial⟩
 clear h1 h5 h9 h12 h13 ρ
 rintro ρ st2 ⟨h1,h5,h9,h12,h13,h14,rfl⟩
 refine wseq (fun ρ' st' => ρ'.get 1 = intB n ∧ ρ'.get 9 = .ms (st.box.length + 1) 0 l.length ∧ ρ'.get 12 = .ptr (T + 1) 0 ∧ ρ'.get 14 = .ptr (T + 4) 0 ∧ st' = { st1 with box := st1.box ++ [tb] ++ [ob] ++ [mapBx 0 []] ++ [fb] ++ [rb] }) ?_ ?_
 · simp only [wpA,wpR,wpOp,ev,setD,Env.get,Nat.reduceEqDiff,if_true,if_false,List.map_cons,List.map_nil,h5,h12,h13,h14]
   rw [hnw _ _ _ hl4]
   refine ⟨rfl,rfl,Nat.le_refl 1,rfl,?_⟩
   show _ ∧ _
   simp only [Env.get,Nat.reduceEqDiff,if_true,if_false]
   exact ⟨h1,h9,h12,h14,by rw [hrb]; exact congrArg (fun b => St.mk b st1.grp) (hns _ _ { cells := [.fn (.func 31) [] [.ptr st.box.length 0,.ptr (T + 1) 0,.ptr (T + 3) 0,.ptr (T + 4) 0]],e := 61,fz := false } _ hl4)⟩
 clear h1 h5 h9 h12 h13 h14 ρ
 rintro ρ st2 ⟨h1,h9,h12,h14,rfl⟩
 have hP : PST st.box (st1.box ++ [tb] ++ [ob] ++ [mapBx 0 []] ++ [fb] ++ [rb]) (sortT l) per T (List.replicate n none) (List.replicate n []) := by
   have g0 : ∀ i B,st1.box[i]? = some B → (st1.box ++ [tb] ++ [ob] ++ [mapBx 0 []] ++ [fb] ++ [rb])[i]? = some B := fun i B h => get_push (get_push (get_push (get_push (get_push h _) _) _) _) _
   have gT : (st1.box ++ [tb] ++ [ob] ++ [mapBx 0 []] ++ [fb] ++ [rb])[T]? = some tb := get_push (get_push (get_push (get_push (hnw _ _ _ hT.symm) _) _) _) _
   have gO : (st1.box ++ [tb] ++ [ob] ++ [mapBx 0 []] ++ [fb] ++ [rb])[T + 1]? = some ob := get_push (get_push (get_push (hnw _ _ _ hl1) _) _) _
   have gM : (st1.box ++ [tb] ++ [ob] ++ [mapBx 0 []] ++ [fb] ++ [rb])[T + 2]? = some (mapBx 0 []) := get_push (get_push (hnw _ _ _ hl2) _) _
   have gF : (st1.box ++ [tb] ++ [ob] ++ [mapBx 0 []] ++ [fb] ++ [rb])[T + 3]? = some fb := get_push (hnw _ _ _ hl3) _
   have gR : (st1.box ++ [tb] ++ [ob] ++ [mapBx 0 []] ++ [fb] ++ [rb])[T + 4]? = some rb := hnw _ _ _ hl4
   refine ⟨((((hp.push _).push _).push _).push _).push _,g0 _ _ hb1,by omega,⟨⟨_,g0 _ _ hb0,rfl,rfl,rfl⟩,⟨ob,gO,by rw [hob],by rw [hob],?_⟩,⟨fb,gF,by rw [hfb],by rw [hfb],by rw [hfb]⟩,⟨rb,gR,by rw [hrb],by rw [hrb],by rw [hrb]⟩⟩,⟨by simp,?_,fun i hi => ?_,fun i b l' hi _ => ?_,fun i j b hi _ => ?_⟩,fun i b hi => ?_,⟨0,[],gM,Int.le_refl _,fun e he => by cases he⟩⟩
   · rw [hob,List.length_replicate]
   · rw [gT,htb,zip_nil]
   · have := (List.getElem?_eq_some_iff.1 hi).1
     rw [List.length_replicate] at this
     rw [List.getElem?_replicate,if_pos this]
   all_goals
     rw [List.getElem?_replicate] at hi
     split at hi <;> cases hi
 have hq : (sortT l).length ≤ 64 := by rw [s1]; exact hD.n
 have hcyn : (n : Int).toNat = n := Int.toNat_natCast n
 refine wseq (fun ρ' st' => ρ'.get 12 = .ptr (T + 1) 0 ∧ st'.grp = st.grp ∧ ∃ nb,PST st.box st'.box (sortT l) per T nb ((sortT l).foldl (placeM per n) (List.replicate n []))) ?_ ?_
 · refine wseq (fun ρ' st' => ρ'.get 1 = intB n ∧ ρ'.get 12 = .ptr (T + 1) 0 ∧ ρ'.get 14 = .ptr (T + 4) 0 ∧ ρ'.get 48 = .ms (st.box.length + 1) 0 (sortT l).length ∧ ρ'.get 49 = intB (sortT l).length ∧ ρ'.get 50 = intB 0 ∧ st' = { st1 with box := st1.box ++ [tb] ++ [ob] ++ [mapBx 0 []] ++ [fb] ++ [rb] }) ?_ ?_
   · simp only [wpA,wpR,wpOp,ev,setD,Env.get,Nat.reduceEqDiff,if_true,if_false,h9,cstP]
     show _ ∧ _
     simp only [Env.get,Nat.reduceEqDiff,if_true,if_false,s1]
     exact ⟨h1,h12,h14,trivial,trivial,trivial,trivial⟩
   · rintro ρ1 st2 ⟨h1,h12,h14,h48,h49,h50,rfl⟩
     exact planL1 (g0 := st.grp) hq (by omega) (fun x hx => hD.b x (s2.mem_iff.1 hx)) (by simp) h1 h12 h14 h48 h49 h50 hP hg (fun l hl => List.eq_of_mem_replicate hl) fun ρ st' nb h12 hp hg => ⟨h12,hg,nb,hp⟩
 clear h1 h9 h12 h14 hP hg hp ρ
 rintro ρ st2 ⟨h12,hg,nb,hP⟩
 obtain ⟨ls,hls⟩ : ∃ ls,ls = (sortT l).foldl (placeM per n) (List.replicate n []) := ⟨_,rfl⟩
 rw [← hls] at hP
 have hlen : ls.length = n := by rw [hls,fold_len,List.length_replicate]
 have hfin : planN l n per = ls.map srtI := by rw [planN,hcyn,← hls]
 have hrow : ∀ l ∈ ls,l.length ≤ 64 := fun l hl => by
   have := fold_row per n (sortT _) (List.replicate n []) 0 (fun l hl => by rw [List.eq_of_mem_replicate hl]; exact Nat.le_refl _) l (hls ▸ hl)
   omega
 rw [hfin,List.length_map,hlen] at hO
 refine wseq (fun ρ' st' => ρ'.get 12 = .ptr (T + 1) 0 ∧ st'.grp = st.grp ∧ PST st.box st'.box (sortT l) per T nb (ls.map srtI)) ?_ ?_
 · obtain ⟨Bo,o1,o2,o3,o4⟩ := hP.vars.o
   refine wseq (fun ρ' st' => ρ'.get 12 = .ptr (T + 1) 0 ∧ ρ'.get 75 = .ms T 0 ls.length ∧ ρ'.get 76 = intB ls.length ∧ ρ'.get 77 = intB 0 ∧ st' = st2) ?_ ?_
   · simp only [wpA,wpR,wpOp,ev,setD,Env.get,Nat.reduceEqDiff,if_true,if_false,h12,o1,cstP]
     refine ⟨o2,_,by rw [o4]; rfl,?_⟩
     simp only [Env.get,Nat.reduceEqDiff,if_true,if_false]
     show _ ∧ _
     simp only [Env.get,Nat.reduceEqDiff,if_true,if_false]
     exact ⟨h12,trivial,trivial,trivial,trivial⟩
   · rintro ρ1 st3 ⟨h12,h75,h76,h77,rfl⟩
     exact planL2 (g0 := st.grp) (by omega) hrow h12 h75 h76 h77 hP hg fun ρ st' h12 hp hg => ⟨h12,hg,hp⟩
 clear h12 hg hP ρ st2
 rintro ρ st2 ⟨h12,hg,hP⟩
 obtain ⟨Bo,o1,o2,o3,o4⟩ := hP.vars.o
 simp only [wpA,wpR,wpOp,ev,setD,Env.get,Nat.reduceEqDiff,if_true,if_false,h12,o1,cstP,Ax.thn]
 refine ⟨o2,_,by rw [o4]; rfl,?_⟩
 simp only [Env.get,Nat.reduceEqDiff,if_true,if_false,retQ,wpRes,wpRes1,resOf,List.length_map,hlen]
 exact hO st2 T nb hP hg
end Go.Ab
