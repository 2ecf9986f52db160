/- RollcallMatches. -/
import Derived.Test.YtgcfdghbnpjpbaaLE
set_option linter.unusedSimpArgs false
set_option linter.unusedVariables false
set_option maxRecDepth 20000
set_option maxHeartbeats 8000000
namespace Go.Ab
open Go.Proofs Go.RowKit
def rowT : Option Nat → List Int → ROW
 | none,_ => (some true,[])
 | some _,l => (some false,l)
theorem rowsT_eq : ∀ (nb : List (Option Nat)) (ls : List (List Int)),List.zipWith rowV nb ls = tRow.rows (List.zipWith rowT nb ls)
 | [],_ => by simp [Ty.rows]
 | _ :: _,[] => by simp [Ty.rows]
 | o :: nb,l :: ls => by
   have ih := rowsT_eq nb ls
   rw [List.zipWith_cons_cons,List.zipWith_cons_cons,ih]
   show _ = tRow.cells (rowT o l) ++ tRow.rows (List.zipWith rowT nb ls)
   cases o with
   | none => rfl
   | some b =>
     show PD.sl (some false) l.length (l.map intP) :: _ = PD.sl (some false) l.length (tI.rows l) :: _
     rw [rows_tI]; rfl
theorem rows_view3 {bx : List Box} {T : Nat} {nb : List (Option Nat)} {ls : List (List Int)} (h : ROWS bx T nb ls) : viewD bx 3 (.ms T 0 ls.length) = some (.sl (some false) ls.length (List.zipWith rowV nb ls)) := by
 have hrow : ∀ i (hi : i < ls.length),viewD bx 2 (cellOf (nb[i]'(by have := h.n; omega)) ls[i]) = some (rowV (nb[i]'(by have := h.n; omega)) ls[i]) := fun i hi => by
   have hn := h.n
   cases hb : nb[i]'(by omega) with
   | none => rfl
   | some b =>
     have hB := h.so i b ls[i] (by rw [List.getElem?_eq_getElem (by omega),hb]) (List.getElem?_eq_getElem hi)
     simp only [cellOf,viewD,hB,Option.bind_some,rowBox,List.drop_zero,rowV]
     rw [if_neg (by simp),optAll_some (r := ls[i].map intP)]
     · rfl
     · rw [List.map_map,List.map_map]
       apply List.map_congr_left
       intro x _
       exact view_p _ _ _
 simp only [viewD,h.tb,Option.bind_some,List.drop_zero]
 rw [if_neg (by simp),optAll_some (r := List.zipWith rowV nb ls)]
 · rfl
 · apply List.ext_getElem?
   intro i
   rw [List.getElem?_map,List.getElem?_map]
   by_cases hi : i < ls.length
   · have hn := h.n
     rw [zip_get h.n hi,List.getElem?_eq_getElem (by rw [List.length_zipWith]; omega),List.getElem_zipWith]
     simp only [Option.map_some]
     rw [hrow i hi]
   · rw [List.getElem?_eq_none (by rw [List.length_zipWith]; omega),List.getElem?_eq_none (by rw [List.length_zipWith]; omega)]
     rfl
theorem rowT_snd {bx : List Box} {T : Nat} {nb : List (Option Nat)} {ls : List (List Int)} (h : ROWS bx T nb ls) : (List.zipWith rowT nb ls).map (·.2) = ls := by
 have hn := h.n
 apply List.ext_getElem?
 intro i
 rw [List.getElem?_map]
 by_cases hi : i < ls.length
 · rw [List.getElem?_eq_getElem (by rw [List.length_zipWith]; omega),List.getElem_zipWith,Option.map_some]
   cases hb : nb[i]'(by omega) with
   | none => rw [h.no i (by rw [List.getElem?_eq_getElem (by omega),hb])]; rfl
   | some b => rw [List.getElem?_eq_getElem hi]; rfl
 · rw [List.getElem?_eq_none (by rw [List.length_zipWith]; omega),List.getElem?_eq_none (by omega)]; rfl
theorem pS {f : FuncId} {args : List DC} {dc : DC} {x : PD} {ds : List D} {st : St} {K : D → St → Prop} (h : PurS Try.prog f args dc) (hx : dc.conc = .p x) (ha : toAs ds = some (concL args)) (hk : K (.p x) st) : FnC Try.prog f ds st K := by
 obtain ⟨y,hy,hp⟩ := h
 rw [hx] at hy
 obtain rfl := D.p.inj hy
 exact fun c => hp.cw ha hk
theorem pV {f : FuncId} {args : List DC} {dc : DC} {x : PD} {ds : List D} {st : St} {K : D → St → Prop} (h : PurS Try.prog f args dc) (hx : dc.conc = .p x) (ha : viewAs st.box ds = some (concL args)) (hf : flatP x = true) (hk : K (.p x) st) : FnC Try.prog f ds st K := by
 obtain ⟨y,hy,hp⟩ := h
 rw [hx] at hy
 obtain rfl := D.p.inj hy
 exact fun c => hp.cwG hf (.of ha) hk
section
variable {C : CallW} {K : Env → St → Prop} {ρ : Env} {st : St} {t : Nat} {dst : Option Nat} {op : AOp} {r : List AO}
theorem wpR_split (n : Nat) (I : Env → St → Prop) (hC : CMono C) : ∀ {l : List AO} {ρ : Env} {st : St},wpR C I (l.take n) ρ st → (∀ ρ st,I ρ st → wpR C K (l.drop n) ρ st) → wpR C K l ρ st := by
 induction n with
 | zero => intro l ρ st h1 h2; exact h2 ρ st h1
 | succ n ih =>
   intro l ρ st h1 h2
   cases l with
   | nil => exact h2 ρ st h1
   | cons ao l =>
     obtain ⟨gd,dst,op⟩ := ao
     cases gd with
     | none => exact wpOp_mono hC (fun d st h => ih h h2) h1
     | some q =>
       obtain ⟨t,want⟩ := q
       simp only [List.take_succ_cons,wpR] at h1 ⊢
       split at h1
       · rename_i b hb
         exact ⟨fun e => wpOp_mono hC (fun d st h => ih h h2) (h1.1 e),fun e => ih (h1.2 e) h2⟩
       · exact ih h1 h2
       · exact h1.elim
end
theorem wpR_sp {P : Program} {K : Env → St → Prop} {l : List AO} {ρ : Env} {st : St} (n : Nat) (I : Env → St → Prop) (h1 : wpR (FnC P) I (l.take n) ρ st) (h2 : ∀ ρ st,I ρ st → wpR (FnC P) K (l.drop n) ρ st) : wpR (FnC P) K l ρ st := wpR_split n I FnC.cmono h1 h2
structure AOK (l : List DUE) (cy per : Int) (d : D) (st : St) : Prop where
 h : (wrnM l cy per ≠ 0 ∧ d = .p (.sl (some true) 0 [])) ∨ (wrnM l cy per = 0 ∧ ∃ T nb,d = .ms T 0 (planN l cy per).length ∧ ROWS st.box T nb (planN l cy per))
structure HX (nl : Option Bool) (l : List DUE) (cy per e : Int) (Q : List ROW) (w : Bool) (ρ : Env) (st : St) : Prop where
 h14 : ρ.get 14 = .p (.v (.bool w))
 h15 : ρ.get 15 = intB e
 h12 : ρ.get 12 = .p (.v (.bool w))
 h13 : ρ.get 13 = intB e
 h10 : ρ.get 10 = .p (.sl none Q.length (tRow.rows Q))
 h11 : ρ.get 11 = intB e
 h8 : AOK l cy per (ρ.get 8) st
 h9 : ρ.get 9 = intB e
 h7 : ρ.get 7 = injL none l
 h0 : ρ.get 0 = injL nl l
theorem HX.cons {nl : Option Bool} {l : List DUE} {cy per e : Int} {Q : List ROW} {w : Bool} {ρ : Env} {st : St} (h : HX nl l cy per e Q w ρ st) {t : Nat} (ht : 16 ≤ t) (d : D) : HX nl l cy per e Q w ((t,d) :: ρ) st := by
 have hg : ∀ k,k < 16 → Env.get ((t,d) :: ρ) k = ρ.get k := fun k hk => by
   simp only [Env.get]; rw [if_neg (by omega)]
 exact ⟨by rw [hg _ (by decide)]; exact h.h14,by rw [hg _ (by decide)]; exact h.h15,by rw [hg _ (by decide)]; exact h.h12,by rw [hg _ (by decide)]; exact h.h13,by rw [hg _ (by decide)]; exact h.h10,by rw [hg _ (by decide)]; exact h.h11,
   by rw [hg _ (by decide)]; exact h.h8,by rw [hg _ (by decide)]; exact h.h9,by rw [hg _ (by decide)]; exact h.h7,by rw [hg _ (by decide)]; exact h.h0⟩
theorem planC_call {nl : Option Bool} {l : List DUE} {cy per : Int} {st : St} {K : D → St → Prop} (hl : l.length ≤ 2000) (hK : ∀ a st',AOK l cy per a st' → K (.tup [a,intB (wrnM l cy per)]) st' ∧ ∀ p,a = .p p → K (.p (.tup [p,intP (wrnM l cy per)])) st') : FnC Try.prog 11 [injL nl l,intB cy,intB per] st K := by
 intro c
 refine CW.of_wpA hm15 Try.call11 Try.func11 (ac11_ok none) (.inl rfl) (by rw [Try.ntmps11]; show 3 ≤ _; decide) ?_
 refine planW hl (fun hw st' _ _ => ?_) fun hw st' T nb hp _ => ?_
 · exact (hK (.p (.sl (some true) 0 [])) st' ⟨.inl ⟨hw,rfl⟩⟩).2 _ rfl
 · have := (hK (.ms T 0 (planN l cy per).length) st' ⟨.inr ⟨hw,T,nb,rfl,hp.rows⟩⟩).1
   rw [hw] at this
   exact this
theorem lawMatches (nl : Option Bool) (l : List DUE) (cy per : Int) : PurS Try.prog 3 [injT (.sl tDue) (nl,l),injT tI cy,injT tI per] (.p (.v (.bool true))) := by
 refine ⟨_,rfl,PurFn.of hm15 Try.call3 Try.func3 (ac3_ok none) (by rw [Try.ntmps3]; show 3 ≤ _; decide) ?_⟩
 show wpA _ _ (ac3 none) noH _ (argsEnv 0 [injL nl l,intB cy,intB per]) ⟨[],[]⟩
 unfold ac3
 refine wseq (fun ρ st => ρ.get 0 = injL nl l ∧ ρ.get 1 = intB cy ∧ ρ.get 2 = intB per) ?_ ?_
 · simp only [wpA,wpR,wpOp,ev,setD,argsEnv,Env.get,Nat.reduceEqDiff,if_true,if_false]
   exact ⟨rfl,rfl,rfl⟩
 rintro ρ st ⟨h0,h1,h2⟩
 refine wseq (fun ρ st => l.length ≤ 80 ∧ ρ.get 0 = injL nl l ∧ ρ.get 1 = intB cy ∧ ρ.get 2 = intB per) ?_ ?_
 · refine wseq (fun ρ st => ρ.get 17 = .p (.v (.bool (lonB l []))) ∧ ρ.get 0 = injL nl l ∧ ρ.get 1 = intB cy ∧ ρ.get 2 = intB per) ?_ ?_
   · simp only [wpA,wpR,wpOp,ev,setD,Env.get,Nat.reduceEqDiff,if_true,if_false,h0,cstP,List.map_cons,List.map_nil]
     refine pS (cLong nl l (some true) []) rfl rfl ?_
     show _ ∧ _
     simp only [Env.get,Nat.reduceEqDiff,if_true,if_false]
     exact ⟨trivial,h0,h1,h2⟩
   clear h0 h1 h2 ρ st
   rintro ρ st ⟨h17,h0,h1,h2⟩
   simp only [wpA,ev,h17]
   refine ⟨fun h => ?_,fun h => ⟨(long_ok h).1,h0,h1,h2⟩⟩
   simp only [wpA,wpR,wpOp,ev,setD,List.map_nil]
   refine pS cAwake rfl rfl ?_
   exact PLe.p _
 clear h0 h1 h2 ρ st
 rintro ρ st ⟨hl,h0,h1,h2⟩
 have hsh : Short 2000 l := ⟨by omega⟩
 refine wseq (fun ρ st => ρ.get 7 = injL none l ∧ ρ.get 0 = injL nl l ∧ ρ.get 1 = intB cy ∧ ρ.get 2 = intB per) ?_ ?_
 · simp only [wpA,wpR,wpOp,ev,setD,Env.get,Nat.reduceEqDiff,if_true,if_false,h0,List.map_cons,List.map_nil]
   refine pS (x := .sl none l.length (tDue.rows l)) (cCopyD nl l hsh) rfl rfl ?_
   show _ ∧ _
   simp only [Env.get,Nat.reduceEqDiff,if_true,if_false]
   exact ⟨rfl,h0,h1,h2⟩
 clear h0 h1 h2 ρ st
 rintro ρ st ⟨h7,h0,h1,h2⟩
 obtain ⟨e,he⟩ : ∃ e,e = wrnM l cy per := ⟨_,rfl⟩
 refine wseq (fun ρ st => AOK l cy per (ρ.get 8) st ∧ ρ.get 9 = intB e ∧ ρ.get 7 = injL none l ∧ ρ.get 0 = injL nl l ∧ ρ.get 1 = intB cy ∧ ρ.get 2 = intB per) ?_ ?_
 · simp only [wpA,wpR,wpOp,ev,setD,Env.get,Nat.reduceEqDiff,if_true,if_false,h7,h1,h2,List.map_cons,List.map_nil]
   refine planC_call (nl := none) (by omega) fun a st' ha => ⟨?_,fun p hp => ?_⟩
   · show _ ∧ _
     simp only [Env.get,Nat.reduceEqDiff,if_true,if_false]
     exact ⟨ha,by rw [he],h7,h0,h1,h2⟩
   · subst hp
     show _ ∧ _
     simp only [Env.get,Nat.reduceEqDiff,if_true,if_false]
     exact ⟨ha,by rw [he],h7,h0,h1,h2⟩
 clear h0 h1 h2 h7 ρ st
 rintro ρ st ⟨h8,h9,h7,h0,h1,h2⟩
 obtain ⟨Q,hQ⟩ : ∃ Q,Q = planQ l cy per := ⟨_,rfl⟩
 refine wseq (fun ρ st => ρ.get 10 = .p (.sl none Q.length (tRow.rows Q)) ∧ ρ.get 11 = intB e ∧ AOK l cy per (ρ.get 8) st ∧ ρ.get 9 = intB e ∧ ρ.get 7 = injL none l ∧ ρ.get 0 = injL nl l ∧ ρ.get 1 = intB cy ∧ ρ.get 2 = intB per) ?_ ?_
 · simp only [wpA,wpR,wpOp,ev,setD,Env.get,Nat.reduceEqDiff,if_true,if_false,h0,h1,h2,List.map_cons,List.map_nil]
   refine pS (x := .tup [.sl none (planQ l cy per).length (tRow.rows (planQ l cy per)),intP (wrnM l cy per)]) (cRPlan nl l cy per hsh) rfl rfl ?_
   show _ ∧ _
   simp only [Env.get,Nat.reduceEqDiff,if_true,if_false]
   exact ⟨by rw [hQ],by rw [he],h8,h9,h7,h0,h1,h2⟩
 clear h0 h1 h2 h7 h8 h9 ρ st
 rintro ρ st ⟨h10,h11,h8,h9,h7,h0,h1,h2⟩
 obtain ⟨w,hw⟩ : ∃ w,w = whoM l cy per := ⟨_,rfl⟩
 refine wseq (fun ρ st => ρ.get 12 = .p (.v (.bool w)) ∧ ρ.get 13 = intB e ∧ ρ.get 10 = .p (.sl none Q.length (tRow.rows Q)) ∧ ρ.get 11 = intB e ∧ AOK l cy per (ρ.get 8) st ∧ ρ.get 9 = intB e ∧ ρ.get 7 = injL none l ∧ ρ.get 0 = injL nl l ∧ ρ.get 1 = intB cy ∧ ρ.get 2 = intB per) ?_ ?_
 · simp only [wpA,wpR,wpOp,ev,setD,Env.get,Nat.reduceEqDiff,if_true,if_false,h7,h1,h2,List.map_cons,List.map_nil]
   refine pS (x := .tup [.v (.bool (whoM l cy per)),intP (wrnM l cy per)]) (cWhole none l cy per hsh) rfl rfl ?_
   show _ ∧ _
   simp only [Env.get,Nat.reduceEqDiff,if_true,if_false]
   exact ⟨by rw [hw],by rw [he],h10,h11,h8,h9,h7,h0,h1,h2⟩
 clear h0 h1 h2 h7 h8 h9 h10 h11 ρ st
 rintro ρ st ⟨h12,h13,h10,h11,h8,h9,h7,h0,h1,h2⟩
 refine wseq (fun ρ st => ρ.get 14 = .p (.v (.bool w)) ∧ ρ.get 15 = intB e ∧ ρ.get 12 = .p (.v (.bool w)) ∧ ρ.get 13 = intB e ∧ ρ.get 10 = .p (.sl none Q.length (tRow.rows Q)) ∧ ρ.get 11 = intB e ∧ AOK l cy per (ρ.get 8) st ∧ ρ.get 9 = intB e ∧ ρ.get 7 = injL none l ∧ ρ.get 0 = injL nl l) ?_ ?_
 · simp only [wpA,wpR,wpOp,ev,setD,Env.get,Nat.reduceEqDiff,if_true,if_false,h0,h1,h2,List.map_cons,List.map_nil]
   refine pS (x := .tup [.v (.bool (whoM l cy per)),intP (wrnM l cy per)]) (cRWhole nl l cy per hsh) rfl rfl ?_
   show _ ∧ _
   simp only [Env.get,Nat.reduceEqDiff,if_true,if_false]
   exact ⟨by rw [hw],by rw [he],h12,h13,h10,h11,h8,h9,h7,h0⟩
 clear h0 h1 h2 h7 h8 h9 h10 h11 h12 h13 ρ st
 rintro ρ st ⟨h14,h15,h12,h13,h10,h11,h8,h9,h7,h0⟩
 refine wseq (fun ρ st => AOK l cy per (ρ.get 8) st ∧ ρ.get 7 = injL none l ∧ ρ.get 0 = injL nl l) ?_ ?_
 · refine wseq (fun ρ st => ρ.get 74 = .p (.v (.bool false)) ∧ AOK l cy per (ρ.get 8) st ∧ ρ.get 7 = injL none l ∧ ρ.get 0 = injL nl l) ?_ ?_
   · have hx : HX nl l cy per e Q w ρ st := ⟨h14,h15,h12,h13,h10,h11,h8,h9,h7,h0⟩
     clear h14 h15 h12 h13 h10 h11 h8 h9 h7 h0
     show wpR (FnC Try.prog) _ _ ρ st
     refine wpR_sp 6 (fun ρ st => HX nl l cy per e Q w ρ st ∧ ρ.get 54 = .p (.v (.bool false))) ?_ ?_
     · simp only [List.take_succ_cons,List.take_zero,wpR,wpOp,ev,setD,Env.get,Nat.reduceEqDiff,if_true,if_false,hx.h7,hx.h0,List.map_cons,List.map_nil]
       refine pS (x := intP (chkD l)) (cChk none l hsh) rfl rfl ?_
       refine pS (x := intP (chkD l)) (cRChk nl l hsh) rfl rfl ?_
       simp only [sBin,bne_self_eq_false,Env.get,Nat.reduceEqDiff,if_true,if_false]
       exact ⟨trivial,(((((hx.cons (by decide) _).cons (by decide) _).cons (by decide) _).cons (by decide) _).cons (by decide) _).cons (by decide) _,trivial⟩
     clear hx ρ st
     rintro ρ st ⟨hx,hf⟩
     refine wpR_sp 5 (fun ρ st => HX nl l cy per e Q w ρ st ∧ ρ.get 59 = .p (.v (.bool false))) ?_ ?_
     · simp only [List.take_succ_cons,List.take_zero,List.drop_succ_cons,List.drop_zero,wpR,wpOp,ev,setD,Env.get,Nat.reduceEqDiff,if_true,if_false,hf,boolD,sBin,bne_self_eq_false,Bool.not_false,Bool.false_eq_true,Bool.true_eq_false,false_imp_iff,true_imp_iff,true_and,and_true,hx.h9,hx.h11]
       repeat (first | exact hx | refine HX.cons ?_ (by decide) _)
     clear hx hf ρ st
     rintro ρ st ⟨hx,hf⟩
     refine wpR_sp 5 (fun ρ st => HX nl l cy per e Q w ρ st ∧ ρ.get 64 = .p (.v (.bool false))) ?_ ?_
     · simp only [List.take_succ_cons,List.take_zero,List.drop_succ_cons,List.drop_zero,wpR,wpOp,ev,setD,Env.get,Nat.reduceEqDiff,if_true,if_false,hf,boolD,sBin,bne_self_eq_false,Bool.not_false,Bool.false_eq_true,Bool.true_eq_false,false_imp_iff,true_imp_iff,true_and,and_true,hx.h13,hx.h15]
       repeat (first | exact hx | refine HX.cons ?_ (by decide) _)
     clear hx hf ρ st
     rintro ρ st ⟨hx,hf⟩
     refine wpR_sp 5 (fun ρ st => HX nl l cy per e Q w ρ st ∧ ρ.get 69 = .p (.v (.bool false))) ?_ ?_
     · simp only [List.take_succ_cons,List.take_zero,List.drop_succ_cons,List.drop_zero,wpR,wpOp,ev,setD,Env.get,Nat.reduceEqDiff,if_true,if_false,hf,boolD,sBin,bne_self_eq_false,Bool.not_false,Bool.false_eq_true,Bool.true_eq_false,false_imp_iff,true_imp_iff,true_and,and_true,hx.h12,hx.h14,beq_self_eq_true,Bool.xor_true,Bool.not_true]
       repeat (first | exact hx | refine HX.cons ?_ (by decide) _)
     clear hx hf ρ st
     rintro ρ st ⟨hx,hf⟩
     simp only [List.take_succ_cons,List.take_zero,List.drop_succ_cons,List.drop_zero,wpR,wpOp,ev,setD,Env.get,Nat.reduceEqDiff,if_true,if_false,hf,boolD,sBin,bne_self_eq_false,Bool.not_false,Bool.false_eq_true,Bool.true_eq_false,false_imp_iff,true_imp_iff,true_and,and_true,List.map_cons,List.map_nil,hx.h10]
     have hfin : ∀ (b : Bool),b = true → Ax.thn (fun ρ st => ρ.get 74 = .p (.v (.bool false)) ∧ AOK l cy per (ρ.get 8) st ∧ ρ.get 7 = injL none l ∧ ρ.get 0 = injL nl l) (Ax.thn (fun ρ st => AOK l cy per (ρ.get 8) st ∧ ρ.get 7 = injL none l ∧ ρ.get 0 = injL nl l) (retQ [ARes.tmp 6] fun x x_1 => PLe x (PD.v (Value.bool true)))) Ax.n
         ((74,D.p (PD.v (Value.bool !b))) :: (73,D.p (PD.v (Value.bool !b))) :: (69,D.p (PD.v (Value.bool false))) :: (72,.p (.v (.bool b))) :: (69,D.p (PD.v (Value.bool false))) :: (71,D.p (PD.sl none Q.length (tRow.rows Q))) :: (69,D.p (PD.v (Value.bool false))) :: (70,ρ.get 8) :: (69,D.p (PD.v (Value.bool false))) :: ρ) st := fun b hb => by
       subst hb
       show _ ∧ _
       simp only [Env.get,Nat.reduceEqDiff,if_true,if_false,Bool.not_true]
       exact ⟨trivial,hx.h8,hx.h7,hx.h0⟩
     rcases hx.h8.h with ⟨hw0,h8⟩ | ⟨hw0,T,nb,h8,hR⟩
     · have hQ0 : Q = [] := by rw [hQ]; exact if_pos hw0
       rw [h8] at hfin ⊢
       refine pS (x := .v (.bool (eqR [] Q))) (cEqR (some true) [] none Q ⟨by simp,by simp⟩) rfl rfl ?_
       exact hfin _ (by rw [hQ0]; exact decide_eq_true rfl)
     · have hPS := planR_shape l cy per
       have hpl : planR l cy per = rowsP (planN l cy per) := if_neg (fun h => h hw0)
       obtain ⟨hck,hDU,_,_⟩ := wrnM_ok hw0
       have hsnd := rowT_snd hR
       have hlenN : (planN l cy per).length ≤ 64 := by have := hPS.a; rw [hpl] at this; simpa [rowsP] using this
       have hrowN : ∀ r ∈ planN l cy per,r.length ≤ 64 := fun r hr => hPS.b (none,r) (by rw [hpl]; exact List.mem_map_of_mem hr)
       have hlenT : (List.zipWith rowT nb (planN l cy per)).length = (planN l cy per).length := by rw [← List.length_map (f := (·.2)),hsnd]
       rw [h8] at hfin ⊢
       refine pV (x := .v (.bool (eqR (List.zipWith rowT nb (planN l cy per)) Q))) (cEqR (some false) (List.zipWith rowT nb (planN l cy per)) none Q ⟨by omega,fun r hr => ?_⟩) rfl ?_ rfl ?_
       · have h5 : r.2 ∈ planN l cy per := by rw [← hsnd]; exact List.mem_map_of_mem hr
         have := hrowN _ h5
         omega
       · have hv := rows_view3 hR
         have hq : viewD st.box 3 (.p (.sl none Q.length (tRow.rows Q))) = some (.sl none Q.length (tRow.rows Q)) := view_p _ _ _
         simp only [viewAs,viewA,hv,hq,Option.map_some]
         rw [rowsT_eq,← hlenT]
         rfl
       · refine hfin _ ?_
         unfold eqR
         rw [hsnd,hQ]
         refine decide_eq_true ?_
         rw [show planQ l cy per = rowsQ (planC l cy per) from if_neg (fun h => h hw0),planN_eq hDU]
         unfold rowsQ
         rw [List.map_map]
         exact (List.map_id _).symm
   rintro ρ st ⟨h74,h8,h7,h0⟩
   simp only [wpA,ev,h74]
   exact ⟨(fun h => by cases h),fun _ => ⟨h8,h7,h0⟩⟩
 clear h0 h7 h8 h9 h10 h11 h12 h13 h14 h15 ρ st
 rintro ρ st ⟨h8,h7,h0⟩
 refine wseq (fun ρ st => ρ.get 7 = injL none l ∧ ρ.get 0 = injL nl l) ?_ ?_
 · simp only [wpA,wpR,wpOp,ev,setD,Env.get,Nat.reduceEqDiff,if_true,if_false,List.map_cons,List.map_nil]
   rcases h8.h with ⟨hw0,h8⟩ | ⟨hw0,T,nb,h8,hR⟩
   · rw [h8]
     refine overR0 ?_
     show _ ∧ _
     simp only [Env.get,Nat.reduceEqDiff,if_true,if_false]
     exact ⟨h7,h0⟩
   · have hPS := planR_shape l cy per
     have hpl : planR l cy per = rowsP (planN l cy per) := if_neg (fun h => h hw0)
     have hlenN : (planN l cy per).length ≤ 64 := by have := hPS.a; rw [hpl] at this; simpa [rowsP] using this
     have hrowN : ∀ r ∈ planN l cy per,r.length ≤ 64 := fun r hr => hPS.b (none,r) (by rw [hpl]; exact List.mem_map_of_mem hr)
     rw [h8]
     refine overR hR hlenN hrowN fun st' => ?_
     show _ ∧ _
     simp only [Env.get,Nat.reduceEqDiff,if_true,if_false]
     exact ⟨h7,h0⟩
 clear h0 h7 h8 ρ st
 rintro ρ st ⟨h7,h0⟩
 refine wseq (fun ρ st => ρ.get 6 = .p (.v (.bool true))) ?_ ?_
 · simp only [wpA,wpR,wpOp,ev,setD,Env.get,Nat.reduceEqDiff,if_true,if_false,h7,h0,List.map_cons,List.map_nil]
   refine pS (x := .v (.bool (decide (l = l)))) (cEqD none l nl l hsh) rfl rfl ?_
   simp only [decide_true,Bool.true_eq_false,Bool.not_true,Bool.false_eq_true,false_imp_iff,true_imp_iff,and_true,true_and,boolD,Env.get,Nat.reduceEqDiff,if_true,if_false]
   refine pS (x := .v (.bool true)) cAwake rfl rfl ?_
   rfl
 rintro ρ st h6
 show wpRes _ _ _ _
 simp only [wpRes,wpRes1,h6]
 exact PLe.p _
theorem matches_typed : ∀ xs,TyVs Try.prog [22,3,3] xs → PurFn Try.prog 3 (xs.map .p) (.v (.bool true)) := law3 (P := Try.prog) (f := 3) (t1 := 22) (t2 := 3) (t3 := 3) (T1 := .sl tDue) (T2 := tI) (T3 := tI) (by kernel_rfl) fun l cy per _ _ _ => lawMatches l.1 l.2 cy per
end Go.Ab
