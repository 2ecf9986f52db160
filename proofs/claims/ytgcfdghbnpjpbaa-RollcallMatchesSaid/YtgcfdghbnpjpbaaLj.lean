/- Plan: the walk over boxes. -/
import Derived.Test.YtgcfdghbnpjpbaaLi
set_option linter.unusedSimpArgs false
set_option linter.unusedVariables false
set_option maxRecDepth 20000
set_option maxHeartbeats 4000000
namespace Go.Ab
open Go.Proofs Go.RowKit
def wrnM (l : List DUE) (cy per : Int) : Int := if chkD l ≠ 0 then chkD l else if cy < 0 ∨ cy > 64 ∨ per < 0 ∨ per > 64 then 1 else 0
theorem cCheckP (nl : Option Bool) (l : List DUE) (cy per : Int) (h : Short 2000 l) : PurS Try.prog 28 [injT (.sl tDue) (nl,l),injT tI cy,injT tI per] (.p (iv (wrnM l cy per))) := by
 refine PurS.of (S := [(15,_)]) (T := []) (U := []) (tbl := []) (n := 27) hm15 cfg (.cons (spT1.ok (a := (.sl (.pair (.int .i64) (.pair (.int .i64) (.int .i64))))) fun x0 h => cChk x0.1 x0.2 h) .nil) .nil .nil .nil 0 Try.call28 Try.func28 (ac28_ok (some (0,0))) (by rw [Try.ntmps28]; exact Nat.le_refl _) rfl ⟨_,rfl⟩ ?_
 intro cmp ar cv tn ic ai mx an ad ml sb mn ln em gt up ap sc vw cp rp p1 p2 s1 s2 X Y hX hY r0 r1 r2 r3 r4 r5 r6 r7 r8 r9 r10 r11 r12 r13 r14 r15 r16 r17 r18 r19 r20 r21 r22 r23 r24
 generalize hg0 : chkD = g0
 generalize hg1 : wrnM = g1
 cbv
 have e1 : ∀ z,z = g0 l → g1 l cy per = if z ≠ 0 then z else if cy < 0 ∨ cy > 64 ∨ per < 0 ∨ per > 64 then 1 else 0 := fun z hz => by rw [hz,← hg0,← hg1]; rfl
 obtain ⟨ck,hck⟩ : ∃ ck,ck = g0 l := ⟨_,rfl⟩
 have e1 := e1 ck hck
 show Short 2000 l ∧ BR (cmp BinOp.neq (g0 l) 0) (g0 l = g1 l cy per) _
 rw [← hck,e1]
 refine ⟨h,BR.neq r0 (fun h0 => by rw [if_pos h0]) fun h0 => ?_⟩
 rw [if_neg h0]
 exact BR.lss r0 (fun h => by rw [if_pos (.inl h)]) fun h1 => BR.gtr r0 (fun h => by rw [if_pos (.inr (.inl h))]) fun h2 => BR.lss r0 (fun h => by rw [if_pos (.inr (.inr (.inl h)))]) fun h3 =>
   BR.gtr r0 (fun h => by rw [if_pos (.inr (.inr (.inr h)))]) fun h4 => by rw [if_neg (by omega)]
theorem cRWrong (nl : Option Bool) (l : List DUE) (cy per : Int) (h : Short 2000 l) : PurS Try.prog 33 [injT (.sl tDue) (nl,l),injT tI cy,injT tI per] (.p (iv (wrnM l cy per))) := by
 refine PurS.of (S := [(16,_)]) (T := []) (U := []) (tbl := []) (n := 27) hm15 cfg (.cons (spT1.ok (a := (.sl (.pair (.int .i64) (.pair (.int .i64) (.int .i64))))) fun x0 h => cRChk x0.1 x0.2 h) .nil) .nil .nil .nil 0 Try.call33 Try.func33 (ac33_ok (some (0,0))) (by rw [Try.ntmps33]; exact Nat.le_refl _) rfl ⟨_,rfl⟩ ?_
 intro cmp ar cv tn ic ai mx an ad ml sb mn ln em gt up ap sc vw cp rp p1 p2 s1 s2 X Y hX hY r0 r1 r2 r3 r4 r5 r6 r7 r8 r9 r10 r11 r12 r13 r14 r15 r16 r17 r18 r19 r20 r21 r22 r23 r24
 generalize hg0 : chkD = g0
 generalize hg1 : wrnM = g1
 cbv
 have e1 : ∀ z,z = g0 l → g1 l cy per = if z ≠ 0 then z else if cy < 0 ∨ cy > 64 ∨ per < 0 ∨ per > 64 then 1 else 0 := fun z hz => by rw [hz,← hg0,← hg1]; rfl
 obtain ⟨ck,hck⟩ : ∃ ck,ck = g0 l := ⟨_,rfl⟩
 have e1 := e1 ck hck
 show Short 2000 l ∧ BR (cmp BinOp.neq (g0 l) 0) (g0 l = g1 l cy per) _
 rw [← hck,e1]
 refine ⟨h,BR.neq r0 (fun h0 => by rw [if_pos h0]) fun h0 => ?_⟩
 rw [if_neg h0]
 exact BR.lss r0 (fun h => by rw [if_pos (.inl h)]) fun h1 => BR.gtr r0 (fun h => by rw [if_pos (.inr (.inl h))]) fun h2 => BR.lss r0 (fun h => by rw [if_pos (.inr (.inr (.inl h)))]) fun h3 =>
   BR.gtr r0 (fun h => by rw [if_pos (.inr (.inr (.inr h)))]) fun h4 => by rw [if_neg (by omega)]
def injL (nl : Option Bool) (l : List DUE) : D := .p (.sl nl l.length (tDue.rows l))
theorem chkC {st : St} {nl : Option Bool} {l : List DUE} (h : l.length ≤ 2000) {cy per : Int} {K : D → St → Prop} (hK : K (intB (wrnM l cy per)) st) : FnC Try.prog 28 [injL nl l,intB cy,intB per] st K := by
 obtain ⟨x,hx,hp⟩ := cCheckP nl l cy per ⟨h⟩
 intro c
 refine hp.cw (ds := [injL nl l,intB cy,intB per]) rfl ?_
 have : x = intP (wrnM l cy per) := by simp only [DC.conc,D.p.injEq] at hx; exact hx.symm
 rw [this]; exact hK
abbrev perBox (per : Int) : Box := { cells := [intB per],e := 3,fz := false }
abbrev ordBox (l : List DUE) : Box := { cells := (tDue.rows l).map .p,e := 56,fz := false,ap := true }
def Z3 : DUE := (0,0,0)
theorem due_at {l : List DUE} {i : Nat} (hi : i < l.length) : ((tDue.rows l).drop (i * 3)).take 3 = tDue.cells l[i] ∧ 3 ≤ ((tDue.rows l).drop (i * 3)).length := by
 have h := Ty.rows_drop tDue i l
 rw [show tDue.size = 3 from rfl] at h
 rw [h,List.drop_eq_getElem_cons hi]
 constructor
 · exact List.take_left' (Ty.cells_length tDue l[i])
 · show 3 ≤ (tDue.cells l[i] ++ _).length
   rw [List.length_append,Ty.cells_length]
   exact Nat.le_add_right _ _
theorem putCells_at {A B C new : List D} (hB : B.length = new.length) : putCells (A ++ (B ++ C)) A.length new = A ++ (new ++ C) := by
 unfold putCells
 rw [List.take_left,List.drop_append,List.drop_eq_nil_of_le (by omega),List.nil_append,show A.length + new.length - A.length = B.length by omega,List.drop_left,List.append_assoc]
theorem set_new (bx : List Box) (A B : Box) : (bx ++ [A]).set bx.length B = bx ++ [B] := by simp
abbrev dueBox (x : DUE) : Box := { cells := [intB x.1,intB x.2.1,intB x.2.2],e := 44,fz := false }
theorem planL0 {bx0 : List Box} {l : List DUE} {nl : Option Bool} {cy per : Int} {g0 : List (Nat × TypeId)} {Q : Ax → Env → St → Prop} {ρ : Env} {st : St} (hl : l.length ≤ 64)
   (h1 : ρ.get 1 = intB cy) (h5 : ρ.get 5 = .ptr bx0.length 0) (h9 : ρ.get 9 = .ms (bx0.length + 1) 0 l.length) (h30 : ρ.get 30 = injL nl l) (h31 : ρ.get 31 = intB l.length) (h32 : ρ.get 32 = intB 0)
   (hp : PREF bx0 st.box) (hg : st.grp = g0) (hb0 : st.box[bx0.length]? = some (perBox per)) (hb1 : st.box[bx0.length + 1]? = some (ordBox (List.replicate l.length Z3)))
   (hQ : ∀ ρ st,ρ.get 1 = intB cy → ρ.get 5 = .ptr bx0.length 0 → ρ.get 9 = .ms (bx0.length + 1) 0 l.length → PREF bx0 st.box → st.grp = g0 → st.box[bx0.length]? = some (perBox per) → st.box[bx0.length + 1]? = some (ordBox l) → Q .n ρ st) :
   wpA (FnC Try.prog) (CPo Try.prog) (.blk 0 (.loop none [1,5,9,30,31,32] (ac11_L0 none))) noH Q ρ st := by
 show wpA _ _ (.loop none _ _) noH (Ax.blk 0 Q) ρ st
 refine wloop (fun k ρ st => ∃ i : Nat,i + k = l.length ∧ ρ.get 1 = intB cy ∧ ρ.get 5 = .ptr bx0.length 0 ∧ ρ.get 9 = .ms (bx0.length + 1) 0 l.length ∧ ρ.get 30 = injL nl l ∧ ρ.get 31 = intB l.length ∧ ρ.get 32 = intB i ∧
   PREF bx0 st.box ∧ st.grp = g0 ∧ st.box[bx0.length]? = some (perBox per) ∧ st.box[bx0.length + 1]? = some (ordBox (l.take i ++ List.replicate (l.length - i) Z3))) l.length ?_ ?_
 · refine ⟨0,by omega,?_⟩
   simp only [Env.keep,Env.get,Nat.reduceEqDiff,if_true,if_false,h1,h5,h9,h30,h31,h32]
   exact ⟨trivial,trivial,trivial,trivial,trivial,rfl,hp,hg,hb0,hb1⟩
 · rintro k ρ st ⟨i,hi,h1,h5,h9,h30,h31,h32,hp,hg,hb0,hb1⟩
   unfold ac11_L0
   have hlen := hp.len
   refine wseq (fun ρ' st' => st' = st ∧ ρ' = (33,.p (.v (.bool (decide ((i : Int) < l.length))))) :: ρ) ?_ ?_
   · simp only [wpA,wpR,wpOp,ev,setD,h32,h31,sBin]
     exact ⟨trivial,rfl,rfl⟩
   rintro ρ1 st1 ⟨e1,e2⟩
   rw [e1,e2]
   clear e1 e2 ρ1 st1
   refine wseq (fun ρ' st' => st' = st ∧ ρ' = (33,.p (.v (.bool (decide ((i : Int) < l.length))))) :: ρ ∧ i < l.length) ?_ ?_
   · simp only [wpA,ev,Env.get,if_true]
     refine ⟨fun h => ⟨rfl,rfl,by have := of_decide_eq_true h; omega⟩,fun h => ?_⟩
     have hi' : i = l.length := by have := of_decide_eq_false h; omega
     rw [hi',List.take_length,Nat.sub_self,List.replicate_zero,List.append_nil] at hb1
     exact hQ _ _ (by simp only [Env.get]; exact h1) (by simp only [Env.get]; exact h5) (by simp only [Env.get]; exact h9) hp hg hb0 hb1
   rintro ρ1 st1 ⟨e1,e2,hil⟩
   rw [e1,e2]
   clear e1 e2 ρ1 st1
   obtain ⟨d1,d2⟩ := due_at hil
   obtain ⟨x,hx⟩ : ∃ x,x = l[i] := ⟨_,rfl⟩
   rw [← hx] at d1
   refine wseq (fun ρ' st' => ρ'.get 1 = intB cy ∧ ρ'.get 5 = .ptr bx0.length 0 ∧ ρ'.get 9 = .ms (bx0.length + 1) 0 l.length ∧ ρ'.get 30 = injL nl l ∧ ρ'.get 31 = intB l.length ∧ ρ'.get 32 = intB i ∧
     PREF bx0 st'.box ∧ st'.grp = g0 ∧ st'.box[bx0.length]? = some (perBox per) ∧ st'.box[bx0.length + 1]? = some (ordBox (l.take (i + 1) ++ List.replicate (l.length - (i + 1)) Z3))) ?_ ?_
   · show wpA _ _ (.seq _ _) noH (Ax.blk 1 _) _ _
     refine wseq (fun ρ' st' => st' = { st with box := st.box ++ [dueBox x] } ∧ ρ'.get 1 = intB cy ∧ ρ'.get 5 = .ptr bx0.length 0 ∧ ρ'.get 9 = .ms (bx0.length + 1) 0 l.length ∧ ρ'.get 30 = injL nl l ∧ ρ'.get 31 = intB l.length ∧ ρ'.get 32 = intB i ∧ ρ'.get 10 = intB i ∧ ρ'.get 11 = .ptr st.box.length 0) ?_ ?_
     · simp only [wpA,wpR,wpOp,ev,setD,Env.get,Nat.reduceEqDiff,if_true,if_false,h30,h32,injL,Int.toNat_natCast,get_new,set_new]
       refine ⟨by omega,by omega,d2,?_⟩
       rw [d1]
       refine ⟨trivial,rfl,by decide,rfl,?_⟩
       refine ⟨rfl,?_⟩
       simp only [Env.get,Nat.reduceEqDiff,if_true,if_false]
       exact ⟨h1,h5,h9,h30,h31,h32,trivial,trivial⟩
     · rintro ρ1 st1 ⟨rfl,h1,h5,h9,h30,h31,h32,h10,h11⟩
       have hb1' := get_push hb1 (dueBox x)
       have hoc : (ordBox (l.take i ++ List.replicate (l.length - i) Z3)).cells = ((tDue.rows (l.take i)).map D.p) ++ ((tDue.cells Z3).map D.p ++ (tDue.rows (List.replicate (l.length - (i + 1)) Z3)).map D.p) := by
         rw [show l.length - i = (l.length - (i + 1)) + 1 by omega,List.replicate_succ]
         simp only [ordBox,Ty.rows,List.flatMap_append,List.flatMap_cons,List.map_append]
       have hlo : ((tDue.rows (l.take i)).map D.p).length = i * 3 := by rw [List.length_map,Ty.rows_length,List.length_take,Nat.min_eq_left (by omega)]; rfl
       simp only [wpA,wpR,wpOp,ev,setD,Env.get,Nat.reduceEqDiff,if_true,if_false,h9,h10,h11,get_new,hb1',Int.toNat_natCast,Nat.zero_add]
       have hx3 : ((tDue.rows [x]).map D.p) = [intB x.1,intB x.2.1,intB x.2.2] := rfl
       have hnew : putCells (ordBox (l.take i ++ List.replicate (l.length - i) Z3)).cells (i * 3) [intB x.1,intB x.2.1,intB x.2.2] = (ordBox (l.take (i + 1) ++ List.replicate (l.length - (i + 1)) Z3)).cells := by
         rw [hoc,← hlo,putCells_at (B := (tDue.cells Z3).map D.p) (new := [intB x.1,intB x.2.1,intB x.2.2]) rfl,List.take_add_one,List.getElem?_eq_getElem hil,← hx,← hx3]
         simp only [ordBox,Ty.rows,List.flatMap_append,List.map_append,Option.toList_some,List.append_assoc]
       refine ⟨trivial,Nat.le_refl 3,by omega,by omega,trivial,rfl,?_,rfl,?_⟩
       · show i * 3 + 3 ≤ (ordBox (l.take i ++ List.replicate (l.length - i) Z3)).cells.length
         rw [hoc,List.length_append,List.length_append,hlo]
         show i * 3 + 3 ≤ i * 3 + (3 + _)
         omega
       · show _ ∧ _
         simp only [Env.get,Nat.reduceEqDiff,if_true,if_false]
         refine ⟨h1,h5,h9,h30,h31,h32,(hp.push _).set (by omega) _,hg,get_set (get_push hb0 _) (by omega) _,?_⟩
         rw [get_self hb1']
         exact congrArg some (congrArg (fun c => Box.mk c 56 false true false) hnew)
   · rintro ρ1 st1 ⟨h1,h5,h9,h30,h31,h32,hp,hg,hb0,hb1⟩
     simp only [wpA,wpR,wpOp,ev,setD,Env.get,Nat.reduceEqDiff,if_true,if_false,h32,cstP,sBin]
     refine ⟨trivial,k - 1,by omega,i + 1,by omega,?_⟩
     simp only [Env.keep,Env.get,Nat.reduceEqDiff,if_true,if_false]
     refine ⟨h1,h5,h9,h30,h31,?_,hp,hg,hb0,hb1⟩
     rw [wrap64 (n := (i : Int) + 1) (by omega) (by omega)]
     rfl
end Go.Ab
