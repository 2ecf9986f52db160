/- The order of targets. -/
import Derived.Test.YtgcfdghbnpjpbaaLf
set_option linter.unusedSimpArgs false
set_option linter.unusedVariables false
set_option maxRecDepth 20000
set_option maxHeartbeats 4000000
namespace Go.Ab
open Go.Proofs
def cmpI (a b : Int) : Int := if a < b then -1 else if a > b then 1 else 0
def orL : List Int → Int
 | [] => 0
 | x :: l => if x ≠ 0 then x else orL l
def cmpT (x y : DUE) : Int := orL [cmpI y.2.2 x.2.2,cmpI x.1 y.1]
theorem cCmp (a b : Int) : PurS Try.prog 45 [injT tI a,injT tI b] (.p (iv (cmpI a b))) := by
 refine PurS.of (S := []) (T := []) (U := []) (tbl := [(58,ac58 none,[.tmp 2],6)]) (n := 20) hm15 cfg .nil .nil .nil (.cons Try.call58 Try.func58 (ac58_ok none) (by rw [Try.ntmps58]; exact Nat.le_refl _) .nil) 6 Try.call45 Try.func45 (ac45_ok (some (0,0))) (by rw [Try.ntmps45]; exact Nat.le_refl _) rfl ⟨_,rfl⟩ ?_
 intro cmp ar cv tn ic ai mx an ad ml sb mn ln em gt up ap sc vw cp rp p1 p2 s1 s2 X Y hX hY r0 r1 r2 r3 r4 r5 r6 r7 r8 r9 r10 r11 r12 r13 r14 r15 r16 r17 r18 r19 r20 r21 r22 r23 r24
 generalize hg0 : cmpI = g0
 cbv
 have e1 : a < b → -1 = g0 a b := fun h => by rw [← hg0]; simp [cmpI,h]
 have e2 : ¬ a < b → a > b → 1 = g0 a b := fun h h' => by rw [← hg0]; simp [cmpI,h,h']
 have e3 : ¬ a < b → ¬ a > b → 0 = g0 a b := fun h h' => by rw [← hg0]; simp [cmpI,h,h']
 exact BR.nn r0 (BR.nn r0 (BR.lss r0 e1 fun h1 => BR.gtr r0 (e2 h1) (e3 h1)))
theorem cOr (nl : Option Bool) (l : List Int) (h : Short 2000 l) : PurS Try.prog 44 [injT (.sl tI) (nl,l)] (.p (iv (orL l))) := by
 refine PurS.of (S := []) (T := []) (U := []) (tbl := []) (n := 18) hm15 cfg .nil .nil .nil .nil 0 Try.call44 Try.func44 (ac44_ok (some (0,0))) (by rw [Try.ntmps44]; exact Nat.le_refl _) rfl ⟨_,rfl⟩ ?_
 intro cmp ar cv tn ic ai mx an ad ml sb mn ln em gt up ap sc vw cp rp p1 p2 s1 s2 X Y hX hY r0 r1 r2 r3 r4 r5 r6 r7 r8 r9 r10 r11 r12 r13 r14 r15 r16 r17 r18 r19 r20 r21 r22 r23 r24
 generalize hg0 : orL = g0
 cbv
 have h := h.h
 have hla : ic (ln tI l) = l.length := by rw [r4,r12]
 obtain ⟨z,hz⟩ : ∃ z,z = g0 l := ⟨_,rfl⟩
 rw [← hz,hla]
 obtain ⟨N,hN⟩ : ∃ N : Int,N = l.length := ⟨_,rfl⟩
 rw [← hN]
 refine LOOP.ind (σ := Int) (fun i => [(3,.p (iv 0)),(6,.tl nl tI l),(7,.p (iv N)),(8,.p (iv i))]) (fun _ => ⟨[],[]⟩) (fun i => (N - i).toNat) (fun i => 0 ≤ i ∧ i ≤ N ∧ orL (l.drop i.toNat) = z) 0 ⟨by omega,by omega,by rw [hz,← hg0]; rfl⟩ (.inl ⟨rfl,rfl⟩) ?_
 intro i hI X' hX
 obtain ⟨hI1,hI2,hI3⟩ := hI
 obtain ⟨x,hx⟩ : ∃ x : Int,x = gt tI l i := ⟨_,rfl⟩
 have hst : i < N → z = if x ≠ 0 then x else orL (l.drop (i + 1).toNat) := fun h => by
   rw [← hI3,gtR_drop (t := tI) hI1 (by omega),show gtR tI l i = x by rw [hx,r14]]; rfl
 have hend : ¬ i < N → 0 = z := fun h => by rw [← hI3,gtR_end (by omega)]; rfl
 have hadd : i < N → ar .add .i64 i 1 = i + 1 := fun h => by rw [r1]; exact wrap64 (n := i + 1) (by omega) (by omega)
 obtain ⟨y,hy⟩ : ∃ y,y = orL (l.drop (i + 1).toNat) := ⟨_,rfl⟩
 rw [← hy] at hst
 have hX : NEXT X' [(3,.p (iv 0)),(6,.tl nl tI l),(7,.p (iv N)),(8,.p (iv (i + 1)))] ⟨[],[]⟩ ∨ ¬ (i < N ∧ y = z) := by
   by_cases h : i < N ∧ y = z
   · exact .inl (NEXT.mk (hX (i + 1) _ _ ⟨by omega,by omega,by rw [← hy]; exact h.2⟩ (by show (N - (i + 1)).toNat < (N - i).toNat; omega) (.inl ⟨rfl,rfl⟩)))
   · exact .inr h
 clear hI3 hy
 cbv
 try simp only [nc_eq] at *
 rw [hla,← hN,← hx]
 refine BR.lss r0 (fun hc => ?_) hend
 have h1 : INB i N := ⟨hI1,hc⟩
 rw [hadd hc]
 have hst := hst hc
 refine ⟨h1,h1,BR.neq r0 (fun h => ?_) (fun h => ?_)⟩
 · rw [hst,if_pos h]
 · rw [if_neg h] at hst
   exact hX.resolve_right fun h => h ⟨hc,hst.symm⟩
theorem cCompare (a la w b lb v z : Int) (hz : z = cmpT (a,la,w) (b,lb,v)) : PurS Try.prog 30 [injT tDue (a,la,w),injT tDue (b,lb,v)] (.p (iv z)) := by
 refine PurS.of (S := [(45,_),(44,_)]) (T := []) (U := []) (tbl := []) (n := 17) hm15 cfg (.cons (spT2.ok (a := (.int .i64)) (b := (.int .i64)) (pre := fun _ _ => True) fun x0 x1 _ => cCmp x0 x1) (.cons (spT1.ok (a := (.sl (.int .i64))) fun x0 h => cOr x0.1 x0.2 h) .nil)) .nil .nil .nil 0 Try.call30 Try.func30 (ac30_ok (some (0,0))) (by rw [Try.ntmps30]; exact Nat.le_refl _) rfl ⟨_,rfl⟩ ?_
 intro cmp ar cv tn ic ai mx an ad ml sb mn ln em gt up ap sc vw cp rp p1 p2 s1 s2 X Y hX hY r0 r1 r2 r3 r4 r5 r6 r7 r8 r9 r10 r11 r12 r13 r14 r15 r16 r17 r18 r19 r20 r21 r22 r23 r24
 generalize hg0 : cmpI = g0
 generalize hg1 : orL = g1
 cbv
 refine ⟨⟨by simp⟩,?_⟩
 rw [hz,← hg0,← hg1]; rfl
end Go.Ab
namespace Go.Ab
open Go.Proofs Go.Sort Go.RowKit
theorem GOK.none (w : World) : GOK (fun _ _ => none) w := fun _ _ _ h => by cases h
theorem GR_of {w w' : World} (h : BelowF w.heap.size w w') : ∃ q os',w' = grow (w.drewN q) os' := by
 refine ⟨w'.drawn - w.drawn,w'.heap.extract w.heap.size w'.heap.size,?_⟩
 obtain ⟨⟨h1,h2,h3,h4,h5⟩,_,h6⟩ := h
 have hh : w'.heap = w.heap ++ w'.heap.extract w.heap.size w'.heap.size := by
   apply Array.ext_getElem?
   intro k
   by_cases hk : k < w.heap.size
   · rw [Array.getElem?_append_left hk]; exact h5 k hk
   · rw [Array.getElem?_append_right (by omega),Array.getElem?_extract]
     split
     · congr 1; omega
     · rw [Array.getElem?_eq_none]; omega
 cases w; cases w'
 simp only [grow,World.drewN] at *
 subst h1 h2 h3
 rw [← hh]
 congr 1
 omega
theorem PurFn.gr {P : Program} {f : FuncId} {args : List D} {v : Value} (h : PurFn P f args (.v v)) (hg : ∀ g,gkCells g = []) (vs : Array Value) (w : World) (hs : vs.size = args.length) (hR : ∀ i,i < args.length → RD (noE fun _ _ => none) (args.getD i default) (vs.getD i undef)) :
   Calls P f vs w fun e w' => e = .returned v ∧ ∃ q os',w' = grow (w.drewN q) os' := by
 refine (h.2 (fun _ _ => none) w vs (GOK.none w) (GLB.triv hg) hs hR).mono ?_
 rintro e w' ⟨x,G',rfl,_,_,_,hb,hx⟩
 cases hx with
 | v => exact ⟨rfl,GR_of hb⟩
end Go.Ab
