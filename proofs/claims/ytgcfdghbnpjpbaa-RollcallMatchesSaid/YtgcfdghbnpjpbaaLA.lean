/- The reference's side functions: insert,next. -/
import Derived.Test.YtgcfdghbnpjpbaaLw
set_option linter.unusedSimpArgs false
set_option linter.unusedVariables false
set_option maxRecDepth 20000
set_option maxHeartbeats 8000000
namespace Go.Ab
open Go.Proofs
theorem cIns (nl : Option Bool) (l : List Int) (x : Int) (h : Short 2000 l) : PurS Try.prog 35 [injT (.sl tI) (nl,l),injT tI x] (.tl none tI (insI x l)) := by
 refine PurS.of (S := []) (T := []) (U := []) (tbl := []) (n := 37) hm15 cfg .nil .nil .nil .nil 0 Try.call35 Try.func35 (ac35_ok (some (0,0))) (by rw [Try.ntmps35]; exact Nat.le_refl _) rfl ⟨_,rfl⟩ ?_
 intro cmp ar cv tn ic ai mx an ad ml sb mn ln em gt up ap sc vw cp rp p1 p2 s1 s2 X Y hX hY r0 r1 r2 r3 r4 r5 r6 r7 r8 r9 r10 r11 r12 r13 r14 r15 r16 r17 r18 r19 r20 r21 r22 r23 r24
 generalize hg0 : insI = g0
 cbv
 have h' := h.h
 have hla : ic (ln tI l) = l.length := by rw [r4,r12]
 obtain ⟨L,hL⟩ : ∃ L : Int,L = l.length := ⟨_,rfl⟩
 obtain ⟨z,hz⟩ : ∃ z,z = g0 x l := ⟨_,rfl⟩
 rw [← hz]
 have hn2 : nlLe none none := by simp [nlLe_none]
 refine LOOP.ind (σ := List Int × Int) (fun (a,i) => [(0,.tl nl tI l),(1,.p (iv x)),(5,.og 0 tI a),(6,.p (iv i))]) (fun (a,i) => ⟨[],[(ml (ln tI a) 1,3)]⟩) (fun (a,i) => (L - i).toNat) (fun (a,i) => (0 ≤ i ∧ i ≤ L) ∧ (a.length : Int) = i ∧ a ++ insI x (l.drop i.toNat) = z) ([],0) ⟨⟨by omega,by omega⟩,rfl,by rw [hz,← hg0]; rfl⟩ (.inr ⟨[],[none],?_⟩) ?_
 · rw [SIM_iff]; cbv; simp [nlLe_self]
 intro ⟨a,i⟩ hI X' hX
 dsimp only at hI
 obtain ⟨⟨hI1,hI2⟩,ha,hI3⟩ := hI
 obtain ⟨y,hy⟩ : ∃ y : Int,y = gt tI l i := ⟨_,rfl⟩
 have hst : i < L → l.drop i.toNat = y :: l.drop (i + 1).toNat := fun h => by rw [hy,r14]; exact gtR_drop (t := tI) hI1 (by omega)
 have hlt : i < L → y < x → (a ++ [y]) ++ insI x (l.drop (i + 1).toNat) = z := fun h h2 => by
   rw [← hI3,hst h]; simp [insI,h2]
 have hge : i < L → ¬ y < x → a ++ [x] ++ l.drop i.toNat = z := fun h h2 => by
   rw [← hI3,hst h]; simp [insI,h2]
 have hend : ¬ i < L → a ++ [x] ++ l.drop i.toNat = z := fun h => by
   rw [← hI3,gtR_end (by omega)]; simp [insI]
 have hadd : i < L → ar .add .i64 i 1 = i + 1 := fun h => by rw [r1]; exact wrap64 (n := i + 1) (by omega) (by omega)
 have hX2 : i < L → y < x → NEXT X' [(0,.tl nl tI l),(1,.p (iv x)),(5,.og 0 tI (a ++ [y])),(6,.p (iv (i + 1)))] ⟨[],[(ml (ln tI (a ++ [y])) 1,3)]⟩ := fun h h2 =>
   NEXT.mk (hX (a ++ [y],i + 1) _ _ ⟨⟨by show 0 ≤ i + 1; omega,by show i + 1 ≤ L; omega⟩,by show ((a ++ [y]).length : Int) = i + 1; simp; omega,hlt h h2⟩ (by show (L - (i + 1)).toNat < (L - i).toNat; omega) (.inl ⟨rfl,rfl⟩))
 have hsc : sc tI l i L = l.drop i.toNat := by rw [r17,hL]; unfold scR; rw [Int.toNat_natCast,List.take_length]
 have hap : ∀ b c : List Int,ap tI b c = b ++ c := fun b c => by rw [r16]
 have hl1 : ∀ u : Int,LIM (ad (ln tI a) (ln tI [u])) 8 := fun u => by
   rw [LIM_iff,r8,r12]
   show (a.length + 1) * 8 ≤ _ ∧ a.length + 1 ≤ _
   omega
 have hl2 : LIM (ad (ln tI (a ++ [x])) (ln tI (l.drop i.toNat))) 8 := by
   rw [LIM_iff,r8,r12]
   show ((a ++ [x]).length + (l.drop i.toNat).length) * 8 ≤ _ ∧ (a ++ [x]).length + (l.drop i.toNat).length ≤ _
   rw [List.length_append,List.length_drop,List.length_singleton]
   omega
 rw [← hL] at hla
 have hfin : a ++ [x] ++ l.drop i.toNat = z → EQN (ml (ln tI a) 1) (ml (ln tI a) 1) ∧ LIM (ad (ln tI a) (ln tI [x])) 8 ∧ SLB i L L ∧ EQN (ml (ln tI (a ++ [x])) 1) (ml (ln tI (a ++ [x])) 1) ∧ LIM (ad (ln tI (a ++ [x])) (ln tI (l.drop i.toNat))) 8 ∧ nlLe none none ∧ a ++ [x] ++ l.drop i.toNat = z :=
   fun h => ⟨⟨rfl⟩,hl1 x,⟨hI1,hI2,Int.le_refl _⟩,⟨rfl⟩,hl2,hn2,h⟩
 clear hI3 hX hst hlt
 cbv
 try simp only [nc_eq] at *
 rw [hla,← hy,hsc]
 simp only [hap]
 refine BR.lss r0 (fun hc => ⟨⟨hI1,hc⟩,⟨hI1,hc⟩,BR.lss r0 (fun h2 => ?_) fun h2 => hfin (hge hc h2)⟩) fun hc => hfin (hend hc)
 rw [hadd hc]
 exact ⟨⟨hI1,hc⟩,⟨hI1,hc⟩,⟨rfl⟩,hl1 y,hX2 hc h2⟩
def nxtL (l : List DUE) : List DUE → List Bool → Int → Int → Int
 | x :: r,d :: ds,i,b => nxtL l r ds (i + 1) (if d = true then b else if b < 0 ∨ befP x (gtR tDue l b) then i else b)
 | _,_,_,b => b
structure NXP (l : List DUE) (d : List Bool) : Prop where
 h : Short 2000 l
 n : d.length = l.length
theorem cNext (nl : Option Bool) (l : List DUE) (nd : Option Bool) (d : List Bool) (h : NXP l d) : PurS Try.prog 34 [injT (.sl tDue) (nl,l),injT (.sl .bool) (nd,d)] (.p (iv (nxtL l l d 0 (-1)))) := by
 refine PurS.of (S := []) (T := []) (U := []) (tbl := []) (n := 60) hm15 cfg .nil .nil .nil .nil 0 Try.call34 Try.func34 (ac34_ok (some (0,0))) (by rw [Try.ntmps34]; exact Nat.le_refl _) rfl ⟨_,rfl⟩ ?_
 intro cmp ar cv tn ic ai mx an ad ml sb mn ln em gt up ap sc vw cp rp p1 p2 s1 s2 X Y hX hY r0 r1 r2 r3 r4 r5 r6 r7 r8 r9 r10 r11 r12 r13 r14 r15 r16 r17 r18 r19 r20 r21 r22 r23 r24
 generalize hg0 : nxtL = g0
 cbv
 have h' := h.h.h
 have hnd := h.n
 have hla : ic (ln tDue l) = l.length := by rw [r4,r12]
 have hld : ic (ln .bool d) = d.length := by rw [r4,r12]
 obtain ⟨L,hL⟩ : ∃ L : Int,L = l.length := ⟨_,rfl⟩
 obtain ⟨z,hz⟩ : ∃ z,z = g0 l l d 0 (-1) := ⟨_,rfl⟩
 rw [← hz]
 rw [← hL] at hla
 rw [hnd,← hL] at hld
 refine LOOP.ind (σ := Int × Int) (fun (i,b) => [(0,.tl nl tDue l),(1,.tl nd .bool d),(5,.p (iv b)),(6,.p (iv i))]) (fun _ => ⟨[],[]⟩) (fun (i,b) => (L - i).toNat) (fun (i,b) => (0 ≤ i ∧ i ≤ L) ∧ (-1 ≤ b ∧ b < L) ∧ nxtL l (l.drop i.toNat) (d.drop i.toNat) i b = z) (0,-1) ⟨⟨by omega,by omega⟩,⟨by omega,by omega⟩,by rw [hz,← hg0]; rfl⟩ (.inl ⟨rfl,rfl⟩) ?_
 intro ⟨i,b⟩ hI X' hX
 dsimp only at hI
 obtain ⟨⟨hI1,hI2⟩,⟨hb1,hb2⟩,hI3⟩ := hI
 obtain ⟨⟨a,la,w⟩,hx⟩ : ∃ x : DUE,x = gt tDue l i := ⟨_,rfl⟩
 obtain ⟨⟨a',la',w'⟩,hy⟩ : ∃ x : DUE,x = gt tDue l b := ⟨_,rfl⟩
 obtain ⟨t,ht⟩ : ∃ t : Bool,t = gt .bool d i := ⟨_,rfl⟩
 have hst : i < L → l.drop i.toNat = (a,la,w) :: l.drop (i + 1).toNat := fun h => by rw [hx,r14]; exact gtR_drop (t := tDue) hI1 (by omega)
 have hsd : i < L → d.drop i.toNat = t :: d.drop (i + 1).toNat := fun h => by rw [ht,r14]; exact gtR_drop (t := .bool) hI1 (by omega)
 have hgy : gtR tDue l b = (a',la',w') := by rw [hy,r14]
 have hend : ¬ i < L → b = z := fun h => by rw [← hI3,gtR_end (l := l) (by omega)]; rfl
 have q1 : ∀ a la w : Int,p1 tI (.pair tI tI) (a,la,w) = a := fun a la w => by rw [r21]
 have q3 : ∀ a la w : Int,p2 tI tI (p2 tI (.pair tI tI) (a,la,w)) = w := fun a la w => by rw [r22]
 have hadd : i < L → ar .add .i64 i 1 = i + 1 := fun h => by rw [r1]; exact wrap64 (n := i + 1) (by omega) (by omega)
 have hnx : i < L → ∀ b',b' = (if t = true then b else if b < 0 ∨ befP (a,la,w) (a',la',w') then i else b) → NEXT X' [(0,.tl nl tDue l),(1,.tl nd .bool d),(5,.p (iv b')),(6,.p (iv (i + 1)))] ⟨[],[]⟩ := fun h b' e => by
   refine NEXT.mk (hX (i + 1,b') _ _ ⟨⟨by show 0 ≤ i + 1; omega,by show i + 1 ≤ L; omega⟩,?_,?_⟩ (by show (L - (i + 1)).toNat < (L - i).toNat; omega) (.inl ⟨rfl,rfl⟩))
   · show -1 ≤ b' ∧ b' < L
     rw [e]
     split
     · omega
     · split <;> omega
   · show nxtL l (l.drop (i + 1).toNat) (d.drop (i + 1).toNat) (i + 1) b' = z
     rw [← hI3,hst h,hsd h,nxtL,hgy,e]
 have hN : ¬ t = true → ¬ b < 0 → ¬ befP (a,la,w) (a',la',w') → b = (if t = true then b else if b < 0 ∨ befP (a,la,w) (a',la',w') then i else b) := fun h1 h2 h3 => by rw [if_neg h1,if_neg (by rintro (h | h); exact h2 h; exact h3 h)]
 have hY : ¬ t = true → (b < 0 ∨ befP (a,la,w) (a',la',w')) → i = (if t = true then b else if b < 0 ∨ befP (a,la,w) (a',la',w') then i else b) := fun h1 h2 => by rw [if_neg h1,if_pos h2]
 have hT : t = true → b = (if t = true then b else if b < 0 ∨ befP (a,la,w) (a',la',w') then i else b) := fun h1 => by rw [if_pos h1]
 clear hI3 hX hst hsd hgy
 have hnT : i < L → t = true → NEXT X' [(0,.tl nl tDue l),(1,.tl nd .bool d),(5,.p (iv b)),(6,.p (iv (i + 1)))] ⟨[],[]⟩ := fun h h1 => hnx h _ (hT h1)
 have hnN : i < L → ¬ t = true → ¬ b < 0 → ¬ befP (a,la,w) (a',la',w') → NEXT X' [(0,.tl nl tDue l),(1,.tl nd .bool d),(5,.p (iv b)),(6,.p (iv (i + 1)))] ⟨[],[]⟩ := fun h h1 h2 h3 => hnx h _ (hN h1 h2 h3)
 have hnY : i < L → ¬ t = true → (b < 0 ∨ befP (a,la,w) (a',la',w')) → NEXT X' [(0,.tl nl tDue l),(1,.tl nd .bool d),(5,.p (iv i)),(6,.p (iv (i + 1)))] ⟨[],[]⟩ := fun h h1 h2 => hnx h _ (hY h1 h2)
 clear hnx hT hN hY
 cbv
 try simp only [nc_eq] at *
 rw [hla,hld,← hx,← hy,← ht]
 simp only [q1,q3]
 refine BR.lss r0 (fun hc => ?_) fun hc => hend hc
 have hi : INB i L := ⟨hI1,hc⟩
 rw [hadd hc]
 refine ⟨hi,hi,BR.mk (fun h1 => hnT hc h1) fun h1 => ?_⟩
 have h1 : ¬ t = true := by rw [h1]; decide
 refine BR.lss r0 (fun h2 => hnY hc h1 (.inl h2)) fun h2 => ?_
 have hb : INB b L := ⟨by omega,hb2⟩
 refine ⟨hi,hi,hb,hb,BR.gtr r0 (fun h3 => hnY hc h1 (.inr (.inl h3))) fun h3 => ⟨hi,hi,hb,hb,BR.eql r0 (fun h4 => ⟨hi,hi,hb,hb,BR.lss r0 (fun h5 => hnY hc h1 (.inr (.inr ⟨h4.symm,h5⟩))) fun h5 => hnN hc h1 h2 ?_⟩) fun h4 => hnN hc h1 h2 ?_⟩⟩
 · rintro (h | h)
   · exact h3 h
   · exact h5 h.2
 · rintro (h | h)
   · exact h3 h
   · exact h4 h.1.symm
end Go.Ab
