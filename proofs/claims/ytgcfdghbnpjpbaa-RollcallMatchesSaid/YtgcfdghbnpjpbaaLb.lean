/- Check,and the reference's. -/
import Derived.Test.YtgcfdghbnpjpbaaLa
set_option linter.unusedSimpArgs false
set_option linter.unusedVariables false
set_option maxRecDepth 20000
set_option maxHeartbeats 4000000
namespace Go.Ab
open Go.Proofs
abbrev tSE : Ty := tEnt .i64 .bool
abbrev SE := List (Int × Bool × Int)
def cfgB : Cfg := { cfg with maps := [(0,tSE)] }
def badD (x : DUE) : Prop := x.1 < 0 ∨ x.1 > 16777215 ∨ x.2.1 < 0 ∨ x.2.1 > 1048576 ∨ x.2.2 < 0 ∨ x.2.2 > 1048576
instance (x : DUE) : Decidable (badD x) := by unfold badD; infer_instance
def chkT (sn : List Int) : List DUE → Int
 | [] => 0
 | x :: r => if badD x then 1 else if x.1 ∈ sn then 16 else chkT (x.1 :: sn) r
def chkD (l : List DUE) : Int := if l.length > 64 then 4 else chkT [] l
structure SEEN (l : SE) (sn : List Int) : Prop where
 v : ∀ e ∈ l,e.2.1 = true
 k : ∀ a,a ∈ sn ↔ ∃ e ∈ l,e.1 = a
theorem SEEN.nil : SEEN [] [] := ⟨by simp,by simp⟩
theorem SEEN.has {l : SE} {sn : List Int} (h : SEEN l sn) {k : Int} {v : Bool} {b : Int} (hh : MHas l k v b) : v = true ∧ k ∈ sn := by
 obtain ⟨l1,l2,rfl,_⟩ := hh
 exact ⟨h.v (k,v,b) (by simp),(h.k k).2 ⟨(k,v,b),by simp,rfl⟩⟩
theorem SEEN.not {l : SE} {sn : List Int} (h : SEEN l sn) {k : Int} (hh : MNot l k) : k ∉ sn := fun hk => by
 obtain ⟨e,he,e1⟩ := (h.k k).1 hk
 exact hh e he e1
theorem SEEN.put {l l' : SE} {sn : List Int} {k c c' : Int} (h : SEEN l sn) (hn : k ∉ sn) (hp : MPut l k true c l' c') : SEEN l' (k :: sn) ∧ l'.length = l.length + 1 ∧ c' = c + 1 := by
 rcases hp with ⟨l1,v0,b,l2,rfl,_⟩ | ⟨_,rfl,rfl⟩
 · exact absurd ((h.k k).2 ⟨(k,v0,b),by simp,rfl⟩) hn
 · refine ⟨⟨fun e he => ?_,fun a => ?_⟩,by simp,rfl⟩
   · rcases List.mem_append.1 he with he | he
     · exact h.v e he
     · simp only [List.mem_singleton] at he; rw [he]
   · rw [List.mem_cons,h.k a]
     constructor
     · rintro (rfl | ⟨e,he,e1⟩)
       · exact ⟨(a,true,c),by simp,rfl⟩
       · exact ⟨e,by simp [he],e1⟩
     · rintro ⟨e,he,e1⟩
       rcases List.mem_append.1 he with he | he
       · exact .inr ⟨e,he,e1⟩
       · simp only [List.mem_singleton] at he; subst he; exact .inl e1.symm
def mapB (c : Int) (n : Nat) (s : SE) : StS := ⟨[{ cells := [.p (iv c),.arr n tSE s],e := 1,fz := true,m := true }],[]⟩
theorem cChk (nl : Option Bool) (l : List DUE) (h : Short 2000 l) : PurS Try.prog 15 [injT (.sl tDue) (nl,l)] (.p (iv (chkD l))) := by
 refine PurS.of (S := []) (T := []) (U := []) (tbl := []) (n := 52) hm15 cfgB .nil .nil .nil .nil 0 Try.call15 Try.func15 (ac15_ok (some (0,0))) (by rw [Try.ntmps15]; exact Nat.le_refl _) rfl ⟨_,rfl⟩ ?_
 intro cmp ar cv tn ic ai mx an ad ml sb mn ln em gt up ap sc vw cp rp p1 p2 s1 s2 X Y hX hY r0 r1 r2 r3 r4 r5 r6 r7 r8 r9 r10 r11 r12 r13 r14 r15 r16 r17 r18 r19 r20 r21 r22 r23 r24
 generalize hg0 : chkD = g0
 cbv
 have h := h.h
 have hla : ic (ln tDue l) = l.length := by rw [r4,r12]
 have e1 : l.length > 64 → 4 = g0 l := fun h => by rw [← hg0]; simp [chkD,h]
 have e3 : ¬ l.length > 64 → chkT [] l = g0 l := fun h => by rw [← hg0]; simp [chkD,h]
 obtain ⟨N,hN⟩ : ∃ N : Int,N = l.length := ⟨_,rfl⟩
 rw [hla,← hN]
 refine BR.gtr r0 (fun h => e1 (by omega)) fun h1 => ?_
 have e3 := e3 (by omega)
 obtain ⟨z,hz⟩ : ∃ z,z = g0 l := ⟨_,rfl⟩
 rw [← hz] at e3 ⊢
 clear e1 hz
 have hN64 : 0 ≤ N ∧ N ≤ 64 := by omega
 refine LOOP.ind (σ := Int × Nat × Int × SE × List Int) (fun (i,n,c,s,sn) => [(3,.mref 0),(10,.tl nl tDue l),(11,.p (iv N)),(12,.p (iv i))]) (fun (i,n,c,s,sn) => mapB c n s) (fun (i,n,c,s,sn) => (N - i).toNat)
   (fun (i,n,c,s,sn) => (0 ≤ i ∧ i ≤ N) ∧ (s.length = n ∧ n = i ∧ c = i) ∧ SEEN s sn ∧ chkT sn (l.drop i.toNat) = z) (0,0,0,[],[]) ⟨⟨by omega,by omega⟩,⟨rfl,rfl,rfl⟩,SEEN.nil,e3⟩ (.inl ⟨rfl,rfl⟩) ?_
 intro ⟨i,n,c,s,sn⟩ hI X' hX
 dsimp only at hI
 obtain ⟨⟨hI1,hI2⟩,⟨hs1,hs2,hs3⟩,hS,hI3⟩ := hI
 obtain ⟨⟨a,la,w⟩,hx⟩ : ∃ x : DUE,x = gt tDue l i := ⟨_,rfl⟩
 have hst : i < N → l.drop i.toNat = (a,la,w) :: l.drop (i + 1).toNat := fun h => by rw [hx,r14]; exact gtR_drop (t := tDue) hI1 (by omega)
 have hend : ¬ i < N → 0 = z := fun h => by rw [← hI3,gtR_end (by omega)]; rfl
 have q1 : p1 tI (.pair tI tI) (a,la,w) = a := by rw [r21]
 have q2 : p1 tI tI (p2 tI (.pair tI tI) (a,la,w)) = la := by rw [r21,r22]
 have q3 : p2 tI tI (p2 tI (.pair tI tI) (a,la,w)) = w := by rw [r22]
 have hadd : i < N → ar .add .i64 i 1 = i + 1 := fun h => by rw [r1]; exact wrap64 (n := i + 1) (by omega) (by omega)
 have f1 : i < N → badD (a,la,w) → 1 = z := fun h h1 => by rw [← hI3,hst h,chkT,if_pos h1]
 have f2 : i < N → ¬ badD (a,la,w) → a ∈ sn → 16 = z := fun h h1 h2 => by rw [← hI3,hst h,chkT,if_neg h1,if_pos h2]
 have f3 : i < N → ¬ badD (a,la,w) → a ∉ sn → chkT (a :: sn) (l.drop (i + 1).toNat) = z := fun h h1 h2 => by rw [← hI3,hst h,chkT,if_neg h1,if_neg h2]
 clear hI3 hst e3
 cbv
 try simp only [nc_eq] at *
 rw [← hx,q1,q2,q3]
 refine BR.lss r0 (fun hc => ?_) hend
 have h1 : INB i (ic (ln tDue l)) := ⟨hI1,by rw [hla]; omega⟩
 refine ⟨h1,h1,?_⟩
 refine BR.lss r0 (fun h => f1 hc (.inl h)) fun n1 => BR.gtr r0 (fun h => f1 hc (.inr (.inl h))) fun n2 => BR.lss r0 (fun h => f1 hc (.inr (.inr (.inl h)))) fun n3 =>
   BR.gtr r0 (fun h => f1 hc (.inr (.inr (.inr (.inl h))))) fun n4 => BR.lss r0 (fun h => f1 hc (.inr (.inr (.inr (.inr (.inl h)))))) fun n5 => BR.gtr r0 (fun h => f1 hc (.inr (.inr (.inr (.inr (.inr h)))))) fun n6 => ?_
 have hb : ¬ badD (a,la,w) := by unfold badD; dsimp only; omega
 have f2 := f2 hc hb
 have f3 := f3 hc hb
 refine MLK.mk hs1 (fun v b hh => ?_) (fun hn0 => ?_)
 · obtain ⟨rfl,hm⟩ := hS.has hh
   have f2 := f2 hm
   cbv
   exact BR.mk (fun _ => f2) fun h => Bool.noConfusion h
 have hnm := hS.not hn0
 have f3 := f3 hnm
 have hput := fun l' c' => hS.put (l' := l') (c := c) (c' := c') hnm
 have hc0 : 0 ≤ c := by omega
 have hadd := hadd hc
 cbv
 refine MUP.mk hs1 hc0 fun n' l' c' hp hl' => ?_
 obtain ⟨hS',hlen,rfl⟩ := hput l' c' hp
 have hn0' : n' = n + 1 := by rw [← hl',← hs1]; exact hlen
 have hs2' : ((n : Nat) : Int) = i := hs2
 have hn' : ((n' : Nat) : Int) = i + 1 := by rw [hn0']; omega
 cbv
 rw [hadd]
 refine NEXT.mk (hX (i + 1,n',c + 1,l',a :: sn) _ _ ⟨⟨by omega,by omega⟩,⟨hl',hn',by show c + 1 = i + 1; omega⟩,hS',f3⟩ (by show (N - (i + 1)).toNat < (N - i).toNat; omega) (.inr ⟨[some 0],[],?_⟩))
 rw [SIM_iff]; cbv
 simp [nlLe_self,lstEq]
theorem cRChk (nl : Option Bool) (l : List DUE) (h : Short 2000 l) : PurS Try.prog 16 [injT (.sl tDue) (nl,l)] (.p (iv (chkD l))) := by
 refine PurS.of (S := []) (T := []) (U := []) (tbl := []) (n := 76) hm15 cfg .nil .nil .nil .nil 0 Try.call16 Try.func16 (ac16_ok (some (0,0))) (by rw [Try.ntmps16]; exact Nat.le_refl _) rfl ⟨_,rfl⟩ ?_
 intro cmp ar cv tn ic ai mx an ad ml sb mn ln em gt up ap sc vw cp rp p1 p2 s1 s2 X Y hX hY r0 r1 r2 r3 r4 r5 r6 r7 r8 r9 r10 r11 r12 r13 r14 r15 r16 r17 r18 r19 r20 r21 r22 r23 r24
 generalize hg0 : chkD = g0
 cbv
 have h := h.h
 have hla : ic (ln tDue l) = l.length := by rw [r4,r12]
 have e1 : l.length > 64 → 4 = g0 l := fun h => by rw [← hg0]; simp [chkD,h]
 have e3 : ¬ l.length > 64 → chkT [] l = g0 l := fun h => by rw [← hg0]; simp [chkD,h]
 obtain ⟨N,hN⟩ : ∃ N : Int,N = l.length := ⟨_,rfl⟩
 rw [hla,← hN]
 refine BR.gtr r0 (fun h => e1 (by omega)) fun h1 => ?_
 have e3 := e3 (by omega)
 obtain ⟨z,hz⟩ : ∃ z,z = g0 l := ⟨_,rfl⟩
 rw [← hz] at e3 ⊢
 clear e1 hz
 have hN64 : 0 ≤ N ∧ N ≤ 64 := by omega
 refine LOOP.ind (σ := Int) (fun i => [(0,.tl nl tDue l),(3,.p (iv i))]) (fun _ => ⟨[],[]⟩) (fun i => (N - i).toNat)
   (fun i => (0 ≤ i ∧ i ≤ N) ∧ chkT (((l.take i.toNat).map (·.1)).reverse) (l.drop i.toNat) = z) 0 ⟨⟨by omega,by omega⟩,e3⟩ (.inl ⟨rfl,rfl⟩) ?_
 intro i hI X' hX
 obtain ⟨⟨hI1,hI2⟩,hI3⟩ := hI
 obtain ⟨⟨a,la,w⟩,hx⟩ : ∃ x : DUE,x = gt tDue l i := ⟨_,rfl⟩
 have hgt : gtR tDue l i = (a,la,w) := by rw [hx,r14]
 have hst : i < N → l.drop i.toNat = (a,la,w) :: l.drop (i + 1).toNat := fun h => by rw [← hgt]; exact gtR_drop (t := tDue) hI1 (by omega)
 have htk : i < N → ((l.take (i + 1).toNat).map (·.1)).reverse = a :: ((l.take i.toNat).map (·.1)).reverse := fun h => by
   have h2 : (i + 1).toNat = i.toNat + 1 := by omega
   have h3 : i.toNat < l.length := by omega
   rw [h2,List.take_add_one,List.getElem?_eq_getElem h3]
   have h4 : l[i.toNat] = (a,la,w) := by rw [← hgt]; simp [gtR,h3]
   rw [h4]; simp
 have hend : ¬ i < N → 0 = z := fun h => by rw [← hI3,gtR_end (by omega)]; rfl
 have q1 : p1 tI (.pair tI tI) (a,la,w) = a := by rw [r21]
 have q2 : p1 tI tI (p2 tI (.pair tI tI) (a,la,w)) = la := by rw [r21,r22]
 have q3 : p2 tI tI (p2 tI (.pair tI tI) (a,la,w)) = w := by rw [r22]
 have hadd : i < N → ar .add .i64 i 1 = i + 1 := fun h => by rw [r1]; exact wrap64 (n := i + 1) (by omega) (by omega)
 obtain ⟨sn,hsn⟩ : ∃ sn,sn = ((l.take i.toNat).map (·.1)).reverse := ⟨_,rfl⟩
 rw [← hsn] at hI3 htk
 have f1 : i < N → badD (a,la,w) → 1 = z := fun h h1 => by rw [← hI3,hst h,chkT,if_pos h1]
 have f2 : i < N → ¬ badD (a,la,w) → a ∈ sn → 16 = z := fun h h1 h2 => by rw [← hI3,hst h,chkT,if_neg h1,if_pos h2]
 have f3 : i < N → ¬ badD (a,la,w) → a ∉ sn → chkT (((l.take (i + 1).toNat).map (·.1)).reverse) (l.drop (i + 1).toNat) = z := fun h h1 h2 => by rw [htk h,← hI3,hst h,chkT,if_neg h1,if_neg h2]
 have hmem : ∀ j : Int,0 ≤ j → j < i → ∀ x : DUE,gtR tDue l j = x → x.1 ∈ sn := fun j h0 h1 x hx => by
   rw [hsn,List.mem_reverse,List.mem_map]
   have h3 : j.toNat < l.length := by omega
   refine ⟨x,?_,rfl⟩
   have h4 : l[j.toNat] = x := by rw [← hx]; simp [gtR,h3]
   rw [← h4]
   exact List.mem_take_iff_getElem.2 ⟨j.toNat,by omega,rfl⟩
 have hall : a ∈ sn → ∃ j : Int,0 ≤ j ∧ j < i ∧ (gtR tDue l j).1 = a := fun hm => by
   rw [hsn,List.mem_reverse,List.mem_map] at hm
   obtain ⟨x,hx4,hx5⟩ := hm
   obtain ⟨j,hj,hj2⟩ := List.mem_take_iff_getElem.1 hx4
   subst hj2 hx5
   exact ⟨j,by omega,by omega,by simp [gtR,show j < l.length by omega]⟩
 have hX2 : i < N → ¬ badD (a,la,w) → (∀ j : Int,0 ≤ j → j < i → (gtR tDue l j).1 ≠ a) → NEXT X' [(0,.tl nl tDue l),(3,.p (iv (i + 1)))] ⟨[],[]⟩ := fun h h1 h2 =>
   NEXT.mk (hX (i + 1) _ _ ⟨⟨by omega,by omega⟩,f3 h h1 fun hm => by obtain ⟨j,q1,q2,q3⟩ := hall hm; exact h2 j q1 q2 q3⟩ (by show (N - (i + 1)).toNat < (N - i).toNat; omega) (.inl ⟨rfl,rfl⟩))
 have hbd : badD (a,la,w) ↔ (a < 0 ∨ a > 16777215 ∨ la < 0 ∨ la > 1048576 ∨ w < 0 ∨ w > 1048576) := Iff.rfl
 clear hI3 hst e3 hsn htk hall f3 hX
 obtain ⟨bd,hbd0⟩ : ∃ bd,bd = badD (a,la,w) := ⟨_,rfl⟩
 rw [← hbd0] at hbd f1 f2 hX2
 clear hbd0
 cbv
 try simp only [nc_eq] at *
 rw [← hx,q1,q2,q3,hla,← hN]
 refine BR.lss r0 (fun hc => ?_) hend
 have h1 : INB i N := ⟨hI1,hc⟩
 have f1 := fun h => f1 hc (hbd.2 h)
 refine ⟨h1,h1,BR.lss r0 (fun h => f1 (.inl h)) fun n1 => ⟨h1,h1,BR.gtr r0 (fun h => f1 (.inr (.inl h))) fun n2 => ⟨h1,h1,BR.lss r0 (fun h => f1 (.inr (.inr (.inl h)))) fun n3 =>
   ⟨h1,h1,BR.gtr r0 (fun h => f1 (.inr (.inr (.inr (.inl h))))) fun n4 => ⟨h1,h1,BR.lss r0 (fun h => f1 (.inr (.inr (.inr (.inr (.inl h)))))) fun n5 => ⟨h1,h1,BR.gtr r0 (fun h => f1 (.inr (.inr (.inr (.inr (.inr h)))))) fun n6 => ?_⟩⟩⟩⟩⟩⟩
 have hnb : ¬ bd := fun h => by have := hbd.1 h; omega
 have f2 := f2 hc hnb
 have hX2 := hX2 hc hnb
 refine LOOP.ind (σ := Int) (fun k => [(0,.tl nl tDue l),(3,.p (iv i)),(4,.p (iv k))]) (fun _ => ⟨[],[]⟩) (fun k => (i - k).toNat)
   (fun k => (0 ≤ k ∧ k ≤ i) ∧ ∀ j : Int,0 ≤ j → j < k → (gtR tDue l j).1 ≠ a) 0 ⟨⟨by omega,by omega⟩,fun j h0 h1 => absurd h1 (by omega)⟩ (.inl ⟨rfl,rfl⟩) ?_
 intro k hK X3 hX3
 obtain ⟨⟨hK1,hK2⟩,hK3⟩ := hK
 obtain ⟨⟨y,y2,y3⟩,hy⟩ : ∃ x : DUE,x = gt tDue l k := ⟨_,rfl⟩
 have hgy : gtR tDue l k = (y,y2,y3) := by rw [hy,r14]
 have hym : k < i → y ∈ sn := fun h => hmem k hK1 h _ hgy
 have q1' : p1 tI (.pair tI tI) (y,y2,y3) = y := by rw [r21]
 have haddk : k < i → ar .add .i64 k 1 = k + 1 := fun h => by rw [r1]; exact wrap64 (n := k + 1) (by omega) (by omega)
 have hend2 : ¬ k < i → NEXT X' [(0,.tl nl tDue l),(3,.p (iv (i + 1)))] ⟨[],[]⟩ := fun h => hX2 fun j h0 h1 => hK3 j h0 (by omega)
 have hX4 : k < i → y ≠ a → NEXT X3 [(0,.tl nl tDue l),(3,.p (iv i)),(4,.p (iv (k + 1)))] ⟨[],[]⟩ := fun h h2 =>
   NEXT.mk (hX3 (k + 1) _ _ ⟨⟨by omega,by omega⟩,fun j h0 h1 => by
     by_cases hj : j = k
     · rw [hj,hgy]; exact h2
     · exact hK3 j h0 (by omega)⟩ (by show (i - (k + 1)).toNat < (i - k).toNat; omega) (.inl ⟨rfl,rfl⟩))
 have hadd := hadd hc
 clear hK3 hX3 hmem hX2 hbd f1 hgy hgt
 cbv
 try simp only [nc_eq] at *
 rw [← hx,← hy,q1,q1',hla,← hN,hadd]
 refine BR.lss r0 (fun hk => ?_) hend2
 have h2 : INB k N := ⟨hK1,by omega⟩
 rw [haddk hk]
 exact ⟨h2,h2,h1,h1,BR.eql r0 (fun h => f2 (by rw [← h]; exact hym hk)) fun h => hX4 hk h⟩
end Go.Ab
