/- GarbleAll: garbled for long guesses,own copies of bytes. -/
import Derived.Test.YtjepihoacohboaaLq
import Derived.Test.YtjepihoacohboaaLv
set_option linter.unusedSimpArgs false
set_option linter.unusedVariables false
set_option maxRecDepth 20000
set_option maxHeartbeats 8000000
namespace Go.Ab
open Go.Proofs
theorem cGarbled2 (x : Int) (nb : Option Bool) (b : List Int) (h : Short 1048576 b) : PurS Try.prog 30 [injT tG (x,nb,b)] (.tl none tI (grbL b)) := by
 refine PurS.of (S := []) (T := []) (U := []) (tbl := []) (n := 23) hm11 cfg .nil .nil .nil .nil 0 Try.call30 Try.func30 (ac30_ok (some (0,0))) (by rw [Try.ntmps30]; exact Nat.le_refl _) rfl ⟨_,rfl⟩ ?_
 intro cmp ar cv tn ic ai mx an ad ml sb mn ln em gt up ap sc vw cp rp p1 p2 s1 s2 X Y hX hY r0 r1 r2 r3 r4 r5 r6 r7 r8 r9 r10 r11 r12 r13 r14 r15 r16 r17 r18 r19 r20 r21 r22 r23 r24
 generalize hg0 : grbL = g0
 cbv
 have h := h.h
 have hla : ic (ln tB b) = b.length := by rw [r4,r12]
 obtain ⟨N,hN⟩ : ∃ N : Int,N = b.length := ⟨_,rfl⟩
 rw [← hN] at hla
 have hn2 : nlLe nb nb := nlLe_self.2 trivial
 refine LOOP.ind (σ := Int × List Int) (fun (i,O) => [(1,.ptr 0 0),(3,.og 0 tI O),(4,.p (iv i))]) (fun (i,O) => ⟨[{ cells := [.p (iv x),.tl nb tB b],e := 24,fz := false }],[(ml (ln tI O) 1,3)]⟩) (fun (i,_) => (N - i).toNat) (fun (i,O) => 0 ≤ i ∧ i ≤ N ∧ O = stP b i.toNat) (0,[]) ⟨by omega,by show (0 : Int) ≤ N; omega,rfl⟩ (.inr ⟨[some 0],[none],?_⟩) ?_
 · rw [SIM_iff]; cbv; simp [nlLe_self]
 intro ⟨i,O⟩ hI X' hX
 obtain ⟨hI1,hI2,hI3⟩ := hI
 have hPl : O.length ≤ 1048576 := by rw [hI3]; have := stP_len b i.toNat; omega
 obtain ⟨y,hy⟩ : ∃ y : Int,y = gt tB b i := ⟨_,rfl⟩
 have hyg : i < N → b.getD i.toNat 0 = y := fun h => by rw [hy,r14]; rfl
 have hadd : i < N → ar .add .i64 i 1 = i + 1 := fun h => by rw [r1]; exact wrap64 (n := i + 1) (by omega) (by omega)
 have hap : ap tI O [i] = O ++ [i] := by rw [r16]
 have hlp : ad (ln tI O) (ln tI [i]) = O.length + 1 := by rw [r8,r12]; rfl
 have hend : ¬ i < N → O = g0 b := fun h => by
   have hi : i.toNat = b.length := by omega
   rw [hI3,hi,← hg0]; unfold stP grbL; rw [List.take_length]
 have hnt : (i + 1).toNat = i.toNat + 1 := by omega
 cbv
 try simp only [nc_eq] at *
 rw [hla,← hy,hap,hlp]
 refine BR.lss r0 (fun hc => ?_) (fun hc => ⟨nlLe_none.2 trivial,hend hc⟩)
 have h1 : INB i N := ⟨hI1,hc⟩
 have hlt : i.toNat < b.length := by omega
 rw [hadd hc]
 refine ⟨h1,h1,BR.eql r0 (fun h => ?_) (fun h => ?_)⟩
 · have e := hyg hc
   rw [h] at e
   refine ⟨⟨rfl⟩,LIM_iff.2 ⟨by omega,by omega⟩,NEXT.mk (hX (i + 1,O ++ [i]) _ _ ⟨by omega,by omega,?_⟩ (by show (N - (i + 1)).toNat < (N - i).toNat; omega) (.inl ⟨rfl,rfl⟩))⟩
   rw [hI3,hnt,stP_two hlt e,show ((i.toNat : Nat) : Int) = i by omega]
 · have e : b.getD i.toNat 0 ≠ 2 := by rw [hyg hc]; exact h
   refine NEXT.mk (hX (i + 1,O) _ _ ⟨by omega,by omega,?_⟩ (by show (N - (i + 1)).toNat < (N - i).toNat; omega) (.inl ⟨rfl,rfl⟩))
   rw [hI3,hnt,stP_not hlt e]
theorem cCpBO (nl : Option Bool) (l : List Int) (hl : Short 2000 l) : OwnL Try.prog 31 ([injT (.sl tB) (nl,l)]) (tB) 5 (l) (shI) := by
 refine OwnL.of fun d bs hD => OwnS.of (S := []) (T := []) (U := []) (tbl := []) (n := 19) hm11 cfg .nil .nil .nil .nil 0 Try.call31 Try.func31 (ac31_ok (some (0,0))) (by rw [Try.ntmps31]; exact Nat.le_refl _) rfl _ _ ?_
 intro cmp ar cv tn ic ai mx an ad ml sb mn ln em gt up ap sc vw cp rp p1 p2 s1 s2 X Y hX hY r0 r1 r2 r3 r4 r5 r6 r7 r8 r9 r10 r11 r12 r13 r14 r15 r16 r17 r18 r19 r20 r21 r22 r23 r24
 cbv
 have hl := hl.h
 have hla : ic (ln tB l) = l.length := by rw [r4,r12]
 obtain ⟨N,hN⟩ : ∃ N : Int,N = l.length := ⟨_,rfl⟩
 rw [← hN] at hla
 refine LOOP.ind (σ := List Int × Int) (fun (a,i) => [(0,.tl nl tB l),(3,.og 0 tB a),(4,.p (iv i))]) (fun (a,i) => ⟨[],[(ml (ln tB a) 1,5)]⟩) (fun (a,i) => (N - i).toNat) (fun (a,i) => 0 ≤ i ∧ i ≤ N ∧ a.length ≤ i ∧ a ++ l.drop i.toNat = l) ([],0) ⟨by omega,by show (0 : Int) ≤ N; omega,by simp,by simp⟩ (.inr ⟨[],[none],?_⟩) ?_
 · rw [SIM_iff]; cbv; simp [nlLe_self]
 intro ⟨a,i⟩ hI X' hX
 obtain ⟨hI1,hI2,hI4,hI3⟩ := hI
 obtain ⟨y,hy⟩ : ∃ y : Int,y = gt tB l i := ⟨_,rfl⟩
 have hadd : i < N → ar .add .i64 i 1 = i + 1 := fun h => by rw [r1]; exact wrap64 (n := i + 1) (by omega) (by omega)
 have hap : ap tB a [y] = a ++ [y] := by rw [r16]
 have hlp : ad (ln tB a) (ln tB [y]) = a.length + 1 := by rw [r8,r12]; rfl
 have hst : i < N → (a ++ [y]) ++ l.drop (i + 1).toNat = l := fun h => by
   rw [List.append_assoc,List.singleton_append,hy,r14,← gtR_drop (t := tB) hI1 (by omega)]; exact hI3
 have hml : ml (ln tB a) 1 = a.length := by rw [r9,r12]; exact Nat.mul_one _
 have hend : ¬ i < N → OWNF d bs (.og 0 tB a) ⟨[],[(ml (ln tB a) 1,5)]⟩ := fun h => by
   have e : a = l := by rw [gtR_end (by omega),List.append_nil] at hI3; exact hI3
   rw [hml,e]
   refine hD.ogI ?_ (rows_int _)
   show some (l.length,_) = some (l.length * 1,_)
   rw [Nat.mul_one]
 cbv
 try simp only [nc_eq] at *
 rw [hla,← hy,hap,hlp]
 refine BR.lss r0 (fun hc => ?_) hend
 have h1 : INB i N := ⟨hI1,hc⟩
 rw [hadd hc]
 refine ⟨h1,h1,⟨rfl⟩,LIM_iff.2 ⟨by omega,by omega⟩,NEXT.mk (hX (a ++ [y],i + 1) _ _ ⟨by omega,by omega,?_,hst hc⟩ (by show (N - (i + 1)).toNat < (N - i).toNat; omega) (.inl ⟨rfl,rfl⟩))⟩
 show ((a ++ [y]).length : Int) ≤ i + 1
 rw [List.length_append,List.length_singleton]; omega
def spCpB : OpsS → CallS := spOwn (argT1 (.sl tB)) (fun a => Short 2000 a.2) tB 5 (fun a => a.2) (fun _ => shI)
theorem cCpBT : ∀ ds st K,spCpB OpsS.real 31 ds st K → FnS Try.prog 31 ds st K := fun ds st K => spOwn.ok (fun _ => shI.ok tB) (argT1.ok (a := .sl tB) (Q := fun xs a => Short 2000 a.2 → OwnL Try.prog 31 xs tB 5 a.2 shI) (fun xs ys a he h hp => (h hp).cong he) fun a hp => cCpBO a.1 a.2 hp) ds st K
end Go.Ab
