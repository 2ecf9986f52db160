/- Own copies; GarbleTail. -/
import Derived.Test.YtjepihoacohboaaLp
set_option linter.unusedSimpArgs false
set_option linter.unusedVariables false
set_option maxRecDepth 20000
set_option maxHeartbeats 8000000
namespace Go.Ab
open Go.Proofs
theorem OWD.ogI {t : Ty} {e : TypeId} {l : List t.den} {d : DC} {bs : List BoxS} {st : StS} (h : OWD t e l d bs) {g : Nat} (hg : nthD st.grp g = some (l.length * t.size,e)) (hf : (t.rows l).all flatP = true) : OWNF d bs (.og g t l) st := by
 rcases h.h with ⟨h',rfl,rfl⟩ | ⟨h',rfl,rfl⟩
 · subst h'
   refine OWNF.flat ?_ (z := .sl (some true) 0 []) ?_ rfl
   · simp only [DC.conc]
   · simp only [DC.conc]
 · refine ⟨_,?_,gp_box hg hf⟩
   rw [og_concN h',ms_conc]
   simp only [Ren]
   exact ⟨0,e,rfl,rfl⟩
theorem cCpO (nl : Option Bool) (l : List Int) (hl : Short 2000 l) : OwnL Try.prog 26 ([injT (.sl tB) (nl,l)]) (tB) 5 (l) (shI) := by
 refine OwnL.of fun d bs hD => OwnS.of (S := []) (T := []) (U := []) (tbl := [(31,ac31 none,[.tmp 2],19)]) (n := 5) hm11 cfg .nil .nil .nil (.cons Try.call31 Try.func31 (ac31_ok none) (by rw [Try.ntmps31]; exact Nat.le_refl _) .nil) 6 Try.call26 Try.func26 (ac26_ok (some (0,0))) (by rw [Try.ntmps26]; exact Nat.le_refl _) rfl _ _ ?_
 intro cmp ar cv tn ic ai mx an ad ml sb mn ln em gt up ap sc vw cp rp p1 p2 s1 s2 X Y hX hY r0 r1 r2 r3 r4 r5 r6 r7 r8 r9 r10 r11 r12 r13 r14 r15 r16 r17 r18 r19 r20 r21 r22 r23 r24
 cbv
 have hl := hl.h
 have hla : ic (ln tB l) = l.length := by rw [r4,r12]
 obtain ⟨N,hN⟩ : ∃ N : Int,N = l.length := ⟨_,rfl⟩
 rw [← hN] at hla
 refine LOOP.ind0 (σ := List Int × Int) (fun (a,i) => [(0,.tl nl tB l),(3,.og 0 tB a),(4,.p (iv i))]) (fun (a,i) => ⟨[],[(ml (ln tB a) 1,5)]⟩) (fun (a,i) => (N - i).toNat) (fun (a,i) => 0 ≤ i ∧ i ≤ N ∧ a.length ≤ i ∧ a ++ l.drop i.toNat = l) ([],0) ⟨by omega,by show (0 : Int) ≤ N; omega,by simp,by simp⟩ (.inr ⟨[],[none],?_⟩) ?_
 · rw [SIM_iff]; cbv; simp [nlLe_self]
 intro ⟨a,i⟩ hI X' hX
 obtain ⟨hI1,hI2,hI4,hI3⟩ := hI
 obtain ⟨y,hy⟩ : ∃ y : Int,y = gt tB l i := ⟨_,rfl⟩
 have hadd : i < N → ar .add .i64 i 1 = i + 1 := fun h => by rw [r1]; exact wrap64 (n := i + 1) (by omega) (by omega)
 have hap : ap tB a [y] = a ++ [y] := by rw [r16]
 have hlp : ad (ln tB a) (ln tB [y]) = a.length + 1 := by rw [r8,r12]; rfl
 have hst : i < N → (a ++ [y]) ++ l.drop (i + 1).toNat = l := fun h => by
   rw [List.append_assoc,List.singleton_append,hy,r14,← gtR_drop (t := tB) hI1 (by omega)]; exact hI3
 have hml : ml (ln tB a) 1 = a.length := by rw [r9,r12]; exact Nat.mul_one _
 have hend : ¬ i < N → OWNF d bs (.og 0 tB a) ⟨[],[(ml (ln tB a) 1,5)]⟩ := fun h => by
   have e : a = l := by rw [gtR_end (by omega),List.append_nil] at hI3; exact hI3
   rw [hml,e]
   refine hD.ogI ?_ (rows_int _)
   show some (l.length,_) = some (l.length * 1,_)
   rw [Nat.mul_one]
 cbv
 try simp only [nc_eq] at *
 rw [hla,← hy,hap,hlp]
 refine BR.lss r0 (fun hc => ?_) hend
 have h1 : INB i N := ⟨hI1,hc⟩
 rw [hadd hc]
 refine ⟨h1,h1,⟨rfl⟩,LIM_iff.2 ⟨by omega,by omega⟩,NEXT.mk (hX (a ++ [y],i + 1) _ _ ⟨by omega,by omega,?_,hst hc⟩ (by show (N - (i + 1)).toNat < (N - i).toNat; omega) (.inl ⟨rfl,rfl⟩))⟩
 show ((a ++ [y]).length : Int) ≤ i + 1
 rw [List.length_append,List.length_singleton]; omega
def spCp : OpsS → CallS := spOwn (argT1 (.sl tB)) (fun a => Short 2000 a.2) tB 5 (fun a => a.2) (fun _ => shI)
theorem cCpT : ∀ ds st K,spCp OpsS.real 26 ds st K → FnS Try.prog 26 ds st K := fun ds st K => spOwn.ok (fun _ => shI.ok tB) (argT1.ok (a := .sl tB) (Q := fun xs a => Short 2000 a.2 → OwnL Try.prog 26 xs tB 5 a.2 shI) (fun xs ys a he h hp => (h hp).cong he) fun a hp => cCpO a.1 a.2 hp) ds st K
structure TLI (b O : List Int) : Prop where
 l : O.length = b.length
 gv : GV O
 t : ∀ i,O.getD i 0 = 2 → b.length - 24 ≤ i
end Go.Ab
