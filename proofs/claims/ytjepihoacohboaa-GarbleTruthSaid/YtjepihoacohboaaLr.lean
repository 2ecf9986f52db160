/- agrees,smaller. -/
import Derived.Test.YtjepihoacohboaaLp
set_option linter.unusedSimpArgs false
set_option linter.unusedVariables false
set_option maxRecDepth 20000
set_option maxHeartbeats 8000000
namespace Go.Ab
open Go.Proofs
structure AGR (g b : List Int) : Prop where
 l : b.length = g.length
 u : b.length ≤ 2000
 v : ∀ x ∈ b,x = 0 ∨ x = 1
 a : ∀ i,g.getD i 0 ≠ 2 → b.getD i 0 = g.getD i 0
theorem cAgr (x : Int) (ng : Option Bool) (g : List Int) (nb : Option Bool) (b : List Int) (h : AGR g b) : PurS Try.prog 27 [injT tG (x,ng,g),injT (.sl tB) (nb,b)] (.sb true) := by
 refine PurS.of (S := []) (T := []) (U := []) (tbl := []) (n := 43) hm11 cfg .nil .nil .nil .nil 0 Try.call27 Try.func27 (ac27_ok (some (0,0))) (by rw [Try.ntmps27]; exact Nat.le_refl _) rfl ⟨_,rfl⟩ ?_
 intro cmp ar cv tn ic ai mx an ad ml sb mn ln em gt up ap sc vw cp rp p1 p2 s1 s2 X Y hX hY r0 r1 r2 r3 r4 r5 r6 r7 r8 r9 r10 r11 r12 r13 r14 r15 r16 r17 r18 r19 r20 r21 r22 r23 r24
 cbv
 have hl := h.l
 have hu := h.u
 have hla : ic (ln tB b) = b.length := by rw [r4,r12]
 have hlg : ic (ln tB g) = b.length := by rw [r4,r12]; show ((g.length : Nat) : Int) = _; omega
 obtain ⟨N,hN⟩ : ∃ N : Int,N = b.length := ⟨_,rfl⟩
 rw [← hN] at hla hlg
 rw [hla,hlg]
 try dsimp only
 refine BR.neqF r0 rfl ?_
 refine LOOP.ind (σ := Int) (fun i => [(1,.tl nb tB b),(2,.ptr 0 0),(5,.p (iv i))]) (fun _ => ⟨[{ cells := [.p (iv x),.tl ng tB g],e := 24,fz := false }],[]⟩) (fun i => (N - i).toNat) (fun i => 0 ≤ i ∧ i ≤ N) 0 ⟨by omega,by show (0 : Int) ≤ N; omega⟩ (.inl ⟨rfl,rfl⟩) ?_
 intro i hI X' hX
 obtain ⟨hI1,hI2⟩ := hI
 obtain ⟨y,hy⟩ : ∃ y : Int,y = gt tB b i := ⟨_,rfl⟩
 obtain ⟨z,hz⟩ : ∃ z : Int,z = gt tB g i := ⟨_,rfl⟩
 have hyb : i < N → y = 0 ∨ y = 1 := fun hc => h.v y (by rw [hy,r14]; exact gtR_mem (t := tB) hI1 (by omega))
 have hyz : z ≠ 2 → y = z := fun hc => by
   have e1 : y = b.getD i.toNat 0 := by rw [hy,r14]; rfl
   have e2 : z = g.getD i.toNat 0 := by rw [hz,r14]; rfl
   rw [e1,e2]; exact h.a _ (by rw [← e2]; exact hc)
 have hadd : i < N → ar .add .i64 i 1 = i + 1 := fun h => by rw [r1]; exact wrap64 (n := i + 1) (by omega) (by omega)
 cbv
 try simp only [nc_eq] at *
 rw [hla,hlg,← hy,← hz]
 refine BR.lss r0 (fun hc => ?_) (fun hc => trivial)
 have hi : INB i N := ⟨hI1,hc⟩
 have hb := hyb hc
 rw [hadd hc]
 have hgo := NEXT.mk (hX (i + 1) _ _ ⟨by omega,by omega⟩ (by show (N - (i + 1)).toNat < (N - i).toNat; omega) (.inl ⟨rfl,rfl⟩))
 refine ⟨hi,hi,BR.gtr r0 (fun h => absurd h (by omega)) fun _ => ⟨hi,hi,BR.neq r0 (fun hne => ?_) fun _ => hgo⟩⟩
 refine ⟨hi,hi,hi,hi,BR.neqF r0 (hyz hne).symm hgo⟩
theorem cSml (na : Option Bool) (a : List Int) (nb : Option Bool) (b : List Int) (h : lexL a b) (hl : a.length = b.length) (hu : Short 2000 a) : PurS Try.prog 28 [injT (.sl tB) (na,a),injT (.sl tB) (nb,b)] (.sb true) := by
 refine PurS.of (S := []) (T := []) (U := []) (tbl := []) (n := 36) hm11 cfg .nil .nil .nil .nil 0 Try.call28 Try.func28 (ac28_ok (some (0,0))) (by rw [Try.ntmps28]; exact Nat.le_refl _) rfl ⟨_,rfl⟩ ?_
 intro cmp ar cv tn ic ai mx an ad ml sb mn ln em gt up ap sc vw cp rp p1 p2 s1 s2 X Y hX hY r0 r1 r2 r3 r4 r5 r6 r7 r8 r9 r10 r11 r12 r13 r14 r15 r16 r17 r18 r19 r20 r21 r22 r23 r24
 cbv
 have hu := hu.h
 have hla : ic (ln tB a) = a.length := by rw [r4,r12]
 have hlb : ic (ln tB b) = a.length := by rw [r4,r12]; show ((b.length : Nat) : Int) = _; omega
 obtain ⟨N,hN⟩ : ∃ N : Int,N = a.length := ⟨_,rfl⟩
 rw [← hN] at hla hlb
 refine LOOP.ind (σ := Int) (fun i => [(0,.tl na tB a),(1,.tl nb tB b),(5,.p (iv i))]) (fun _ => ⟨[],[]⟩) (fun i => (N - i).toNat) (fun i => 0 ≤ i ∧ i ≤ N ∧ lexL (a.drop i.toNat) (b.drop i.toNat)) 0 ⟨by omega,by show (0 : Int) ≤ N; omega,h⟩ (.inl ⟨rfl,rfl⟩) ?_
 intro i hI X' hX
 obtain ⟨hI1,hI2,hI3⟩ := hI
 obtain ⟨y,hy⟩ : ∃ y : Int,y = gt tB a i := ⟨_,rfl⟩
 obtain ⟨z,hz⟩ : ∃ z : Int,z = gt tB b i := ⟨_,rfl⟩
 have hst : i < N → y < z ∨ (y = z ∧ lexL (a.drop (i + 1).toNat) (b.drop (i + 1).toNat)) := fun hc => by
   rw [gtR_drop (t := tB) hI1 (by omega),gtR_drop (t := tB) hI1 (by omega)] at hI3
   rw [hy,hz,r14]; exact hI3
 have hend : ¬ i < N → False := fun hc => by
   rw [gtR_end (l := a) (by omega),gtR_end (l := b) (by omega)] at hI3; exact hI3
 have hadd : i < N → ar .add .i64 i 1 = i + 1 := fun h => by rw [r1]; exact wrap64 (n := i + 1) (by omega) (by omega)
 cbv
 try simp only [nc_eq] at *
 rw [hla,hlb,← hy,← hz]
 refine BR.lss r0 (fun hc => BR.lss r0 (fun _ => ?_) fun h => absurd hc h) (fun hc => (hend hc).elim)
 have hi : INB i N := ⟨hI1,hc⟩
 have hs := hst hc
 rw [hadd hc]
 refine ⟨hi,hi,hi,hi,BR.neq r0 (fun hne => ?_) fun he => ?_⟩
 · have hlt : y < z := by rcases hs with h | h; exact h; exact absurd h.1 hne
   exact ⟨hi,hi,hi,hi,BR.lss r0 (fun _ => trivial) fun h => absurd hlt h⟩
 · have he := Classical.not_not.1 he
   refine NEXT.mk (hX (i + 1) _ _ ⟨by omega,by omega,?_⟩ (by show (N - (i + 1)).toNat < (N - i).toNat; omega) (.inl ⟨rfl,rfl⟩))
   rcases hs with h | h
   · omega
   · exact h.2
structure SML (a b : List Int) : Prop where
 x : lexL a b
 l : a.length = b.length
 u : Short 2000 a
theorem cSmlP (na : Option Bool) (a : List Int) (nb : Option Bool) (b : List Int) (h : SML a b) : PurS Try.prog 28 [injT (.sl tB) (na,a),injT (.sl tB) (nb,b)] (.sb true) := cSml na a nb b h.x h.l h.u
end Go.Ab
