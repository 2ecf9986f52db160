/- Whole. -/
import Derived.Test.YtgcfdghbnpjpbaaLr
set_option linter.unusedSimpArgs false
set_option linter.unusedVariables false
set_option maxRecDepth 20000
set_option maxHeartbeats 8000000
namespace Go.Ab
open Go.Proofs
structure PSH (R : List ROW) : Prop where
 a : R.length ≤ 64
 b : ∀ r ∈ R,r.2.length ≤ 64
theorem planR_shape (l : List DUE) (cy per : Int) : PSH (planR l cy per) := by
 unfold planR
 by_cases h : wrnM l cy per = 0
 · rw [if_neg (fun h' => h' h)]
   have hck : chkD l = 0 ∧ 0 ≤ cy ∧ cy ≤ 64 := by
     unfold wrnM at h
     split at h
     · rename_i h'; exact absurd h h'
     · rename_i h'
       split at h
       · cases h
       · exact ⟨Classical.not_not.1 h',by omega,by omega⟩
   have hD := chkD_ok hck.1
   have hs := (sortT_spec l).1
   have hn := hD.n
   refine ⟨by simp only [rowsP,planN,List.length_map,fold_len,List.length_replicate]; omega,fun r hr => ?_⟩
   obtain ⟨x,hx,rfl⟩ := List.mem_map.1 hr
   obtain ⟨y,hy,rfl⟩ := List.mem_map.1 hx
   have := fold_row per cy (sortT l) (List.replicate cy.toNat []) 0 (fun l hl => by rw [List.eq_of_mem_replicate hl]; exact Nat.le_refl _) y hy
   show (srtI y).length ≤ 64
   rw [srtI_len]; omega
 · rw [if_pos h]
   exact ⟨by simp,by simp⟩
def totR : List ROW → Int
 | [] => 0
 | r :: R => (r.2.length : Int) + totR R
noncomputable def whoM (l : List DUE) (cy per : Int) : Bool := decide (wrnM l cy per = 0) && decide (totR (planR l cy per) = l.length)
theorem cWhole (nl : Option Bool) (l : List DUE) (cy per : Int) (h : Short 2000 l) : PurS Try.prog 13 [injT (.sl tDue) (nl,l),injT tI cy,injT tI per] (.tup [.sb (whoM l cy per),.p (iv (wrnM l cy per))]) := by
 refine PurS.of (S := [(11,_)]) (T := []) (U := []) (tbl := []) (n := 40) hm15 cfg (.cons (spT3.ok (a := (.sl (.pair (.int .i64) (.pair (.int .i64) (.int .i64))))) (b := (.int .i64)) (c := (.int .i64)) fun x0 x1 x2 h => cPlan x0.1 x0.2 x1 x2 h) .nil) .nil .nil .nil 0 Try.call13 Try.func13 (ac13_ok (some (0,0))) (by rw [Try.ntmps13]; exact Nat.le_refl _) rfl ⟨_,rfl⟩ ?_
 intro cmp ar cv tn ic ai mx an ad ml sb mn ln em gt up ap sc vw cp rp p1 p2 s1 s2 X Y hX hY r0 r1 r2 r3 r4 r5 r6 r7 r8 r9 r10 r11 r12 r13 r14 r15 r16 r17 r18 r19 r20 r21 r22 r23 r24
 generalize hg0 : planR = g0
 generalize hg1 : wrnM = g1
 generalize hg2 : whoM = g2
 cbv
 have hPS : PSH (g0 l cy per) := by rw [← hg0]; exact planR_shape l cy per
 have hwho : g2 l cy per = (decide (g1 l cy per = 0) && decide (totR (g0 l cy per) = l.length)) := by rw [← hg0,← hg1,← hg2]; rfl
 have h' := h.h
 obtain ⟨R,hR⟩ : ∃ R,R = g0 l cy per := ⟨_,rfl⟩
 obtain ⟨e,he⟩ : ∃ e,e = g1 l cy per := ⟨_,rfl⟩
 obtain ⟨z,hz⟩ : ∃ z,z = g2 l cy per := ⟨_,rfl⟩
 show Short 2000 l ∧ LOOP _ _ _ _ [(0,.tl nl tDue l),(9,.p (iv (g1 l cy per))),(10,.p (iv 0)),(20,.tl none tRow (g0 l cy per)),(21,.p (iv (ic (ln tRow (g0 l cy per))))),(22,.p (iv 0))] ⟨[],[]⟩
 rw [← hR] at hPS hwho ⊢
 rw [← he] at hwho ⊢
 rw [← hz] at hwho
 obtain ⟨N,hN⟩ : ∃ N : Int,N = R.length := ⟨_,rfl⟩
 have hlr : ic (ln tRow R) = N := by rw [r4,r12,hN]
 have hla : ic (ln tDue l) = l.length := by rw [r4,r12]
 have hNb : 0 ≤ N ∧ N ≤ 64 := by have := hPS.a; omega
 obtain ⟨L,hL⟩ : ∃ L : Int,L = l.length := ⟨_,rfl⟩
 rw [← hL] at hla hwho
 rw [hlr]
 refine ⟨h,LOOP.ind (σ := Int × Int) (fun (i,n) => [(0,.tl nl tDue l),(9,.p (iv e)),(10,.p (iv n)),(20,.tl none tRow R),(21,.p (iv N)),(22,.p (iv i))]) (fun _ => ⟨[],[]⟩) (fun (i,n) => (N - i).toNat) (fun (i,n) => (0 ≤ i ∧ i ≤ N) ∧ (0 ≤ n ∧ n ≤ i * 64) ∧ n + totR (R.drop i.toNat) = totR R) (0,0) ⟨⟨by omega,by omega⟩,⟨by omega,by omega⟩,by show 0 + totR (R.drop (0 : Int).toNat) = totR R; simp⟩ (.inl ⟨rfl,rfl⟩) ?_⟩
 intro ⟨i,n⟩ hI X' hX
 dsimp only at hI
 obtain ⟨⟨hI1,hI2⟩,⟨hn1,hn2⟩,hI3⟩ := hI
 obtain ⟨⟨xn,x⟩,hx⟩ : ∃ x : ROW,x = gt tRow R i := ⟨_,rfl⟩
 have hgx : gtR tRow R i = (xn,x) := by rw [hx,r14]
 have hst : i < N → n + (x.length + totR (R.drop (i + 1).toNat)) = totR R ∧ x.length ≤ 64 := fun h => by
   rw [← hI3,gtR_drop (t := tRow) hI1 (by omega),hgx]
   exact ⟨rfl,hPS.b (xn,x) (gtR_mem' (t := tRow) hI1 (by omega) hgx)⟩
 have hend : ¬ i < N → n = totR R := fun h => by
   rw [← hI3,gtR_end (by omega)]; exact (Int.add_zero n).symm
 have e2 : s2 tI (xn,x) = x := by rw [r24]
 obtain ⟨u,hu⟩ : ∃ u : Int,u = x.length := ⟨_,rfl⟩
 have hlx : ic (ln tI x) = u := by rw [r4,r12,hu]
 have hadd : i < N → ar .add .i64 i 1 = i + 1 := fun h => by rw [r1]; exact wrap64 (n := i + 1) (by omega) (by omega)
 have hadd2 : i < N → ar .add .i64 n u = n + u := fun h => by have := hst h; rw [r1]; exact wrap64 (n := n + u) (by omega) (by omega)
 have hX2 : i < N → NEXT X' [(0,.tl nl tDue l),(9,.p (iv e)),(10,.p (iv (n + u))),(20,.tl none tRow R),(21,.p (iv N)),(22,.p (iv (i + 1)))] ⟨[],[]⟩ := fun h => by
   have h2 := hst h
   exact NEXT.mk (hX (i + 1,n + u) _ _ ⟨⟨by show 0 ≤ i + 1; omega,by show i + 1 ≤ N; omega⟩,⟨by show 0 ≤ n + u; omega,by show n + u ≤ (i + 1) * 64; omega⟩,by show (n + u) + totR (R.drop (i + 1).toNat) = totR R; omega⟩ (by show (N - (i + 1)).toNat < (N - i).toNat; omega) (.inl ⟨rfl,rfl⟩))
 have hf : ¬ i < N → ∀ b : Bool,(b = true ↔ (e = 0 ∧ n = L)) → b = z := fun h b hb => by
   have := hend h
   rw [hwho,← this,Bool.eq_iff_iff,hb]
   simp
 clear hI3 hX hst hend
 cbv
 try simp only [nc_eq] at *
 rw [hlr,← hx,e2,hlx,hla,← hz]
 refine BR.lss r0 (fun hc => ?_) (fun hc => ?_)
 · rw [hadd hc,hadd2 hc]
   exact ⟨⟨hI1,hc⟩,⟨hI1,hc⟩,hX2 hc⟩
 · have hf := hf hc
   exact BR.eql r0 (fun h1 => BR.eql r0 (fun h2 => ⟨hf true (by simp [h1,h2]),trivial⟩) fun h2 => ⟨hf false (by simp [h1,h2]),trivial⟩) fun h1 => ⟨hf false (by simp [h1]),trivial⟩
end Go.Ab
