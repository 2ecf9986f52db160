/- The reference's Whole. -/
import Derived.Test.YtgcfdghbnpjpbaaLC
set_option linter.unusedSimpArgs false
set_option linter.unusedVariables false
set_option maxRecDepth 20000
set_option maxHeartbeats 8000000
namespace Go.Ab
open Go.Proofs Go.RowKit
def cntC (cy c : Int) : List DUE → Int
 | [] => 0
 | x :: l => (if capI x.2.1 cy ≤ c then 1 else 0) + cntC cy c l
theorem cntC_eq {cy c k : Int} (hk : k = c + 1) : ∀ l : List DUE,((l.countP fun x => decide (capX cy x < k) : Nat) : Int) = cntC cy c l
 | [] => rfl
 | x :: l => by
   rw [List.countP_cons,cntC,← cntC_eq hk l]
   have e : decide (capX cy x < k) = decide (capI x.2.1 cy ≤ c) := by
     unfold capX
     rw [decide_eq_decide]; omega
   rw [e]
   push_cast
   by_cases h2 : capI x.2.1 cy ≤ c <;> simp [h2] <;> omega
theorem totR_flat : ∀ ls : List (List Int),totR (rowsP ls) = (ls.flatten.length : Nat)
 | [] => rfl
 | r :: ls => by
   show (r.length : Int) + totR (rowsP ls) = _
   rw [totR_flat ls,List.flatten_cons,List.length_append]
   push_cast; rfl
theorem whoM_iff {l : List DUE} {cy per : Int} (h : wrnM l cy per = 0) : whoM l cy per = true ↔ ∀ k : Nat,(k : Int) ≤ cy → cntC cy ((k : Int) - 1) l ≤ k * per := by
 obtain ⟨_,hD,hcy,hper⟩ := wrnM_ok h
 have hR := finD_run hD hcy.1 hper.1
 have hpl := hR.p.trans (isoD_perm l)
 have htot : totR (planR l cy per) = ((accD l cy per).length : Nat) := by
   rw [planR_ok h,totR_flat,planC_eq,(flat_iso _).length_eq,flat_rowsA,List.length_map]; rfl
 have hlen := hpl.length_eq
 rw [List.length_append] at hlen
 have hacc : (finD l cy per).1.flatten.length = (accD l cy per).length := rfl
 have hw : whoM l cy per = true ↔ (accD l cy per).length = l.length := by
   unfold whoM
   rw [h,htot]
   simp only [decide_true,Bool.true_and,decide_eq_true_eq]
   exact Int.ofNat_inj
 rw [hw]
 constructor
 · intro he k hk
   have hrej : (finD l cy per).2 = [] := List.eq_nil_of_length_eq_zero (by omega)
   rw [hrej,List.append_nil] at hpl
   rw [← cntC_eq (k := (k : Int)) (by omega),← hpl.countP_eq]
   have := cnt_rows hper.1 (capX cy) k (finD l cy per).1 0 (fun r x hx => by have := hR.g.i2 r x hx; omega) hR.g.ub
   rw [Nat.sub_zero] at this
   exact this
 · intro hall
   have := hR.g.most (by omega) (fun y hy => (capX_lt y hcy.1 (hR.c y hy)).2.1) hR.p (fun _ => true) fun k hk => by
     have h2 := hall k (by omega)
     rw [← cntC_eq (k := (k : Int)) (by omega)] at h2
     rw [(isoD_perm l).countP_eq]
     simpa using h2
   rw [List.countP_true,(isoD_perm l).length_eq] at this
   omega
theorem cRWhole (nl : Option Bool) (l : List DUE) (cy per : Int) (h : Short 2000 l) : PurS Try.prog 14 [injT (.sl tDue) (nl,l),injT tI cy,injT tI per] (.tup [.sb (whoM l cy per),.p (iv (wrnM l cy per))]) := by
 refine PurS.of (S := [(33,_)]) (T := []) (U := []) (tbl := []) (n := 48) hm15 cfg (.cons (spT3.ok (a := (.sl (.pair (.int .i64) (.pair (.int .i64) (.int .i64))))) (b := (.int .i64)) (c := (.int .i64)) fun x0 x1 x2 h => cRWrong x0.1 x0.2 x1 x2 h) .nil) .nil .nil .nil 0 Try.call14 Try.func14 (ac14_ok (some (0,0))) (by rw [Try.ntmps14]; exact Nat.le_refl _) rfl ⟨_,rfl⟩ ?_
 intro cmp ar cv tn ic ai mx an ad ml sb mn ln em gt up ap sc vw cp rp p1 p2 s1 s2 X Y hX hY r0 r1 r2 r3 r4 r5 r6 r7 r8 r9 r10 r11 r12 r13 r14 r15 r16 r17 r18 r19 r20 r21 r22 r23 r24
 generalize hg0 : wrnM = g0
 generalize hg1 : whoM = g1
 cbv
 have h' := h.h
 obtain ⟨e,he⟩ : ∃ e,e = g0 l cy per := ⟨_,rfl⟩
 obtain ⟨z,hz⟩ : ∃ z,z = g1 l cy per := ⟨_,rfl⟩
 have hz0 : e ≠ 0 → false = z := fun h => by
   rw [hz,← hg1,eq_comm,Bool.eq_false_iff]
   intro ht
   unfold whoM at ht
   simp only [Bool.and_eq_true,decide_eq_true_eq] at ht
   exact h (by rw [he,← hg0]; exact ht.1)
 show Short 2000 l ∧ BR (cmp .neq (g0 l cy per) 0) (false = g1 l cy per ∧ g0 l cy per = g0 l cy per ∧ True) _
 rw [← he,← hz]
 refine ⟨h,BR.neq r0 (fun h0 => ⟨hz0 h0,rfl,trivial⟩) fun h0 => ?_⟩
 have he0 : e = 0 := Classical.not_not.1 h0
 have hw : wrnM l cy per = 0 := by rw [hg0,← he]; exact he0
 obtain ⟨_,_,hcy,hper⟩ := wrnM_ok hw
 have hiff := whoM_iff hw
 rw [hg1,← hz] at hiff
 have hb : (0 ≤ cy ∧ cy ≤ 64) ∧ 0 ≤ per ∧ per ≤ 64 := ⟨hcy,hper⟩
 obtain ⟨L,hL⟩ : ∃ L : Int,L = l.length := ⟨_,rfl⟩
 have hla : ic (ln tDue l) = L := by rw [r4,r12,hL]
 clear hz0 hcy hper
 refine LOOP.ind (σ := Int) (fun c => [(0,.tl nl tDue l),(1,.p (iv cy)),(2,.p (iv per)),(9,.p (iv c))]) (fun _ => ⟨[],[]⟩) (fun c => (cy - c).toNat)
   (fun c => (-1 ≤ c ∧ c ≤ cy) ∧ ∀ k : Nat,(k : Int) ≤ c → cntC cy ((k : Int) - 1) l ≤ k * per) (-1) ⟨⟨by omega,by omega⟩,fun k hk => by omega⟩ (.inl ⟨rfl,rfl⟩) ?_
 intro c hI X' hX
 obtain ⟨⟨hc1,hc2⟩,hI⟩ := hI
 cbv
 try simp only [nc_eq] at *
 refine BR.lss r0 (fun hc => ?_) fun hc => ⟨(hiff.2 fun k hk => hI k (by omega)).symm,he0.symm,trivial⟩
 obtain ⟨n0,hn0⟩ : ∃ n0,n0 = cntC cy c l := ⟨_,rfl⟩
 have hbad : n0 > (c + 1) * per → false = z := fun hgt => by
   rw [eq_comm,Bool.eq_false_iff]
   intro ht
   have := hiff.1 ht (c + 1).toNat (by omega)
   rw [show (((c + 1).toNat : Nat) : Int) = c + 1 by omega,show c + 1 - 1 = c by omega,← hn0] at this
   omega
 have hadc : ar .add .i64 c 1 = c + 1 := by rw [r1]; exact wrap64 (n := c + 1) (by omega) (by omega)
 have hmul : ar .mul .i64 (c + 1) per = (c + 1) * per := by
   have h1 : 0 ≤ (c + 1) * per := Int.mul_nonneg (by omega) (by omega)
   have h2 : (c + 1) * per ≤ 64 * 64 := Int.mul_le_mul (by omega) (by omega) (by omega) (by omega)
   rw [r1]; exact wrap64 (n := (c + 1) * per) (by omega) (by omega)
 have hsub : ar .sub .i64 cy 1 = cy - 1 := by rw [r1]; exact wrap64 (n := cy - 1) (by omega) (by omega)
 have hgo : ¬ n0 > (c + 1) * per → NEXT X' [(0,.tl nl tDue l),(1,.p (iv cy)),(2,.p (iv per)),(9,.p (iv (c + 1)))] ⟨[],[]⟩ := fun hle => by
   refine NEXT.mk (hX (c + 1) _ _ ⟨⟨by omega,by omega⟩,fun k hk => ?_⟩ (by omega) (.inl ⟨rfl,rfl⟩))
   by_cases hk' : (k : Int) ≤ c
   · exact hI k hk'
   · rw [show (k : Int) = c + 1 by omega,show c + 1 - 1 = c by omega,← hn0]; omega
 clear hI hX
 refine LOOP.ind (σ := Int × Int) (fun (i,d) => [(0,.tl nl tDue l),(1,.p (iv cy)),(2,.p (iv per)),(9,.p (iv c)),(10,.p (iv d)),(11,.p (iv i))]) (fun _ => ⟨[],[]⟩) (fun (i,d) => (L - i).toNat)
   (fun (i,d) => (0 ≤ i ∧ i ≤ L) ∧ (0 ≤ d ∧ d ≤ i) ∧ d + cntC cy c (l.drop i.toNat) = n0) (0,0) ⟨⟨by omega,by omega⟩,⟨by omega,by omega⟩,by rw [hn0]; show 0 + cntC cy c (l.drop (0 : Int).toNat) = _; simp⟩ (.inl ⟨rfl,rfl⟩) ?_
 intro ⟨i,d⟩ hJ X2 hX2
 dsimp only at hJ
 obtain ⟨⟨hi1,hi2⟩,⟨hd1,hd2⟩,hJ⟩ := hJ
 obtain ⟨⟨a,la,w⟩,hx⟩ : ∃ x : DUE,x = gt tDue l i := ⟨_,rfl⟩
 have hst : i < L → l.drop i.toNat = (a,la,w) :: l.drop (i + 1).toNat := fun h => by rw [hx,r14]; exact gtR_drop (t := tDue) hi1 (by omega)
 have hend : ¬ i < L → d = n0 := fun h => by
   rw [← hJ,gtR_end (by omega)]; exact (Int.add_zero d).symm
 have q2 : p1 tI tI (p2 tI (.pair tI tI) (a,la,w)) = la := by rw [r21,r22]
 have hmx : mx false la (cy - 1) = capI la cy := by rw [r6]; rfl
 obtain ⟨ca,hca⟩ : ∃ ca,ca = capI la cy := ⟨_,rfl⟩
 rw [← hca] at hmx
 have hadi : i < L → ar .add .i64 i 1 = i + 1 := fun h => by rw [r1]; exact wrap64 (n := i + 1) (by omega) (by omega)
 have hadd : i < L → ar .add .i64 d 1 = d + 1 := fun h => by rw [r1]; exact wrap64 (n := d + 1) (by omega) (by omega)
 have hnx : ∀ d' : Int,i < L → d' = d + (if ca ≤ c then 1 else 0) → NEXT X2 [(0,.tl nl tDue l),(1,.p (iv cy)),(2,.p (iv per)),(9,.p (iv c)),(10,.p (iv d')),(11,.p (iv (i + 1)))] ⟨[],[]⟩ := fun d' h e => by
   refine NEXT.mk (hX2 (i + 1,d') _ _ ⟨⟨by show 0 ≤ i + 1; omega,by show i + 1 ≤ L; omega⟩,⟨?_,?_⟩,?_⟩ (by show (L - (i + 1)).toNat < (L - i).toNat; omega) (.inl ⟨rfl,rfl⟩))
   · show 0 ≤ d'
     rw [e]; split <;> omega
   · show d' ≤ i + 1
     rw [e]; split <;> omega
   · show d' + cntC cy c (l.drop (i + 1).toNat) = n0
     rw [← hJ,hst h,cntC,← hca,e,Int.add_assoc]
 clear hX2 hJ hst
 cbv
 try simp only [nc_eq] at *
 rw [hla,← hx,q2]
 refine BR.lss r0 (fun hil => ?_) fun hil => ?_
 · have hnx := fun d' => hnx d' hil
   rw [hsub,hmx,hadd hil,hadi hil]
   have hin : INB i L := ⟨hi1,hil⟩
   refine ⟨hin,hin,BR.leq r0 (fun h2 => hnx _ ?_) fun h2 => hnx _ ?_⟩
   · rw [if_pos h2]
   · rw [if_neg h2]; exact (Int.add_zero d).symm
 · rw [hend hil,hadc,hmul]
   exact BR.gtr r0 (fun h => ⟨hbad h,he0.symm,trivial⟩) hgo
end Go.Ab
