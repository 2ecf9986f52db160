/- The reference's Plan. -/
import Derived.Test.YtgcfdghbnpjpbaaLB
set_option linter.unusedSimpArgs false
set_option linter.unusedVariables false
set_option maxRecDepth 20000
set_option maxHeartbeats 8000000
namespace Go.Ab
open Go.Proofs Go.RowKit
theorem badD_ge {l : List DUE} (h : ∀ x ∈ l,¬ badD x) {x : DUE} (hx : x ∈ l) : 0 ≤ x.2.1 ∧ 0 ≤ x.2.2 := by
 have := h x hx
 unfold badD at this
 omega
def rpS (c N : Nat) (R : List ROW) (F : List Bool) : StS := ⟨[{ cells := [.arr c tRow R],e := 41,fz := false,ap := true },{ cells := [.arr N .bool F],e := 4,fz := false,ap := true }],[]⟩
theorem cRPlan (nl : Option Bool) (l : List DUE) (cy per : Int) (h : Short 2000 l) : PurS Try.prog 12 [injT (.sl tDue) (nl,l),injT tI cy,injT tI per] (.tup [.tl none tRow (planQ l cy per),.p (iv (wrnM l cy per))]) := by
 refine PurS.of (S := [(33,_),(34,_),(35,_)]) (T := []) (U := []) (tbl := []) (n := 69) hm15 cfg (.cons (spT3.ok (a := (.sl (.pair (.int .i64) (.pair (.int .i64) (.int .i64))))) (b := (.int .i64)) (c := (.int .i64)) fun x0 x1 x2 h => cRWrong x0.1 x0.2 x1 x2 h) (.cons (spT2.ok (a := (.sl (.pair (.int .i64) (.pair (.int .i64) (.int .i64))))) (b := (.sl .bool)) fun x0 x1 h => cNext x0.1 x0.2 x1.1 x1.2 h) (.cons (spT2.ok (a := (.sl (.int .i64))) (b := (.int .i64)) fun x0 x1 h => cIns x0.1 x0.2 x1 h) .nil))) .nil .nil .nil 0 Try.call12 Try.func12 (ac12_ok (some (0,0))) (by rw [Try.ntmps12]; exact Nat.le_refl _) rfl ⟨_,rfl⟩ ?_
 intro cmp ar cv tn ic ai mx an ad ml sb mn ln em gt up ap sc vw cp rp p1 p2 s1 s2 X Y hX hY r0 r1 r2 r3 r4 r5 r6 r7 r8 r9 r10 r11 r12 r13 r14 r15 r16 r17 r18 r19 r20 r21 r22 r23 r24
 generalize hg0 : wrnM = g0
 generalize hg1 : planQ = g1
 generalize hg2 : nxtL = g2
 generalize hg3 : insI = g3
 cbv
 have h' := h.h
 have hla : ic (ln tDue l) = l.length := by rw [r4,r12]
 obtain ⟨e,he⟩ : ∃ e,e = g0 l cy per := ⟨_,rfl⟩
 have hQ1 : e ≠ 0 → g1 l cy per = [] := fun h => by rw [← hg1]; exact if_pos (by rw [hg0,← he]; exact h)
 show Short 2000 l ∧ BR (cmp .neq (g0 l cy per) 0) ((nlLe (some true) none ∧ g1 l cy per = []) ∧ g0 l cy per = g0 l cy per ∧ True) _
 rw [← he]
 have hn2 : nlLe (some true) none := nlLe_none.2 trivial
 refine ⟨h,BR.neq r0 (fun h0 => ⟨⟨hn2,hQ1 h0⟩,rfl,trivial⟩) fun h0 => ?_⟩
 have he0 : e = 0 := Classical.not_not.1 h0
 have hw : wrnM l cy per = 0 := by rw [hg0,← he]; exact he0
 obtain ⟨hck,hcy,hper⟩ : chkD l = 0 ∧ (0 ≤ cy ∧ cy ≤ 64) ∧ 0 ≤ per ∧ per ≤ 64 := by
   unfold wrnM at hw
   split at hw
   · rename_i h'; exact absurd hw h'
   · rename_i h'
     split at hw
     · cases hw
     · exact ⟨Classical.not_not.1 h',by omega,by omega⟩
 have hD := chkD_ok hck
 have hu := hD.u
 have hbad := hD.b
 have hn64 := hD.n
 have hQ2 : g1 l cy per = rowsQ (planC l cy per) := by rw [← hg1]; exact if_neg (fun h => h hw)
 clear hQ1 hD hck
 obtain ⟨N,hN⟩ : ∃ N : Nat,N = l.length := ⟨_,rfl⟩
 obtain ⟨c,hc⟩ : ∃ c : Nat,c = cy.toNat := ⟨_,rfl⟩
 have htn : tn (ic (ln tDue l)) = N := by rw [r3,r4,r12,hN]; exact Int.toNat_natCast _
 have htc : tn cy = c := by rw [r3,hc]
 have hrpF : rp .bool N false = List.replicate N false := by rw [r20]
 have hrpR : rp tRow c (some true,[]) = rowsQ (List.replicate c []) := by
   rw [r20]; simp [rowsQ]
 have hvF : ∀ F : List Bool,F.length = N → vw .bool N F 0 N = F := fun F h => by rw [r18]; exact vw_all h
 have hvR : ∀ R : List ROW,R.length = c → vw tRow c R 0 c = R := fun R h => by rw [r18]; exact vw_all h
 have had : ∀ n : Nat,LEN (ad 0 n) n := fun n => ⟨by rw [r8]; exact Nat.le_of_eq (Nat.zero_add _)⟩
 rw [htn,htc,hrpF,hrpR,hvF _ (by simp)]
 obtain ⟨F0,hF0⟩ : ∃ F0,F0 = List.replicate N false := ⟨_,rfl⟩
 obtain ⟨ls0,hls0⟩ : ∃ ls0 : List (List Int),ls0 = List.replicate c [] := ⟨_,rfl⟩
 obtain ⟨R0,hR0⟩ : ∃ R0,R0 = rowsQ ls0 := ⟨_,rfl⟩
 rw [← hF0,← hls0,← hR0]
 refine ⟨MK_iff.2 (by omega),MK_iff.2 (by rw [hla]; omega),⟨had N,trivial⟩,⟨h,by rw [hF0,hN]; simp⟩,?_⟩
 have hREM0 : REM F0 l (isoD l) := by rw [hF0,hN]; exact REM.start hu
 have hfold0 : (isoD l).foldl (placeI per cy) ls0 = planC l cy per := by rw [hls0,hc]; exact planC_fold l cy per
 have hlen0 : ls0.length = c := by rw [hls0]; simp
 obtain ⟨i0,hi0⟩ : ∃ i0,i0 = g2 l l F0 0 (-1) := ⟨_,rfl⟩
 show LOOP _ _ _ _ [(0,.tl nl tDue l),(1,.p (iv cy)),(2,.p (iv per)),(9,.ms 0 0 1 none c),(10,.ms 1 0 1 none N),(11,.p (iv (g2 l l F0 0 (-1))))] (rpS c N R0 F0)
 rw [← hi0]
 obtain ⟨q0,hq0⟩ : ∃ q0,q0 = isoD l := ⟨_,rfl⟩
 obtain ⟨pl,hpl⟩ : ∃ pl,pl = planC l cy per := ⟨_,rfl⟩
 rw [← hq0,← hpl] at hfold0
 rw [← hq0] at hREM0
 rw [← hpl] at hQ2
 clear hq0 hpl hF0 hls0
 refine LOOP.ind (σ := Int × List ROW × List Bool × List (List Int) × List DUE) (fun (i,R,F,ls,rem) => [(0,.tl nl tDue l),(1,.p (iv cy)),(2,.p (iv per)),(9,.ms 0 0 1 none c),(10,.ms 1 0 1 none N),(11,.p (iv i))]) (fun (i,R,F,ls,rem) => rpS c N R F) (fun (i,R,F,ls,rem) => rem.length)
   (fun (i,R,F,ls,rem) => R = rowsQ ls ∧ ls.length = c ∧ REM F l rem ∧ i = nxtL l l F 0 (-1) ∧ rem.foldl (placeI per cy) ls = pl) (i0,R0,F0,ls0,q0) ⟨hR0,hlen0,hREM0,by rw [hi0,← hg2],hfold0⟩ (.inl ⟨rfl,rfl⟩) ?_
 clear hR0 hlen0 hREM0 hi0 hfold0
 intro ⟨i,R,F,ls,rem⟩ hI X' hX
 dsimp only at hI
 obtain ⟨hRl,hlen,hREM,hi,hfold⟩ := hI
 obtain ⟨sp0,sp1⟩ := nxt_spec hu hREM
 have hlenR : R.length = c := by rw [hRl,← hlen]; simp [rowsQ]
 have hfin : ¬ i ≥ 0 → vw tRow c R 0 c = g1 l cy per := fun h => by
   rw [hvR R hlenR,hQ2,hRl,← hfold]
   cases rem with
   | nil => rfl
   | cons x r => obtain ⟨k,hk,e1,_⟩ := sp1 x r rfl; omega
 have hbo : i ≥ 0 → ∃ (k : Nat) (x : DUE) (r : List DUE),i = k ∧ k < l.length ∧ gtR tDue l i = x ∧ REM (F.set k true) l r ∧ r.foldl (placeI per cy) (placeI per cy ls x) = pl ∧ r.length < rem.length := fun h => by
   cases rem with
   | nil => have := sp0 rfl; omega
   | cons x r =>
     obtain ⟨k,hk,e1,e2⟩ := sp1 x r rfl
     rw [← hi] at e1
     exact ⟨k,x,r,e1,hk,by rw [e1,gtR_nat l hk,e2],hREM.next hu hk e2,hfold,by simp⟩
 have hFn : F.length = N := by rw [hREM.n,hN]
 clear hfold sp0 sp1 hi hREM
 have hcN : ic N = (N : Int) := by rw [r4]
 have hcc : ic c = (c : Int) := by rw [r4]
 have hsub : ar .sub .i64 cy 1 = cy - 1 := by rw [r1]; exact wrap64 (n := cy - 1) (by omega) (by omega)
 cbv
 try simp only [nc_eq] at *
 rw [hla,hcN]
 refine BR.geq r0 (fun hi0 => ?_) fun hi0 => ⟨⟨had c,trivial⟩,⟨nlLe_none.2 trivial,hfin hi0⟩,he0.symm,trivial⟩
 obtain ⟨k,⟨a,la,w⟩,r,hk,hkl,hgx,hREM',hfold',hrl⟩ := hbo hi0
 have hgt : gt tDue l i = (a,la,w) := by rw [r14]; exact hgx
 have q1 : p1 tI (.pair tI tI) (a,la,w) = a := by rw [r21]
 have q2 : p1 tI tI (p2 tI (.pair tI tI) (a,la,w)) = la := by rw [r21,r22]
 have hmx : mx false la (cy - 1) = capI la cy := by rw [r6]; rfl
 have hup : up .bool N F i true = F.set k true := by
   rw [r15]; unfold upR; rw [Ty.norm_eq .bool hFn,hk,Int.toNat_natCast]
 obtain ⟨F',hF'⟩ : ∃ F',F' = F.set k true := ⟨_,rfl⟩
 rw [← hF'] at hup hREM'
 have hFn' : F'.length = N := by rw [hREM'.n,hN]
 obtain ⟨ca,hca⟩ : ∃ ca,ca = capI la cy := ⟨_,rfl⟩
 have hla0 : 0 ≤ la := (badD_ge hbad (gtR_mem' (t := tDue) (by omega) (by omega) hgx)).1
 have hcab : -1 ≤ ca ∧ ca < cy := by rw [hca]; unfold capI; split <;> omega
 rw [← hca] at hmx
 obtain ⟨sl,hsl⟩ : ∃ sl,sl = freeN ls per (ca + 1).toNat := ⟨_,rfl⟩
 have hpl1 : ∀ j : Nat,sl = j → placeI per cy ls (a,la,w) = ls.set j (insI a (ls.getD j [])) := fun j h => by
   have h2 : slotM per cy ls (a,la,w) = j := by unfold slotM; rw [← h,hsl,hca]
   unfold placeI
   rw [h2,if_pos (by omega),Int.toNat_natCast]
 have hpl2 : sl = -1 → placeI per cy ls (a,la,w) = ls := fun h => by
   have h2 : slotM per cy ls (a,la,w) = -1 := by unfold slotM; rw [← h,hsl,hca]
   unfold placeI
   rw [h2,if_neg (by omega)]
 have hgo : ∀ (ls' : List (List Int)) (R' : List ROW),ls' = placeI per cy ls (a,la,w) → R' = rowsQ ls' → ls'.length = c → NEXT X' [(0,.tl nl tDue l),(1,.p (iv cy)),(2,.p (iv per)),(9,.ms 0 0 1 none c),(10,.ms 1 0 1 none N),(11,.p (iv (g2 l l F' 0 (-1))))] (rpS c N R' F') := fun ls' R' h1 h2 h3 =>
   NEXT.mk (hX (g2 l l F' 0 (-1),R',F',ls',r) _ _ ⟨h2,h3,hREM',by rw [← hg2],by rw [h1]; exact hfold'⟩ hrl (.inl ⟨rfl,rfl⟩))
 rw [hgt,q2,hsub,hmx,hup]
 have hiN : INB i (N : Int) := ⟨hi0,by omega⟩
 refine ⟨hiN,hiN,⟨hi0,by omega⟩,⟨hi0,by omega⟩,?_⟩
 show LOOP _ _ _ _ [(0,.tl nl tDue l),(1,.p (iv cy)),(2,.p (iv per)),(9,.ms 0 0 1 none c),(10,.ms 1 0 1 none N),(11,.p (iv i)),(12,.p (iv ca))] (rpS c N R F')
 clear hX hbo hfin hfold' hREM' hrl hup hF' hFn
 refine LOOP.ind (σ := Int) (fun j => [(0,.tl nl tDue l),(1,.p (iv cy)),(2,.p (iv per)),(9,.ms 0 0 1 none c),(10,.ms 1 0 1 none N),(11,.p (iv i)),(12,.p (iv j))]) (fun _ => rpS c N R F') (fun j => (j + 1).toNat)
   (fun j => (-1 ≤ j ∧ j < cy) ∧ freeN ls per (j + 1).toNat = sl) ca ⟨hcab,hsl.symm⟩ (.inl ⟨rfl,rfl⟩) ?_
 intro j hJ X2 hX2
 obtain ⟨⟨hj1,hj2⟩,hJ⟩ := hJ
 obtain ⟨⟨nx,row⟩,hx⟩ : ∃ x : ROW,x = gt tRow R j := ⟨_,rfl⟩
 have hgr : gtR tRow R j = (nx,row) := by rw [hx,r14]
 have hs2 : s2 tI (nx,row) = row := by rw [r24]
 obtain ⟨u,hu2⟩ : ∃ u : Int,u = row.length := ⟨_,rfl⟩
 have hlr : ic (ln tI row) = u := by rw [r4,r12,hu2]
 have hrow : j ≥ 0 → ls.getD j.toNat [] = row := fun h => by
   have h2 : gtR tRow R j = (gtR tRow R j) := rfl
   have h3 : j.toNat < ls.length := by omega
   rw [hRl] at hgr
   simp only [gtR,rowsQ,List.getD,List.getElem?_map,List.getElem?_eq_getElem h3,Option.map_some,Option.getD_some,Prod.mk.injEq] at hgr ⊢
   exact hgr.2
 have hroom : j ≥ 0 → u < per → sl = (j.toNat : Int) := fun h h2 => by
   rw [← hJ,show (j + 1).toNat = j.toNat + 1 by omega,freeN,hrow h,if_pos ⟨by omega,by omega⟩]
 have hnorm : j ≥ 0 → ¬ u < per → freeN ls per (j - 1 + 1).toNat = sl := fun h h2 => by
   rw [← hJ,show (j + 1).toNat = j.toNat + 1 by omega,freeN,hrow h,if_neg (by omega),show (j - 1 + 1).toNat = j.toNat by omega]
 have hnone : ¬ j ≥ 0 → sl = -1 := fun h => by
   rw [← hJ,show (j + 1).toNat = 0 by omega]; rfl
 have hsu : j ≥ 0 → ar .sub .i64 j 1 = j - 1 := fun h => by rw [r1]; exact wrap64 (n := j - 1) (by omega) (by omega)
 have hput : j ≥ 0 → up tRow c R j (none,g3 a row) = rowsQ (ls.set j.toNat (insI a row)) := fun h => by
   have hne : insI a row ≠ [] := fun h0 => by have := (insI_perm a row).length_eq; rw [h0] at this; simp at this
   rw [r15,← hg3]; unfold upR
   rw [Ty.norm_eq tRow hlenR,hRl]
   unfold rowsQ
   rw [List.map_set,if_neg hne]
 have hA : j ≥ 0 → u < per → NEXT X' [(0,.tl nl tDue l),(1,.p (iv cy)),(2,.p (iv per)),(9,.ms 0 0 1 none c),(10,.ms 1 0 1 none N),(11,.p (iv (g2 l l F' 0 (-1))))] (rpS c N (up tRow c R j (none,g3 a row)) F') := fun h h2 =>
   hgo (ls.set j.toNat (insI a row)) _ (by rw [hpl1 j.toNat (hroom h h2),hrow h]) (hput h) (by rw [List.length_set]; exact hlen)
 have hB : ¬ j ≥ 0 → NEXT X' [(0,.tl nl tDue l),(1,.p (iv cy)),(2,.p (iv per)),(9,.ms 0 0 1 none c),(10,.ms 1 0 1 none N),(11,.p (iv (g2 l l F' 0 (-1))))] (rpS c N R F') := fun h =>
   hgo ls R (hpl2 (hnone h)).symm hRl hlen
 have hC : j ≥ 0 → ¬ u < per → NEXT X2 [(0,.tl nl tDue l),(1,.p (iv cy)),(2,.p (iv per)),(9,.ms 0 0 1 none c),(10,.ms 1 0 1 none N),(11,.p (iv i)),(12,.p (iv (j - 1)))] (rpS c N R F') := fun h h2 =>
   NEXT.mk (hX2 (j - 1) _ _ ⟨⟨by omega,by omega⟩,hnorm h h2⟩ (by omega) (.inl ⟨rfl,rfl⟩))
 have hNX : NXP l F' := ⟨h,by rw [hFn',hN]⟩
 have hvF' := hvF F' hFn'
 have hil : INB i (l.length : Int) := ⟨hi0,by omega⟩
 clear hX2 hgo hJ hroom hnorm hnone hput hpl1 hpl2
 cbv
 try simp only [nc_eq] at *
 rw [hcc,← hx,hs2,hlr,hla,hgt,q1,hvF']
 refine BR.geq r0 (fun hj0 => ?_) fun hj0 => ⟨⟨had N,trivial⟩,hNX,hB hj0⟩
 have hjc : INB j (c : Int) := ⟨hj0,by omega⟩
 refine ⟨hjc,hjc,BR.lss r0 (fun h2 => ⟨hjc,hjc,hil,hil,⟨by omega⟩,hjc,hjc,⟨had N,trivial⟩,hNX,hA hj0 h2⟩) fun h2 => ?_⟩
 rw [hsu hj0]
 exact hC hj0 h2
end Go.Ab
