/- GarbleCertain. -/
import Derived.Test.YtjepihoacohboaaLj
set_option linter.unusedSimpArgs false
set_option linter.unusedVariables false
set_option maxRecDepth 20000
set_option maxHeartbeats 8000000
namespace Go.Ab
open Go.Proofs
section
variable {b : List Int} {over : Nat}
theorem places_of {i : Nat} (hi : i < b.length) (h2 : b.getD i 0 = 2) : ∃ k,k < (gplaces b 0).length ∧ (gplaces b 0).getD k 0 = i := by
 obtain ⟨k,hk,he⟩ := List.getElem_of_mem (gmem.2 ⟨hi,h2⟩)
 exact ⟨k,hk,by rw [List.getD_eq_getElem?_getD,List.getElem?_eq_getElem hk]; exact he⟩
theorem cerL_len (b : List Int) (over : Int) : (cerL b over).length = b.length := by
 unfold cerL; split
 · exact cerA_len _ _ _ _
 · rfl
theorem cerL_ne {o : Int} {i : Nat} (h : b.getD i 0 ≠ 2) : (cerL b o).getD i 0 = b.getD i 0 := by
 unfold cerL; split
 · refine cerA_later (Nat.le_refl _) fun j hj e => ?_
   have := (places_lt hj).2
   rw [e] at this; exact h this
 · rfl
theorem cerL_2 (h : GOOD b over) (hi : isG b over = true) {i : Nat} (hl : i < b.length) (h2 : b.getD i 0 = 2) :
   ((cerL b over).getD i 0 = 2 → ∀ y,y = 0 ∨ y = 1 → ∃ c ∈ solG b over,c.getD i 0 = y) ∧ ((cerL b over).getD i 0 ≠ 2 → ∀ c ∈ solG b over,c.getD i 0 = (cerL b over).getD i 0) := by
 obtain ⟨k,hk,rfl⟩ := places_of hl h2
 have e : (cerL b over).getD ((gplaces b 0).getD k 0) 0 = certV (elimG b) (slv (elimG b) (tgt b over)).2 k := by
   unfold cerL
   rw [Int.toNat_natCast,if_pos hi]
   exact cerA_at (Nat.le_refl _) hk
 rw [e]
 exact ⟨fun hc => h.cert2 hi hk hc,fun hc => h.cert1 hi hk hc⟩
theorem certV_3 (st : ROWS2 × List Nat) (f k : Nat) : certV st f k = 0 ∨ certV st f k = 1 ∨ certV st f k = 2 := by
 unfold certV
 split
 · exact .inr (.inr rfl)
 · split
   · exact .inr (.inl rfl)
   · exact .inl rfl
theorem cerA_gv (hg : GV b) (st : ROWS2 × List Nat) (f : Nat) : ∀ k,GV (cerA b st f k)
 | 0 => hg
 | k + 1 => fun x hx => by
   rcases List.mem_or_eq_of_mem_set hx with hx | rfl
   · exact cerA_gv hg st f k x hx
   · exact certV_3 _ _ _
theorem cerL_good (h : GOOD b over) : GOOD (cerL b over) over := ⟨by
   unfold cerL; split
   · exact cerA_gv h.gv _ _ _
   · exact h.gv,by rw [cerL_len]; exact h.l,h.o⟩
theorem cerL_none (hi : ¬ isG b over = true) : cerL b over = b := by
 unfold cerL; rw [Int.toNat_natCast,if_neg hi]
theorem perm_len {α : Type} [BEq α] [LawfulBEq α] {l1 l2 : List α} (h1 : l1.Nodup) (h2 : l2.Nodup) (h : ∀ s,s ∈ l1 ↔ s ∈ l2) : l1.length = l2.length := by
 have key : ∀ {l1 l2 : List α},l1.Nodup → (∀ s,s ∈ l1 → s ∈ l2) → l1.length ≤ l2.length := fun {l1} => by
   induction l1 with
   | nil => intro l2 _ _; exact Nat.zero_le _
   | cons a l1 ih =>
     intro l2 hn hs
     have ha := hs a (by simp)
     have hp := (List.perm_cons_erase ha).length_eq
     have := ih (l2 := l2.erase a) (List.nodup_cons.1 hn).2 fun s hs' => by
       have hne : s ≠ a := fun e => by subst e; exact (List.nodup_cons.1 hn).1 hs'
       exact (List.mem_erase_of_ne hne).2 (hs s (by simp [hs']))
     simp only [List.length_cons] at hp ⊢
     omega
 exact Nat.le_antisymm (key h1 fun s hs => (h s).1 hs) (key h2 fun s hs => (h s).2 hs)
theorem cerL_sol (h : GOOD b over) (hi : isG b over = true) : solG (cerL b over) over = solG b over := by
 have hg := cerL_good h
 have hm : ∀ s,s ∈ solG (cerL b over) over ↔ s ∈ solG b over := fun s => by
   constructor
   · intro hs
     rw [hg.mem,cerL_len] at hs
     rw [h.mem]
     exact ⟨hs.1,hs.2.1,fun i hne => by rw [hs.2.2.1 i (by rw [cerL_ne hne]; exact hne),cerL_ne hne],hs.2.2.2⟩
   · intro hs
     have hs' := h.mem.1 hs
     rw [hg.mem,cerL_len]
     refine ⟨hs'.1,hs'.2.1,fun i hne => ?_,hs'.2.2.2⟩
     by_cases h2 : b.getD i 0 = 2
     · by_cases hl : i < b.length
       · exact (cerL_2 h hi hl h2).2 hne s hs
       · rw [List.getD_eq_getElem?_getD,List.getElem?_eq_none (by omega)] at h2; cases h2
     · rw [cerL_ne h2]; exact hs'.2.2.1 i h2
 refine sorted_uniq ?_ (solB_lex (gopn h.gv)) ((solB_lex (gopn hg.gv)).imp fun hlt h2 => lex_irrefl _ (lex_trans hlt h2))
 exact perm_of_sub (solB_nodup (gopn hg.gv)) (by
   have p1 := perm_len (solB_nodup (gopn hg.gv)) (solB_nodup (gopn h.gv)) hm
   exact p1) fun s hs => (hm s).1 hs
theorem cerL_idem (h : GOOD b over) : cerL (cerL b over) over = cerL b over := by
 by_cases hi : isG b over = true
 · have hg := cerL_good h
   have hs := cerL_sol h hi
   have hi2 : isG (cerL b over) over = true := by rw [hg.nonempty,hs,← h.nonempty]; exact hi
   apply ext_getD (cerL_len _ _)
   intro i
   by_cases h2 : (cerL b over).getD i 0 = 2
   · by_cases hl : i < b.length
     · refine Decidable.byContradiction fun hne => ?_
       have h3 := (cerL_2 hg hi2 (by rw [cerL_len]; exact hl) h2).2 (fun e => hne (by rw [e,h2]))
       have hb2 : b.getD i 0 = 2 := Decidable.byContradiction fun hb => hb (by rw [← cerL_ne hb]; exact h2)
       obtain ⟨c,hc,e0⟩ := (cerL_2 h hi hl hb2).1 h2 0 (.inl rfl)
       obtain ⟨d,hd,e1⟩ := (cerL_2 h hi hl hb2).1 h2 1 (.inr rfl)
       rw [← hs] at hc hd
       have k0 := h3 c hc; have k1 := h3 d hd
       omega
     · rw [List.getD_eq_getElem?_getD,List.getElem?_eq_none (by rw [cerL_len,cerL_len]; omega),List.getD_eq_getElem?_getD,List.getElem?_eq_none (by rw [cerL_len]; omega)]
   · exact cerL_ne h2
 · rw [cerL_none hi,cerL_none hi]
theorem cerL_cnt (h : GOOD b over) : isG (cerL b over) over = isG b over ∧ (isG b over = true → (elimG (cerL b over)).2.length = (elimG b).2.length) := by
 by_cases hi : isG b over = true
 · have hg := cerL_good h
   have hs := cerL_sol h hi
   have hi2 : isG (cerL b over) over = true := by rw [hg.nonempty,hs,← h.nonempty]; exact hi
   refine ⟨by rw [hi,hi2],fun _ => ?_⟩
   have l1 := hg.len
   have l2 := h.len
   rw [if_pos hi2,hs] at l1
   rw [if_pos hi,l1] at l2
   exact (Nat.pow_right_inj (by decide : 1 < 2)).1 l2
 · rw [cerL_none hi]; exact ⟨rfl,fun h => absurd h hi⟩
end
theorem OFP.good {b : List Int} (h : OFP b) {over : Int} (h0 : 0 ≤ over) (h1 : over ≤ 16777215) : GOOD b over.toNat := ⟨h.gv,h.l0,by omega⟩
theorem wrnG_of {b : List Int} {over : Int} (h : gchk b = 0) (h0 : 0 ≤ over) (h1 : over ≤ 16777215) : wrnG b over = 0 := by
 unfold wrnG; rw [if_neg (fun h' => h' h),if_neg (by omega)]
theorem gchk_of {b : List Int} (hg : GV b) (hl : b.length = 56 ∨ b.length = 112) : gchk b = 0 := by
 have key : ∀ {l : List Int},GV l → big2 l = false := fun {l} => by
   induction l with
   | nil => intro _; rfl
   | cons y l ih =>
     intro h
     have := h y (by simp)
     simp only [big2,ih fun z hz => h z (by simp [hz]),Bool.or_false,decide_eq_false_iff_not]; omega
 unfold gchk; rw [if_neg (by omega),key hg]; rfl
theorem gchk_len {b : List Int} (h : gchk b = 0) : b.length = 56 ∨ b.length = 112 := by
 unfold gchk at h
 split at h
 · cases h
 · omega
theorem cert_law {b : List Int} {over : Int} (h0 : ∀ y ∈ b,0 ≤ y) (he : wrnG b over = 0) : ARG (cerL b over) ∧ wrnG (cerL b over) over = 0 ∧ cerL (cerL b over) over = cerL b over ∧ cntN (cerL b over) over = cntN b over ∧ cntE (cerL b over) over = cntE b over ∧
   (cntE b over = 0 → cntN b over = 0 → cerL b over = b) ∧ (elimG (cerL b over)).2.length ≤ (gplaces (cerL b over) 0).length := by
 obtain ⟨hofp,ho0,ho1,hgc⟩ := wrnG_ok h0 he
 have hg := hofp.good ho0 ho1
 have eo : ((over.toNat : Nat) : Int) = over := by omega
 have hgl := cerL_good hg
 have hid := cerL_idem hg
 have hct := cerL_cnt hg
 rw [eo] at hgl hid hct
 have hw : wrnG (cerL b over) over = 0 := wrnG_of (gchk_of hgl.gv (by rw [cerL_len]; exact gchk_len hgc)) ho0 ho1
 have hN : cntN (cerL b over) over = cntN b over ∧ cntE (cerL b over) over = cntE b over := by
   unfold cntN cntE
   rw [hw,he,hct.1]
   by_cases hi : isG b over.toNat = true
   · rw [hct.2 hi]; exact ⟨rfl,rfl⟩
   · constructor
     · rw [if_neg (fun h => hi h.2.1),if_neg (fun h => hi h.2.1)]
     · rw [if_neg (by decide),if_neg (fun h => hi h.1),if_neg (by decide),if_neg (fun h => hi h.1)]
 refine ⟨⟨by rw [cerL_len]; have := hofp.l1; simp only [maxLen]; omega,fun y hy => by have := hgl.gv y hy; omega⟩,hw,hid,hN.1,hN.2,fun h1 h2 => ?_,?_⟩
 · have hi : ¬ isG b over.toNat = true := fun hi => by
     unfold cntE at h1
     rw [he,if_neg (by decide)] at h1
     unfold cntN at h2
     have hle : (elimG b).2.length ≤ 30 := by
       refine Decidable.byContradiction fun hn => ?_
       rw [if_pos ⟨hi,by omega⟩] at h1; cases h1
     rw [if_pos ⟨he,hi,hle⟩] at h2
     have := Nat.two_pow_pos (elimG b).2.length
     omega
   have := cerL_none (b := b) (over := over.toNat) hi
   rwa [eo] at this
 · have h1 : (elimG (cerL b over)).2.length ≤ (colsG (cerL b over)).length := elim_len _ _
   have h2 : (colsG (cerL b over)).length = (gplaces (cerL b over) 0).length := by unfold colsG; rw [List.length_map]
   rw [h2] at h1
   exact h1
def grbL (b : List Int) : List Int := plD (gplaces b 0)
theorem grbL_len (b : List Int) : (grbL b).length = (gplaces b 0).length := by unfold grbL plD; simp
theorem cGarbled (x : Int) (nb : Option Bool) (b : List Int) (h : Short 2000 b) : PurS Try.prog 30 [injT tG (x,nb,b)] (.tl none tI (grbL b)) := by
 refine PurS.of (S := []) (T := []) (U := []) (tbl := []) (n := 23) hm11 cfg .nil .nil .nil .nil 0 Try.call30 Try.func30 (ac30_ok (some (0,0))) (by rw [Try.ntmps30]; exact Nat.le_refl _) rfl ⟨_,rfl⟩ ?_
 intro cmp ar cv tn ic ai mx an ad ml sb mn ln em gt up ap sc vw cp rp p1 p2 s1 s2 X Y hX hY r0 r1 r2 r3 r4 r5 r6 r7 r8 r9 r10 r11 r12 r13 r14 r15 r16 r17 r18 r19 r20 r21 r22 r23 r24
 generalize hg0 : grbL = g0
 cbv
 have h := h.h
 have hla : ic (ln tB b) = b.length := by rw [r4,r12]
 obtain ⟨N,hN⟩ : ∃ N : Int,N = b.length := ⟨_,rfl⟩
 rw [← hN] at hla
 have hn2 : nlLe nb nb := nlLe_self.2 trivial
 refine LOOP.ind (σ := Int × List Int) (fun (i,O) => [(1,.ptr 0 0),(3,.og 0 tI O),(4,.p (iv i))]) (fun (i,O) => ⟨[{ cells := [.p (iv x),.tl nb tB b],e := 24,fz := false }],[(ml (ln tI O) 1,3)]⟩) (fun (i,_) => (N - i).toNat) (fun (i,O) => 0 ≤ i ∧ i ≤ N ∧ O = stP b i.toNat) (0,[]) ⟨by omega,by show (0 : Int) ≤ N; omega,rfl⟩ (.inr ⟨[some 0],[none],?_⟩) ?_
 · rw [SIM_iff]; cbv; simp [nlLe_self]
 intro ⟨i,O⟩ hI X' hX
 obtain ⟨hI1,hI2,hI3⟩ := hI
 have hPl : O.length ≤ 2000 := by rw [hI3]; have := stP_len b i.toNat; omega
 obtain ⟨y,hy⟩ : ∃ y : Int,y = gt tB b i := ⟨_,rfl⟩
 have hyg : i < N → b.getD i.toNat 0 = y := fun h => by rw [hy,r14]; rfl
 have hadd : i < N → ar .add .i64 i 1 = i + 1 := fun h => by rw [r1]; exact wrap64 (n := i + 1) (by omega) (by omega)
 have hap : ap tI O [i] = O ++ [i] := by rw [r16]
 have hlp : ad (ln tI O) (ln tI [i]) = O.length + 1 := by rw [r8,r12]; rfl
 have hend : ¬ i < N → O = g0 b := fun h => by
   have hi : i.toNat = b.length := by omega
   rw [hI3,hi,← hg0]; unfold stP grbL; rw [List.take_length]
 have hnt : (i + 1).toNat = i.toNat + 1 := by omega
 cbv
 try simp only [nc_eq] at *
 rw [hla,← hy,hap,hlp]
 refine BR.lss r0 (fun hc => ?_) (fun hc => ⟨nlLe_none.2 trivial,hend hc⟩)
 have h1 : INB i N := ⟨hI1,hc⟩
 have hlt : i.toNat < b.length := by omega
 rw [hadd hc]
 refine ⟨h1,h1,BR.eql r0 (fun h => ?_) (fun h => ?_)⟩
 · have e := hyg hc
   rw [h] at e
   refine ⟨⟨rfl⟩,LIM_iff.2 ⟨by omega,by omega⟩,NEXT.mk (hX (i + 1,O ++ [i]) _ _ ⟨by omega,by omega,?_⟩ (by show (N - (i + 1)).toNat < (N - i).toNat; omega) (.inl ⟨rfl,rfl⟩))⟩
   rw [hI3,hnt,stP_two hlt e,show ((i.toNat : Nat) : Int) = i by omega]
 · have e : b.getD i.toNat 0 ≠ 2 := by rw [hyg hc]; exact h
   refine NEXT.mk (hX (i + 1,O) _ _ ⟨by omega,by omega,?_⟩ (by show (N - (i + 1)).toNat < (N - i).toNat; omega) (.inl ⟨rfl,rfl⟩))
   rw [hI3,hnt,stP_not hlt e]
theorem lawCertain (x : Int) (nb : Option Bool) (b : List Int) (over : Int) (h : ARG b) : PurS Try.prog 7 [injT tG (x,nb,b),injT tI over] (.sb true) := by
 refine PurS.of (S := [(10,_),(11,_),(17,_),(13,_),(22,_),(30,_)]) (T := []) (U := []) (tbl := []) (n := 94) hm11 cfg (.cons (spT1.ok (a := (.pair (.int .i64) (.sl (.int .u8)))) (pre := fun _ => True) fun x0 _ => cLong x0.1 x0.2.1 x0.2.2) (.cons (spT0.ok cAwake) (.cons (spT2.ok (a := (.pair (.int .i64) (.sl (.int .u8)))) (b := (.int .i64)) fun x0 x1 h => cCertP x0.1 x0.2.1 x0.2.2 x1 h) (.cons (spT2.ok (a := (.pair (.int .i64) (.sl (.int .u8)))) (b := (.int .i64)) fun x0 x1 h => cCountP x0.1 x0.2.1 x0.2.2 x1 h) (.cons (spT2.ok (a := (.pair (.int .i64) (.sl (.int .u8)))) (b := (.pair (.int .i64) (.sl (.int .u8)))) fun x0 x1 h => cEqG x0.1 x0.2.1 x0.2.2 x1.1 x1.2.1 x1.2.2 h) (.cons (spT1.ok (a := (.pair (.int .i64) (.sl (.int .u8)))) fun x0 h => cGarbled x0.1 x0.2.1 x0.2.2 h) .nil)))))) .nil .nil .nil 0 Try.call7 Try.func7 (ac7_ok (some (0,0))) (by rw [Try.ntmps7]; exact Nat.le_refl _) rfl ⟨_,rfl⟩ ?_
 intro cmp ar cv tn ic ai mx an ad ml sb mn ln em gt up ap sc vw cp rp p1 p2 s1 s2 X Y hX hY r0 r1 r2 r3 r4 r5 r6 r7 r8 r9 r10 r11 r12 r13 r14 r15 r16 r17 r18 r19 r20 r21 r22 r23 r24
 generalize hg0 : lngB = g0
 generalize hg1 : cerX = g1
 generalize hg2 : cerR = g2
 generalize hg3 : wrnG = g3
 generalize hg4 : cntN = g4
 generalize hg5 : cntE = g5
 generalize hg6 : eqG = g6
 generalize hg7 : grbL = g7
 cbv
 dsimp only
 refine BR.mk (fun _ => BR.tt rfl trivial) fun hlg => BR.tt rfl ?_
 have hlen : b.length ≤ 130 := by
   have e : lngB b = false := by rw [hg0]; exact hlg
   have := of_decide_eq_false e
   omega
 refine ⟨h,BR.neq r0 (fun he => ?_) fun he => ?_⟩
 · have hR : g2 b over = [] := by
     rw [← hg2]; unfold cerR; rw [hg3,if_neg he]
   rw [hR]
   exact BR.eqlT r0 (by rw [r4,r12]; rfl) trivial
 have he := Classical.not_not.1 he
 have hw : wrnG b over = 0 := by rw [hg3]; exact he
 have key := cert_law h.h0 hw
 obtain ⟨C,hC⟩ : ∃ C,C = cerL b over := ⟨_,rfl⟩
 rw [← hC] at key
 obtain ⟨q1,q2,q3,q4,q5,q6,q7⟩ := key
 have hR : g2 b over = C := by rw [← hg2]; unfold cerR; rw [if_pos hw,hC]
 have hX : g1 x b over = x := by rw [← hg1]; unfold cerX; rw [if_pos hw]
 have hX2 : g1 x C over = x := by rw [← hg1]; unfold cerX; rw [if_pos q2]
 have hR2 : g2 C over = C := by rw [← hg2]; unfold cerR; rw [if_pos q2,q3]
 have hCl : C.length = b.length := by rw [hC,cerL_len]
 have hE : ∀ y a,g6 y a y a = true := fun y a => by
   rw [← hg6]; unfold eqG eqI; rw [decide_eq_true rfl,decide_eq_true rfl]; rfl
 rw [hR,hX,hX2,hR2]
 rw [hg3] at q2
 rw [hg4] at q4 q6
 rw [hg5] at q5 q6
 have hsC : Short 2000 C := ⟨by omega⟩
 rw [q4,q5]
 have hgr : (g7 C).length = (gplaces C 0).length := by rw [← hg7]; exact grbL_len C
 have hgl := gplaces_len C 0
 have hic : ic (ln tI (g7 C)) = ((gplaces C 0).length : Nat) := by rw [r4,r12]; show (((g7 C).length : Nat) : Int) = _; rw [hgr]
 refine ⟨q1,h,q1,BR.neqF r0 q2 ⟨hsC,BR.tt (hE x C) (BR.neqF r0 rfl (BR.neqF r0 rfl ⟨hsC,BR.neq r0 (fun h5 => BR.neq r0 (fun _ => trivial) fun h => absurd h5 h) fun h5 => ?_⟩))⟩⟩
 have h5 := Classical.not_not.1 h5
 refine BR.eql r0 (fun h4 => BR.neqF r0 h5 ⟨hsC,?_⟩) fun h4 => ?_
 · have : C = b := q6 h5 h4
   rw [this]
   exact BR.tt (hE x b) trivial
 rw [hic]
 refine BR.gtr r0 (fun _ => trivial) fun h30 => ?_
 obtain ⟨q,hq⟩ : ∃ q : Nat,q = (gplaces C 0).length := ⟨_,rfl⟩
 rw [← hq] at h30 q7 ⊢
 have hcv : cv .u64 (q : Int) = q := by rw [r2]; exact wrap_u64 (by omega) (by omega)
 rw [hcv]
 have hp : 2 ^ q ≤ 2 ^ 30 := Nat.pow_le_pow_right (by decide) (by omega)
 have hsh : ar .shl .i64 1 (q : Int) = ((2 ^ q : Nat) : Int) := by
   rw [r1,show (1 : Int) = ((1 : Nat) : Int) by rfl,shlI (by omega) (by omega),Nat.one_mul]
 rw [hsh]
 refine ⟨⟨Int.natCast_nonneg _⟩,BR.leq r0 (fun _ => trivial) fun hn => absurd ?_ hn⟩
 rw [← q4,← hg4]
 unfold cntN
 split
 · have : 2 ^ (elimG C).2.length ≤ 2 ^ q := Nat.pow_le_pow_right (by decide) q7
   omega
 · exact Int.natCast_nonneg _
theorem wf_arg {g : tG.den} (h : wfT tG g) : ARG g.2.2 := by
 obtain ⟨_,h1,_,h3⟩ := h
 exact ⟨h1,fun y hy => (wf_u8 (h3 y hy)).1⟩
theorem certain_typed : ∀ xs,TyVs Try.prog [24,3] xs → PurFn Try.prog 7 (xs.map .p) (.v (.bool true)) := law2 (P := Try.prog) (f := 7) (t1 := 24) (t2 := 3) (T1 := tG) (T2 := tI) (by kernel_rfl) fun g o hg ho => lawCertain g.1 g.2.1 g.2.2 o (wf_arg hg)
end Go.Ab
