/- GarbleTruth. -/
import Derived.Test.YtjepihoacohboaaLq
import Derived.Test.YtjepihoacohboaaLr
set_option linter.unusedSimpArgs false
set_option linter.unusedVariables false
set_option maxRecDepth 20000
set_option maxHeartbeats 8000000
namespace Go.Ab
open Go.Proofs
structure TRI (b O : List Int) : Prop where
 l : O.length = b.length
 gv : GV O
 a : ∀ i,O.getD i 0 ≠ 2 → b.getD i 0 = O.getD i 0
theorem TRI.set {b O : List Int} (h : TRI b O) (k : Nat) : TRI b (O.set k 2) := ⟨by rw [List.length_set]; exact h.l,fun x hx => by
   rcases List.mem_or_eq_of_mem_set hx with hx | rfl
   · exact h.gv x hx
   · exact .inr (.inr rfl),fun i hi => by
   by_cases e : k = i
   · by_cases hk : k < O.length
     · subst e; rw [getD_set_eq hk] at hi; exact absurd rfl hi
     · rw [List.set_eq_of_length_le (by omega)] at hi ⊢; exact h.a i hi
   · rw [getD_set_ne e] at hi ⊢; exact h.a i hi⟩
theorem TRI.agr {b O : List Int} {over : Nat} (h : TRI b O) (hg : GOOD O over) (hl : b.length = 56 ∨ b.length = 112) {c : List Int} (hc : c ∈ solG O over) : AGR O c := by
 obtain ⟨m1,m2,m3,_⟩ := hg.mem.1 hc
 exact ⟨m2,by rw [m2,h.l]; omega,m1,fun i hi => m3 i hi⟩
theorem truth_sol {b O : List Int} {over : Int} (h : TRI b O) (hl : b.length = 56 ∨ b.length = 112) (hbt : BITS b) (hae : adrE b = 0) (ho : over = adrV b) :
   (solE O over = 10 ∧ solR O over = [] ∧ (cntE O over = 7 ∨ (cntE O over = 0 ∧ 64 < cntN O over))) ∨
   (solE O over = 0 ∧ cntE O over = 0 ∧ ∃ L,solR O over = bitsT L ∧ ((L.length : Nat) : Int) = cntN O over ∧ L.length ≤ 64 ∧ L.Pairwise lexL ∧ b ∈ L ∧ ∀ c ∈ L,ADRP c ∧ adrE c = 0 ∧ adrV c = over ∧ AGR O c) := by
 have hov : over = (ovN b : Nat) := by rw [ho]; unfold adrV; rw [if_pos hae]
 have hlt := ovN_lt hbt (by omega)
 have hto : over.toNat = ovN b := by omega
 have hg : GOOD O over.toNat := ⟨h.gv,by rw [h.l]; omega,by omega⟩
 have hw : wrnG O over = 0 := wrnG_of (gchk_of h.gv (by rw [h.l]; exact hl)) (by omega) (by omega)
 have hm : b ∈ solG O over.toNat := hg.mem.2 ⟨hbt,h.l.symm,fun i hi => h.a i hi,hto.symm⟩
 have hi : isG O over.toNat = true := hg.nonempty.2 ⟨b,hm⟩
 have hlen := hg.len
 rw [if_pos hi] at hlen
 by_cases h6 : (elimG O).2.length > 6
 · left
   have hs : solE O over = 10 := by unfold solE; rw [hw,if_neg (by decide),if_pos ⟨hi,h6⟩]
   refine ⟨hs,by unfold solR; rw [hs,if_neg (by decide)],?_⟩
   by_cases h30 : (elimG O).2.length > 30
   · left; unfold cntE; rw [hw,if_neg (by decide),if_pos ⟨hi,h30⟩]
   · right
     refine ⟨by unfold cntE; rw [hw,if_neg (by decide),if_neg (fun h => h30 h.2)],?_⟩
     unfold cntN; rw [if_pos ⟨hw,hi,by omega⟩]
     have : 2 ^ 7 ≤ 2 ^ (elimG O).2.length := Nat.pow_le_pow_right (by decide) (by omega)
     omega
 · right
   have hs : solE O over = 0 := by unfold solE; rw [hw,if_neg (by decide),if_neg (fun h => h6 h.2)]
   have h2 : 2 ^ (elimG O).2.length ≤ 2 ^ 6 := Nat.pow_le_pow_right (by decide) (by omega)
   refine ⟨hs,by unfold cntE; rw [hw,if_neg (by decide),if_neg (fun h => h6 (by omega))],solG O over.toNat,by unfold solR; rw [if_pos hs],?_,by omega,solB_lex (gopn h.gv),hm,fun c hc => ?_⟩
   · unfold cntN; rw [if_pos ⟨hw,hi,by omega⟩,hlen]
   · obtain ⟨m1,m2,_,m4⟩ := hg.mem.1 hc
     have hcl : c.length = b.length := m2.trans h.l
     have hbc : bitsE c = 0 := by unfold bitsE; rw [if_neg (by omega),bigB_bit m1]; rfl
     have hac : adrE c = 0 := by unfold adrE; rw [if_neg (by rw [hbc]; decide),if_neg (by omega)]
     exact ⟨⟨by simp only [maxLen]; omega,fun y hy => by rcases m1 y hy with rfl | rfl <;> decide⟩,hac,by unfold adrV; rw [if_pos hac,m4]; omega,h.agr hg hl hc⟩
theorem bitsT_get {L : List (List Int)} {i : Int} (h0 : 0 ≤ i) (h1 : i < L.length) : gtR tTr (bitsT L) i = (some false,L.getD i.toNat []) := by
 have h : i.toNat < L.length := by omega
 simp [gtR,bitsT,h]
theorem lawTruth (nb : Option Bool) (b : List Int) (np : Option Bool) (pl : List Int) (h : ADRP b) (hp : ADRP pl) (hp2 : ∀ x ∈ pl,x < 256) : PurS Try.prog 4 [injT (.sl tB) (nb,b),injT (.sl tB) (np,pl)] (.sb true) := by
 refine PurS.of (S := [(11,_),(25,_),(13,_),(15,_),(27,_),(28,_),(29,_)]) (T := [(26,_)]) (U := []) (tbl := []) (n := 158) hm11 cfg (.cons (spT0.ok cAwake) (.cons (spT1.ok (a := (.sl (.int .u8))) fun x0 h => cAddrP x0.1 x0.2 h) (.cons (spT2.ok (a := (.pair (.int .i64) (.sl (.int .u8)))) (b := (.int .i64)) fun x0 x1 h => cCountP x0.1 x0.2.1 x0.2.2 x1 h) (.cons (spT2.ok (a := (.pair (.int .i64) (.sl (.int .u8)))) (b := (.int .i64)) fun x0 x1 h => cSolveP x0.1 x0.2.1 x0.2.2 x1 h) (.cons (spT2.ok (a := (.pair (.int .i64) (.sl (.int .u8)))) (b := (.sl (.int .u8))) fun x0 x1 h => cAgr x0.1 x0.2.1 x0.2.2 x1.1 x1.2 h) (.cons (spT2.ok (a := (.sl (.int .u8))) (b := (.sl (.int .u8))) fun x0 x1 h => cSmlP x0.1 x0.2 x1.1 x1.2 h) (.cons (spT2.ok (a := (.sl (.int .u8))) (b := (.sl (.int .u8))) fun x0 x1 h => cEqBits x0.1 x0.2 x1.1 x1.2 h) .nil))))))) (.cons cCpT .nil) .nil .nil 0 Try.call4 Try.func4 (ac4_ok (some (0,0))) (by rw [Try.ntmps4]; exact Nat.le_refl _) rfl ⟨_,rfl⟩ ?_
 intro cmp ar cv tn ic ai mx an ad ml sb mn ln em gt up ap sc vw cp rp p1 p2 s1 s2 X Y hX hY r0 r1 r2 r3 r4 r5 r6 r7 r8 r9 r10 r11 r12 r13 r14 r15 r16 r17 r18 r19 r20 r21 r22 r23 r24
 generalize hg0 : adrV = g0
 generalize hg1 : adrE = g1
 generalize hg2 : cntN = g2
 generalize hg3 : cntE = g3
 generalize hg4 : solR = g4
 generalize hg5 : solE = g5
 generalize hg6 : eqI = g6
 cbv
 have hla : ic (ln tB b) = b.length := by rw [r4,r12]
 have hlp : ic (ln tB pl) = pl.length := by rw [r4,r12]
 obtain ⟨N,hN⟩ : ∃ N : Int,N = b.length := ⟨_,rfl⟩
 obtain ⟨Q,hQ⟩ : ∃ N : Int,N = pl.length := ⟨_,rfl⟩
 rw [← hN] at hla
 rw [← hQ] at hlp
 rw [hla,hlp]
 dsimp only
 refine BR.neq r0 (fun h1 => BR.neq r0 (fun h2 => BR.tt rfl trivial) fun h2 => ?_) fun h1 => ?_
 all_goals
   have hl : b.length = 56 ∨ b.length = 112 := by omega
   refine BR.gtr r0 (fun _ => BR.tt rfl trivial) fun h3 => BR.tt rfl ⟨h,BR.neq r0 (fun _ => trivial) fun he => ⟨⟨by omega⟩,?_⟩⟩
   have hae : adrE b = 0 := by rw [hg1]; exact Classical.not_not.1 he
   have hbE : bitsE b = 0 := by
     have e := hae
     unfold adrE at e
     split at e
     · omega
     · omega
   obtain ⟨hbt,_⟩ := bitsE_bit h.h0 hbE
   obtain ⟨over,hover⟩ : ∃ over,over = g0 b := ⟨_,rfl⟩
   have hov2 : over = adrV b := by rw [hg0]; exact hover
   rw [← hover]
   refine OWNK.mk (fun e => by rw [e] at hl; simp at hl) fun M _ hM => ?_
   cbv
   try simp only [nc_eq] at *
   have hMI : ic M = N := by rw [r4]; show (M : Int) = N; omega
   have ht0 : TRI b b := ⟨rfl,fun x hx => by rcases hbt x hx with rfl | rfl <;> simp,fun i hi => rfl⟩
   refine LOOP.ind (σ := Int × List Int) (fun (i,_) => [(0,.tl nb tB b),(1,.tl np tB pl),(5,.p (iv over)),(7,.ptr 1 0),(8,.p (iv i))]) (fun (_,O) => ⟨[{ cells := [.arr M tB O],e := 5,fz := false },{ cells := [.p (iv 0),.ms 0 0 1 none M],e := 24,fz := false }],[]⟩)
     (fun (i,_) => (Q - i).toNat) (fun (i,O) => 0 ≤ i ∧ i ≤ Q ∧ TRI b O) (0,b) ⟨by omega,by show (0 : Int) ≤ Q; omega,ht0⟩ (.inl ⟨rfl,rfl⟩) ?_
   intro ⟨i,O⟩ hI X' hX
   obtain ⟨hI1,hI2,hI3⟩ := hI
   have hOl : O.length = M := by rw [hI3.l]; omega
   obtain ⟨y,hy⟩ : ∃ y : Int,y = gt tB pl i := ⟨_,rfl⟩
   have hyb : i < Q → 0 ≤ y ∧ y < 256 := fun h => by
     have hm : y ∈ pl := by rw [hy,r14]; exact gtR_mem (t := tB) hI1 (by omega)
     exact ⟨hp.h0 y hm,hp2 y hm⟩
   obtain ⟨kk,hkk⟩ : ∃ kk : Int,kk = ar .rem .i64 (cv .i64 y) N := ⟨_,rfl⟩
   have hkb : i < Q → 0 ≤ kk ∧ kk < N := fun h => by
     obtain ⟨y0,y1⟩ := hyb h
     have e2 : cv .i64 y = y := by rw [r2]; exact wrap64 (n := y) (by omega) (by omega)
     have e1 : ar .rem .i64 y N = y % N := by rw [r1]; show y.tmod N = _; rw [Int.tmod_eq_emod_of_nonneg y0]
     rw [hkk,e2,e1]
     exact ⟨Int.emod_nonneg _ (by omega),Int.emod_lt_of_pos _ (by omega)⟩
   have hadd : i < Q → ar .add .i64 i 1 = i + 1 := fun h => by rw [r1]; exact wrap64 (n := i + 1) (by omega) (by omega)
   have hup : up tB M O kk 2 = O.set kk.toNat 2 := by rw [r15]; unfold upR; rw [Ty.norm_eq tB hOl]
   have hvO : vw tB M O 0 M = O := by rw [r18]; exact vw_all (t := tB) hOl
   have had : ad 0 M = M := by rw [r8]; exact Nat.zero_add M
   have hfin := truth_sol hI3 hl hbt hae hov2
   rw [hg4,hg5,hg2,hg3,hg0,hg1] at hfin
   have harg : ARG O := ⟨by simp only [maxLen]; omega,fun z hz => by have := hI3.gv z hz; omega⟩
   cbv
   try simp only [nc_eq] at *
   rw [hlp,hla,hMI,← hy,← hkk,hvO,had]
   refine BR.lss r0 (fun hc => ?_) fun hc => ?_
   · obtain ⟨k1,k2⟩ := hkb hc
     have hi1 : INB i Q := ⟨hI1,hc⟩
     have hi2 : INB kk N := ⟨by omega,k2⟩
     rw [hadd hc,hup]
     exact ⟨hi1,hi1,⟨by omega⟩,hi2,hi2,NEXT.mk (hX (i + 1,O.set kk.toNat 2) _ _ ⟨by omega,by omega,hI3.set _⟩ (by show (Q - (i + 1)).toNat < (Q - i).toNat; omega) (.inl ⟨rfl,rfl⟩))⟩
   · refine ⟨⟨⟨⟨Nat.le_refl _⟩,trivial⟩,trivial⟩,harg,⟨Nat.le_refl _⟩,harg,?_⟩
     clear hX hkb hkk hyb hy hadd hup hvO
     rcases hfin with ⟨f1,f2,f3⟩ | ⟨f1,f2,L,f3,f4,f5,f6,f7,f8⟩
     · rw [f2]
       refine BR.eqlT r0 f1 (BR.eqlT r0 (by rw [r4,r12]; rfl) ?_)
       rcases f3 with f3 | ⟨f3,f4⟩
       · exact BR.eqlT r0 f3 trivial
       · exact BR.eql r0 (fun h => absurd (f3.symm.trans h) (by decide)) fun _ => BR.eqlT r0 f3 (BR.gtr r0 (fun _ => trivial) fun h => absurd f4 h)
     · obtain ⟨R,hR⟩ : ∃ R,R = bitsT L := ⟨_,rfl⟩
       rw [← hR] at f3
       rw [f3]
       obtain ⟨n,hn⟩ : ∃ n : Int,n = (L.length : Nat) := ⟨_,rfl⟩
       have hic : ic (ln tTr R) = n := by rw [r4,r12,hn,hR]; show (((bitsT L).length : Nat) : Int) = _; rw [bitsT,List.length_map]
       rw [hic]
       refine BR.eql r0 (fun h => absurd (f1.symm.trans h) (by decide)) fun _ => BR.neqF r0 f2 (BR.neqF r0 f1 (BR.neqF r0 (hn.trans f4) ?_))
       refine LOOP.ind (σ := Int × Bool) (fun (i,fd) => [(0,.tl nb tB b),(5,.p (iv over)),(7,.ptr 1 0),(11,.tl none tTr R),(13,.p (.v (.bool fd))),(14,.p (iv i))]) (fun _ => ⟨[{ cells := [],e := 5,fz := true },{ cells := [.p (iv 0),.tl (some false) tB O],e := 24,fz := false }],[]⟩)
         (fun (i,_) => (n - i).toNat) (fun (i,fd) => 0 ≤ i ∧ i ≤ n ∧ fd = decide (b ∈ L.take i.toNat)) (0,false) ⟨by omega,by show (0 : Int) ≤ n; omega,by simp⟩ (.inl ⟨rfl,rfl⟩) ?_
       intro ⟨k,fd⟩ hJ X2 hY
       obtain ⟨hJ1,hJ2,hJ3⟩ := hJ
       obtain ⟨c,hc⟩ : ∃ c,c = L.getD k.toNat [] := ⟨_,rfl⟩
       have hgc : k < n → gt tTr R k = (some false,c) := fun h => by rw [r14,hc,hR]; exact bitsT_get hJ1 (by omega)
       have hcm : k < n → c ∈ L := fun h => by
         have : k.toNat < L.length := by omega
         rw [hc,List.getD_eq_getElem?_getD,List.getElem?_eq_getElem this]; exact List.getElem_mem _
       have haddk : k < n → ar .add .i64 k 1 = k + 1 := fun h => by rw [r1]; exact wrap64 (n := k + 1) (by omega) (by omega)
       have hsubk : 0 < k → ar .sub .i64 k 1 = k - 1 := fun h => by rw [r1]; exact wrap64 (n := k - 1) (by omega) (by omega)
       have hgp : k < n → 0 < k → ∃ d,gt tTr R (k - 1) = (some false,d) ∧ SML d c := fun h1 h2 => by
         refine ⟨L.getD (k - 1).toNat [],by rw [r14,hR]; exact bitsT_get (by omega) (by omega),?_⟩
         have e1 : (k - 1).toNat < L.length := by omega
         have e2 : k.toNat < L.length := by omega
         have hd : L.getD (k - 1).toNat [] ∈ L := by rw [List.getD_eq_getElem?_getD,List.getElem?_eq_getElem e1]; exact List.getElem_mem _
         obtain ⟨_,_,_,a1⟩ := f8 _ hd
         obtain ⟨_,_,_,a2⟩ := f8 _ (hcm h1)
         refine ⟨?_,by rw [a1.l,a2.l],⟨a1.u⟩⟩
         rw [hc,List.getD_eq_getElem?_getD,List.getElem?_eq_getElem e1,List.getD_eq_getElem?_getD,List.getElem?_eq_getElem e2]
         exact List.pairwise_iff_getElem.1 f6 _ _ e1 e2 (by omega)
       have hs2 : ∀ c : List Int,s2 tB (some false,c) = c := fun c => by rw [r24]
       have hst : k < n → (fd || decide (c = b)) = decide (b ∈ L.take (k + 1).toNat) := fun h => by
         have e2 : k.toNat < L.length := by omega
         have e3 : (k + 1).toNat = k.toNat + 1 := by omega
         have e4 : L.getD k.toNat [] = L[k.toNat] := by rw [List.getD_eq_getElem?_getD,List.getElem?_eq_getElem e2]; rfl
         rw [e3,List.take_add_one,List.getElem?_eq_getElem e2,hJ3,hc,e4]
         simp only [List.mem_append,Option.toList_some,List.mem_singleton,Bool.decide_or,eq_comm]
       have hend : ¬ k < n → fd = true := fun h => by
         rw [hJ3,List.take_of_length_le (by omega)]; exact decide_eq_true f7
       have hg6' : ∀ a,g6 a b = decide (a = b) := fun a => by rw [← hg6]; rfl
       have hsm : k < n → Short 2000 c := fun h => ⟨(f8 c (hcm h)).2.2.2.u⟩
       cases fd
       all_goals
         cbv
         try simp only [nc_eq] at *
         rw [hic]
         refine BR.lss r0 (fun hck => ?_) fun hck => ?_
       · have hi2 : INB k n := ⟨hJ1,hck⟩
         obtain ⟨c1,c2,c3,c4⟩ := f8 c (hcm hck)
         have hst := hst hck
         rw [hgc hck,hs2]
         refine ⟨hi2,hi2,c1,BR.neqF r0 c2 (BR.neqF r0 c3 ⟨hi2,hi2,c4,BR.tt rfl (BR.gtr r0 (fun hk0 => ?_) fun _ => ?_)⟩)⟩
         · obtain ⟨d,hd1,hd2⟩ := hgp hck hk0
           rw [hsubk hk0,hd1,hs2,haddk hck]
           refine ⟨⟨by omega,by omega⟩,⟨by omega,by omega⟩,hi2,hi2,hd2,BR.tt rfl ?_⟩
           exact ⟨hi2,hi2,hsm hck,BR.mk (fun e => NEXT.mk (hY (k + 1,true) _ _ ⟨by omega,by omega,by show true = decide (b ∈ L.take (k + 1).toNat); rw [← hst,← hg6',e,Bool.false_or]⟩ (by show (n - (k + 1)).toNat < (n - k).toNat; omega) (.inl ⟨rfl,rfl⟩))) fun e => NEXT.mk (hY (k + 1,false) _ _ ⟨by omega,by omega,by show false = decide (b ∈ L.take (k + 1).toNat); rw [← hst,← hg6',e,Bool.false_or]⟩ (by show (n - (k + 1)).toNat < (n - k).toNat; omega) (.inl ⟨rfl,rfl⟩))⟩
         · rw [haddk hck]
           exact ⟨hi2,hi2,hsm hck,BR.mk (fun e => NEXT.mk (hY (k + 1,true) _ _ ⟨by omega,by omega,by show true = decide (b ∈ L.take (k + 1).toNat); rw [← hst,← hg6',e,Bool.false_or]⟩ (by show (n - (k + 1)).toNat < (n - k).toNat; omega) (.inl ⟨rfl,rfl⟩))) fun e => NEXT.mk (hY (k + 1,false) _ _ ⟨by omega,by omega,by show false = decide (b ∈ L.take (k + 1).toNat); rw [← hst,← hg6',e,Bool.false_or]⟩ (by show (n - (k + 1)).toNat < (n - k).toNat; omega) (.inl ⟨rfl,rfl⟩))⟩
       · exact hend hck
       · have hi2 : INB k n := ⟨hJ1,hck⟩
         obtain ⟨c1,c2,c3,c4⟩ := f8 c (hcm hck)
         have hst := hst hck
         rw [hgc hck,hs2]
         refine ⟨hi2,hi2,c1,BR.neqF r0 c2 (BR.neqF r0 c3 ⟨hi2,hi2,c4,BR.tt rfl (BR.gtr r0 (fun hk0 => ?_) fun _ => ?_)⟩)⟩
         · obtain ⟨d,hd1,hd2⟩ := hgp hck hk0
           rw [hsubk hk0,hd1,hs2,haddk hck]
           refine ⟨⟨by omega,by omega⟩,⟨by omega,by omega⟩,hi2,hi2,hd2,BR.tt rfl ?_⟩
           exact NEXT.mk (hY (k + 1,true) _ _ ⟨by omega,by omega,by show true = decide (b ∈ L.take (k + 1).toNat); rw [← hst,Bool.true_or]⟩ (by show (n - (k + 1)).toNat < (n - k).toNat; omega) (.inl ⟨rfl,rfl⟩))
         · rw [haddk hck]
           exact NEXT.mk (hY (k + 1,true) _ _ ⟨by omega,by omega,by show true = decide (b ∈ L.take (k + 1).toNat); rw [← hst,Bool.true_or]⟩ (by show (n - (k + 1)).toNat < (n - k).toNat; omega) (.inl ⟨rfl,rfl⟩))
       · trivial
theorem truth_typed : ∀ xs,TyVs Try.prog [40,22] xs → PurFn Try.prog 4 (xs.map .p) (.v (.bool true)) := law2 (P := Try.prog) (f := 4) (t1 := 40) (t2 := 22) (T1 := .sl tB) (T2 := .sl tB) (by kernel_rfl) fun b p hb hp => lawTruth b.1 b.2 p.1 p.2 (wf_adr hb) (wf_adr hp) (wf_256 hp)
end Go.Ab
