/- GarbleAll. -/
import Derived.Test.YtjepihoacohboaaLw
set_option linter.unusedSimpArgs false
set_option linter.unusedVariables false
set_option maxRecDepth 20000
set_option maxHeartbeats 8000000
namespace Go.Ab
open Go.Proofs
theorem bitsT_gx {L : List (List Int)} {i : Int} (h0 : 0 ≤ i) (h1 : i < L.length) : gtR tTr (bitsT L) i = (some false, L.getD i.toNat []) := by
  have h : i.toNat < L.length := by omega
  simp [gtR, bitsT, h]
theorem BR.eqlJ {cmp : BinOp → Int → Int → Bool} (h : cmp = cmpR) {x y : Int} {A K : Prop} (k : K) (f : x = y → K → A) : BR (cmp .eql x y) A K := BR.eql h (fun e => f e k) fun _ => k
theorem lawAll (x : Int) (nb : Option Bool) (b : List Int) (over : Int) (h : ARG b) (hsz : Short 1048576 b) : PurS Try.prog 5 [injT tG (x,nb,b),injT tI over] (.sb true) := by
 refine PurS.of (S := [(30,_),(10,_),(19,_),(11,_),(25,_),(15,_),(29,_),(17,_),(13,_)]) (T := [(26,_),(31,_)]) (U := []) (tbl := []) (n := 249) hm11 cfg (.cons (spT1.ok (a := (.pair (.int .i64) (.sl (.int .u8)))) fun x0 h => cGarbled2 x0.1 x0.2.1 x0.2.2 h) (.cons (spT1.ok (a := (.pair (.int .i64) (.sl (.int .u8)))) (pre := fun _ => True) fun x0 _ => cLong x0.1 x0.2.1 x0.2.2) (.cons (spT1.ok (a := (.pair (.int .i64) (.sl (.int .u8)))) fun x0 h => cGChkP x0.1 x0.2.1 x0.2.2 h) (.cons (spT0.ok cAwake) (.cons (spT1.ok (a := (.sl (.int .u8))) fun x0 h => cAddrP x0.1 x0.2 h) (.cons (spT2.ok (a := (.pair (.int .i64) (.sl (.int .u8)))) (b := (.int .i64)) fun x0 x1 h => cSolveP x0.1 x0.2.1 x0.2.2 x1 h) (.cons (spT2.ok (a := (.sl (.int .u8))) (b := (.sl (.int .u8))) fun x0 x1 h => cEqBits x0.1 x0.2 x1.1 x1.2 h) (.cons (spT2.ok (a := (.pair (.int .i64) (.sl (.int .u8)))) (b := (.int .i64)) fun x0 x1 h => cCertP x0.1 x0.2.1 x0.2.2 x1 h) (.cons (spT2.ok (a := (.pair (.int .i64) (.sl (.int .u8)))) (b := (.int .i64)) fun x0 x1 h => cCountP x0.1 x0.2.1 x0.2.2 x1 h) .nil))))))))) (.cons cCpT (.cons cCpBT .nil)) .nil .nil 0 Try.call5 Try.func5 (ac5_ok (some (0,0))) (by rw [Try.ntmps5]; exact Nat.le_refl _) rfl ⟨_,rfl⟩ ?_
 intro cmp ar cv tn ic ai mx an ad ml sb mn ln em gt up ap sc vw cp rp p1 p2 s1 s2 X Y hX hY r0 r1 r2 r3 r4 r5 r6 r7 r8 r9 r10 r11 r12 r13 r14 r15 r16 r17 r18 r19 r20 r21 r22 r23 r24
 generalize hg0 : grbL = g0
 generalize hg1 : lngB = g1
 generalize hg2 : gchk = g2
 generalize hg3 : adrV = g3
 generalize hg4 : adrE = g4
 generalize hg5 : solR = g5
 generalize hg6 : solE = g6
 generalize hg7 : eqI = g7
 generalize hg8 : cerX = g8
 generalize hg9 : cerR = g9
 generalize hg10 : wrnG = g10
 generalize hg11 : cntN = g11
 generalize hg12 : cntE = g12
 cbv
 have hla : ic (ln tB b) = b.length := by rw [r4,r12]
 obtain ⟨N,hN⟩ : ∃ N : Int,N = b.length := ⟨_,rfl⟩
 rw [← hN] at hla
 obtain ⟨l,hl⟩ : ∃ l,l = gplaces b 0 := ⟨_,rfl⟩
 obtain ⟨G,hG⟩ : ∃ G,G = g0 b := ⟨_,rfl⟩
 have hG2 : G = plD l := by rw [hG,← hg0,hl]; rfl
 obtain ⟨n,hn⟩ : ∃ n : Int,n = (l.length : Nat) := ⟨_,rfl⟩
 have hlG : ic (ln tI G) = n := by rw [r4,r12,hG2,hn]; show (((plD l).length : Nat) : Int) = _; unfold plD; rw [List.length_map]
 have hsb := hsz.h
 rw [← hG,hla,hlG]
 try dsimp only
 refine ⟨hsz,BR.mk (fun _ => BR.tt rfl trivial) fun hlg => ⟨h.ln,BR.neq r0 (fun _ => BR.tt rfl trivial) fun hck => BR.lss r0 (fun _ => BR.tt rfl trivial) fun h56 => BR.gtr r0 (fun _ => BR.tt rfl trivial) fun h8 => BR.tt rfl ?_⟩⟩
 have hck0 : gchk b = 0 := by rw [hg2]; exact Classical.not_not.1 hck
 have hlen := gchk_len hck0
 have hofp := gchk_ok h.h0 hck0
 refine ⟨⟨by omega⟩,?_⟩
 refine OWNK.mk (fun e => by rw [e] at hlen; simp at hlen) fun M _ hM => ?_
 cbv
 try simp only [nc_eq] at *
 refine ⟨⟨by omega⟩,OWNK.mk (fun e => by rw [e] at hlen; simp at hlen) fun M2 _ hM2 => ?_⟩
 obtain rfl : M2 = M := by omega
 cbv
 try simp only [nc_eq] at *
 rw [hla]
 have hMI : ic M2 = N := by rw [r4]; show (M2 : Int) = N; omega
 have htn : tn N = M2 := by rw [r3]; show N.toNat = M2; omega
 have hrp : rp .bool M2 false = List.replicate M2 false := by rw [r20]
 rw [htn,hrp]
 obtain ⟨o,ho1,ho2⟩ : ∃ o : Nat,(0 ≤ over → o = over.toNat) ∧ (over < 0 → o = 2 ^ 24) := by
   by_cases hh : 0 ≤ over
   · exact ⟨over.toNat,fun _ => rfl,fun h => by omega⟩
   · exact ⟨2 ^ 24,fun h => absurd h hh,fun _ => rfl⟩
 have hopn := gopn hofp.gv
 rw [← hl] at hopn
 have hln8 : l.length ≤ 8 := by omega
 obtain ⟨p2,hp2⟩ : ∃ p2 : Nat,p2 = 2 ^ l.length := ⟨_,rfl⟩
 have hp28 : p2 ≤ 2 ^ 8 := by rw [hp2]; exact Nat.pow_le_pow_right (by decide) hln8
 have hcvn : cv .u64 n = n := by rw [r2]; exact wrap_u64 (by omega) (by omega)
 have hshn : ar .shl .i64 1 n = (p2 : Nat) := by
   rw [r1,hn,hp2,show (1 : Int) = ((1 : Nat) : Int) by rfl,shlI (by omega) (by omega),Nat.one_mul]
 have hn0 : 0 ≤ n := by omega
 have hLG : ∀ i : Int,0 ≤ i → i < n → ∃ pp : Nat,gt tI G i = (pp : Int) ∧ l.drop i.toNat = pp :: l.drop (i + 1).toNat ∧ INB (pp : Int) N := fun i h0 h1 => by
   have hil : i.toNat < l.length := by omega
   refine ⟨l[i.toNat],?_,?_,Int.natCast_nonneg _,?_⟩
   · rw [r14,hG2]; simp [gtR,plD,hil]
   · rw [show (i + 1).toNat = i.toNat + 1 by omega]; exact List.drop_eq_getElem_cons hil
   · have := (hopn.op _ (List.getElem_mem hil)).1
     rw [gbase_len] at this; omega
 have hmJ : ∀ j : Int,0 ≤ j → j < n → (n - (j + 1)).toNat < (n - j).toNat := fun j h0 h1 => by omega
 have hLE : ∀ j : Int,¬ j < n → l.drop j.toNat = [] := fun j h => List.drop_eq_nil_of_le (by omega)
 have haddn : ∀ i : Int,0 ≤ i → i < n → ar .add .i64 i 1 = i + 1 := fun i h0 h1 => by rw [r1]; exact wrap64 (n := i + 1) (by omega) (by omega)
 refine ⟨MK_iff.2 ⟨by omega,Int.le_refl _,by omega,by omega⟩,?_⟩
 refine LOOP.ind (σ := Int × Int × List Int × List Int × List Bool) (fun (k,ct,C,F,Sm) => [(1,.p (iv over)),(2,.ptr 0 0),(5,.tl none tI G),(6,.ms 1 0 1 none M2),(7,.ms 2 0 1 none M2),(8,.p (iv ct)),(9,.ms 3 0 1 none M2),(10,.p (iv k))])
   (fun (k,ct,C,F,Sm) => ⟨[{ cells := [.p (iv x),.tl nb tB b],e := 24,fz := false },{ cells := [.arr M2 tB C],e := 5,fz := false },{ cells := [.arr M2 tB F],e := 5,fz := false },{ cells := [.arr M2 .bool Sm],e := 4,fz := false,ap := true }],[]⟩)
   (fun (k,_) => ((p2 : Int) - k).toNat) (fun (k,ct,C,F,Sm) => ALI b l o k ct C F Sm) (0,0,b,b,List.replicate M2 false) (ALI.zero hM) (.inl ⟨rfl,rfl⟩) ?_
 intro ⟨k,ct,C,F,Sm⟩ hI X' hX
 have hk0 := hI.k0
 have hk1 := hI.k1
 rw [← hp2] at hk1
 have hCl := hI.cl
 have hw := hI.wrt hofp.gv hl
 obtain ⟨T,hT⟩ : ∃ T,T = wrB C l k.toNat := ⟨_,rfl⟩
 rw [← hT] at hw
 have hmk : k < p2 → ((p2 : Int) - (k + 1)).toNat < ((p2 : Int) - k).toNat := fun h => by omega
 have hctk := hI.ctk
 have hct0' := hI.ct0
 have hcb : k < p2 → -9223372036854775808 ≤ ct + 1 ∧ ct + 1 < 9223372036854775808 := fun h => by omega
 have haddk : k < p2 → ar .add .i64 k 1 = k + 1 := fun h => by rw [r1]; exact wrap64 (n := k + 1) (by omega) (by omega)
 have hsub1 : ar .sub .i64 n 1 = n - 1 := by rw [r1]; exact wrap64 (n := n - 1) (by omega) (by omega)
 cbv
 try simp only [nc_eq] at *
 rw [hlG,hcvn,hshn]
 refine ⟨⟨by omega⟩,BR.lss r0 (fun hkp => ?_) fun hkp => ?_⟩
 · refine LOOP.ind (σ := Int × List Int) (fun (i,_) => [(1,.p (iv over)),(2,.ptr 0 0),(5,.tl none tI G),(6,.ms 1 0 1 none M2),(7,.ms 2 0 1 none M2),(8,.p (iv ct)),(9,.ms 3 0 1 none M2),(10,.p (iv k)),(11,.p (iv i))])
     (fun (_,D) => ⟨[{ cells := [.p (iv x),.tl nb tB b],e := 24,fz := false },{ cells := [.arr M2 tB D],e := 5,fz := false },{ cells := [.arr M2 tB F],e := 5,fz := false },{ cells := [.arr M2 .bool Sm],e := 4,fz := false,ap := true }],[]⟩)
     (fun (i,_) => (n - i).toNat) (fun (i,D) => 0 ≤ i ∧ i ≤ n ∧ D.length = M2 ∧ wrB D (l.drop i.toNat) k.toNat = T) (0,C) ⟨by omega,by show (0 : Int) ≤ n; omega,by omega,hT.symm⟩ (.inl ⟨rfl,rfl⟩) ?_
   intro ⟨i,D⟩ hJ X2 hY
   obtain ⟨hJ1,hJ2,hJ3,hJ4⟩ := hJ
   obtain ⟨pp,hpp⟩ : ∃ pp : Nat,pp = l.getD i.toNat 0 := ⟨_,rfl⟩
   have hil : i < n → i.toNat < l.length := fun h => by omega
   have hple : i < n → l.drop i.toNat = pp :: l.drop (i + 1).toNat := fun h => by
     rw [show (i + 1).toNat = i.toNat + 1 by omega,List.drop_eq_getElem_cons (hil h),hpp,List.getD_eq_getElem?_getD,List.getElem?_eq_getElem (hil h)]; rfl
   have hpm : i < n → (pp : Int) < N := fun h => by
     have : pp ∈ l := by rw [hpp,List.getD_eq_getElem?_getD,List.getElem?_eq_getElem (hil h)]; exact List.getElem_mem _
     have := (hopn.op pp this).1
     rw [gbase_len] at this; omega
   have hGi : i < n → gt tI G i = (pp : Nat) := fun h => by
     rw [r14,hG2,hpp]
     simp [gtR,plD,hil h]
   obtain ⟨v,hv⟩ : ∃ v : Int,v = cv .u8 (ar .rem .i64 (ar .shr .i64 k (cv .u64 (ar .sub .i64 (n - 1) i))) 2) := ⟨_,rfl⟩
   have hvv : i < n → v = if k.toNat.testBit (l.drop (i + 1).toNat).length then 1 else 0 := fun h => by
     have e0 : ar .sub .i64 (n - 1) i = ((l.length - 1 - i.toNat : Nat) : Int) := by rw [r1]; refine (wrap64 (n := n - 1 - i) (by omega) (by omega)).trans (by omega)
     have e1 : cv .u64 ((l.length - 1 - i.toNat : Nat) : Int) = ((l.length - 1 - i.toNat : Nat) : Int) := by rw [r2]; exact wrap_u64 (by omega) (by omega)
     obtain ⟨kn,hkn⟩ : ∃ kn : Nat,k = (kn : Nat) := ⟨k.toNat,by omega⟩
     have e2 : ar .shr .i64 k ((l.length - 1 - i.toNat : Nat) : Int) = ((kn / 2 ^ (l.length - 1 - i.toNat) : Nat) : Int) := by rw [r1,hkn]; exact shrI (by omega)
     obtain ⟨z,hz⟩ : ∃ z : Nat,z = kn / 2 ^ (l.length - 1 - i.toNat) := ⟨_,rfl⟩
     have e3 : ar .rem .i64 (z : Int) 2 = ((z % 2 : Nat) : Int) := by rw [r1]; show (z : Int).tmod 2 = _; rw [Int.tmod_eq_emod_of_nonneg (by omega)]; omega
     have e4 : cv .u8 ((z % 2 : Nat) : Int) = ((z % 2 : Nat) : Int) := by
       rw [r2]
       rcases Nat.mod_two_eq_zero_or_one z with e | e <;> rw [e] <;> decide
     rw [hv,e0,e1,e2,← hz,e3,e4,List.length_drop,Nat.testBit_eq_decide_div_mod_eq]
     have e5 : l.length - (i + 1).toNat = l.length - 1 - i.toNat := by omega
     have e6 : k.toNat = kn := by omega
     rw [e5,e6,← hz]
     rcases Nat.mod_two_eq_zero_or_one z with e | e <;> rw [e] <;> decide
   have e01 : i < n → NN (cv .u64 (ar .sub .i64 (n - 1) i)) := fun h => by
     have e0 : ar .sub .i64 (n - 1) i = ((l.length - 1 - i.toNat : Nat) : Int) := by rw [r1]; refine (wrap64 (n := n - 1 - i) (by omega) (by omega)).trans (by omega)
     have e1 : cv .u64 ((l.length - 1 - i.toNat : Nat) : Int) = ((l.length - 1 - i.toNat : Nat) : Int) := by rw [r2]; exact wrap_u64 (by omega) (by omega)
     exact ⟨by rw [e0,e1]; exact Int.natCast_nonneg _⟩
   have hst : i < n → wrB (D.set pp v) (l.drop (i + 1).toNat) k.toNat = T := fun h => by
     rw [hple h] at hJ4
     rw [hvv h]; exact hJ4
   have hend : ¬ i < n → D = T := fun h => by
     rw [List.drop_eq_nil_of_le (by omega)] at hJ4; exact hJ4
   have haddi : i < n → ar .add .i64 i 1 = i + 1 := fun h => by rw [r1]; exact wrap64 (n := i + 1) (by omega) (by omega)
   have hup : up tB M2 D (pp : Nat) v = D.set pp v := by rw [r15]; unfold upR; rw [Ty.norm_eq tB hJ3]; simp
   cbv
   try simp only [nc_eq] at *
   rw [hlG]
   refine BR.lss r0 (fun hc => ?_) fun hc => ?_
   · have hi : INB i n := ⟨hJ1,hc⟩
     have hpN : INB (pp : Int) N := ⟨Int.natCast_nonneg _,hpm hc⟩
     rw [hsub1,hGi hc,← hv,hup,haddi hc,hMI]
     exact ⟨hi,hi,e01 hc,⟨by decide⟩,hpN,hpN,NEXT.mk (hY (i + 1,D.set pp v) _ _ ⟨by omega,by omega,by rw [List.length_set]; exact hJ3,hst hc⟩ (by show (n - (i + 1)).toNat < (n - i).toNat; omega) (.inl ⟨rfl,rfl⟩))⟩
   · have hD := hend hc
     have hTl : T.length = M2 := hw.ln.trans hM.symm
     have had : ad 0 M2 = M2 := by rw [r8]; exact Nat.zero_add M2
     have hvT : vw tB M2 T 0 M2 = T := by rw [r18]; exact vw_all (t := tB) hTl
     obtain ⟨hadT,haT,hoT,hlt⟩ := hw.adr hlen
     have hoi := o_iff ho1 ho2 hlt
     have hsT : Short 2000 T := ⟨by rw [hw.ln]; rcases hlen with e | e <;> rw [e] <;> decide⟩
     clear hlt
     rw [hg3] at hoT
     rw [hg4] at haT
     rw [hD,hvT,had,haddk hkp]
     refine ⟨⟨⟨Nat.le_refl _⟩,trivial⟩,hadT,BR.neqF r0 haT (BR.neq r0 (fun hne => ?_) fun heq => ⟨h,?_⟩)⟩
     · refine NEXT.mk (hX (k + 1,ct,T,F,Sm) _ _ (hI.skip hw hopn (by rw [← hp2]; exact hkp) fun e => hne ?_) (hmk hkp) (.inl ⟨rfl,rfl⟩))
       rw [hoT]; exact hoi.2 e
     · have heq := Classical.not_not.1 heq
       rw [hoT] at heq
       have hov : ovN T = o := hoi.1 heq
       have hov0 : 0 ≤ over := by rw [← heq]; exact Int.natCast_nonneg _
       obtain ⟨hct0,hctW,hctT,hfo⟩ := hI.next hw hopn (by rw [← hp2]; exact hkp) hov
       obtain ⟨W,hW⟩ : ∃ W,W = solB (gbase b) l o := ⟨_,rfl⟩
       rw [← hW] at hctW hctT
       obtain ⟨R,hR⟩ : ∃ R,R = g5 b over := ⟨_,rfl⟩
       have hRW : g6 b over = 0 → R = bitsT W := fun h6 => by
         rw [hR,← hg5,hW]
         unfold solR
         rw [hg6,if_pos h6]
         have e1 : over.toNat = o := (ho1 hov0).symm
         unfold solG
         rw [e1,← hl]
       have hRn : g6 b over = 0 → ic (ln tTr R) = (W.length : Nat) := fun h6 => by
         rw [r4,r12,hRW h6]; show (((bitsT W).length : Nat) : Int) = _; rw [bitsT,List.length_map]
       have hRg : g6 b over = 0 → gt tTr R ct = (some false,T) := fun h6 => by
         rw [r14,hRW h6,bitsT_gx hct0 hctW,hctT]
       have hs2 : ∀ c : List Int,s2 tB (some false,c) = c := fun c => by rw [r24]
       have hTT : g7 T T = true := by rw [← hg7]; unfold eqI; exact decide_eq_true rfl
       rw [← hR]
       refine BR.eqlJ r0 ?_ fun h6 key => ?_
       rotate_left
       · rw [hRn h6,hRg h6,hs2]
         exact BR.geq r0 (fun hh => absurd hctW (Int.not_lt.2 hh)) fun _ => ⟨⟨hct0,hctW⟩,⟨hct0,hctW⟩,⟨⟨Nat.le_refl _⟩,trivial⟩,hsT,BR.tt hTT key⟩
       clear hRg hRn hRW hR hs2 hTT
       have hFl : F.length = M2 := (hI.fl hopn).trans hM.symm
       have hSl : Sm.length = M2 := hI.sl.trans hM.symm
       refine LOOP.ind (σ := Int × List Int × List Bool) (fun (j,_,_) => [(1,.p (iv over)),(2,.ptr 0 0),(5,.tl none tI G),(6,.ms 1 0 1 none M2),(7,.ms 2 0 1 none M2),(8,.p (iv ct)),(9,.ms 3 0 1 none M2),(10,.p (iv k)),(16,.p (iv j))])
         (fun (_,F',S') => ⟨[{ cells := [.p (iv x),.tl nb tB b],e := 24,fz := false },{ cells := [.arr M2 tB T],e := 5,fz := false },{ cells := [.arr M2 tB F'],e := 5,fz := false },{ cells := [.arr M2 .bool S'],e := 4,fz := false,ap := true }],[]⟩)
         (fun (j,_) => (n - j).toNat) (fun (j,F',S') => 0 ≤ j ∧ j ≤ n ∧ F'.length = M2 ∧ S'.length = M2 ∧ fsR (decide (ct = 0)) T (l.drop j.toNat) (F',S') = fsR (decide (ct = 0)) T l (F,Sm)) (0,F,Sm) ⟨Int.le_refl _,hn0,hFl,hSl,rfl⟩ (.inl ⟨rfl,rfl⟩) ?_
       clear hY
       intro ⟨j,F',S'⟩ hJ X3 hZ
       obtain ⟨hJ1,hJ2,hJ3,hJ4,hJ5⟩ := hJ
       cbv
       try simp only [nc_eq] at *
       rw [hlG]
       refine BR.lss r0 (fun hc => ?_) fun hc => ?_
       · obtain ⟨pq,g1',g2',g3'⟩ := hLG j hJ1 hc
         have hj : INB j n := ⟨hJ1,hc⟩
         rw [g1',hMI,haddn j hJ1 hc]
         have hq : pq < M2 := by rcases g3' with ⟨_,h2⟩; omega
         have hyT : gt tB T (pq : Int) = T.getD pq 0 := by rw [r14]; rfl
         have hyF : gt tB F' (pq : Int) = F'.getD pq 0 := by rw [r14]; rfl
         have hu1 : ∀ v,up tB M2 F' (pq : Int) v = F'.set pq v := fun v => by rw [r15]; unfold upR; rw [Ty.norm_eq tB hJ3]; rfl
         have hu2 : ∀ v,up .bool M2 S' (pq : Int) v = S'.set pq v := fun v => by rw [r15]; unfold upR; rw [Ty.norm_eq .bool hJ4]; rfl
         have hmj : (n - (j + 1)).toNat < (n - j).toNat := hmJ j hJ1 hc
         have hj2 : 0 ≤ j + 1 ∧ j + 1 ≤ n := ⟨Int.le_add_one hJ1,hc⟩
         rw [g2'] at hJ5
         rw [hyT,hyF,hu1,hu2,hu2]
         refine BR.eql r0 (fun hz => ?_) fun hz => ?_
         · rw [decide_eq_true hz] at hJ5
           refine ⟨hj,hj,hj,hj,g3',g3',g3',g3',hj,hj,g3',g3',NEXT.mk (hZ (j + 1,F'.set pq (T.getD pq 0),S'.set pq true) _ _ ⟨hj2.1,hj2.2,by rw [List.length_set]; exact hJ3,by rw [List.length_set]; exact hJ4,?_⟩ hmj (.inl ⟨rfl,rfl⟩))⟩
           rw [decide_eq_true hz]; exact hJ5
         · rw [decide_eq_false hz] at hJ5
           refine ⟨hj,hj,g3',g3',hj,hj,g3',g3',BR.neq r0 (fun hne => ?_) fun hne => ?_⟩
           · refine ⟨hj,hj,g3',g3',NEXT.mk (hZ (j + 1,F',S'.set pq false) _ _ ⟨hj2.1,hj2.2,hJ3,by rw [List.length_set]; exact hJ4,?_⟩ hmj (.inl ⟨rfl,rfl⟩))⟩
             rw [decide_eq_false hz,← hJ5]
             simp only [fsR,Bool.false_eq_true,if_false,if_pos hne]
           · refine NEXT.mk (hZ (j + 1,F',S') _ _ ⟨hj2.1,hj2.2,hJ3,hJ4,?_⟩ hmj (.inl ⟨rfl,rfl⟩))
             rw [decide_eq_false hz,← hJ5]
             simp only [fsR,Bool.false_eq_true,if_false,if_neg hne]
       · have hdr : l.drop j.toNat = [] := hLE j hc
         rw [hdr] at hJ5
         have hJ5 : (F',S') = fsR (decide (ct = 0)) T l (F,Sm) := hJ5
         rw [← hJ5] at hfo
         have hadc : ar .add .i64 ct 1 = ct + 1 := by rw [r1]; exact wrap64 (n := ct + 1) (hcb hkp).1 (hcb hkp).2
         rw [hadc,haddk hkp]
         exact NEXT.mk (hX (k + 1,ct + 1,T,F',S') _ _ hfo (hmk hkp) (.inl ⟨rfl,rfl⟩))
 · refine ⟨h,h,BR.lss r0 (fun hv => ?_) fun hv => BR.gtr r0 (fun hv2 => ?_) fun hv2 => ?_⟩
   · obtain ⟨a1,a2⟩ := all_out hck0 (.inl hv)
     rw [hg10] at a1
     rw [hg12] at a2
     exact BR.eqlT r0 a1 (BR.eqlT r0 a2 trivial)
   · obtain ⟨a1,a2⟩ := all_out hck0 (.inr hv2)
     rw [hg10] at a1
     rw [hg12] at a2
     exact BR.eqlT r0 a1 (BR.eqlT r0 a2 trivial)
   · obtain ⟨a1,a2,a3,a4,a5,a6,a7⟩ := all_in (x := x) hI hl (by rw [← hp2]; exact hkp) hck0 hofp.gv (Int.not_lt.1 hv) hv2 (ho1 (Int.not_lt.1 hv)) hln8
     rw [hg10] at a1
     rw [hg12] at a2
     rw [hg11] at a3
     rw [hg8] at a4
     rw [hg9] at a5
     obtain ⟨E,hE⟩ : ∃ E,E = cerL b over := ⟨_,rfl⟩
     rw [← hE] at a5 a6 a7
     rw [a5]
     have hlE : ic (ln tB E) = N := by rw [r4,r12]; show ((E.length : Nat) : Int) = N; rw [a6,hN]
     rw [hlE,hla]
     refine BR.neqF r0 a1 (BR.neqF r0 a2 (BR.neqF r0 a3 (BR.neqF r0 rfl (BR.neqF r0 a4 ?_))))
     have hEl : E.length = M2 := a6.trans hM.symm
     have hFl : F.length = M2 := (hI.fl hopn).trans hM.symm
     have hN0 : 0 ≤ N := by rw [hN]; exact Int.natCast_nonneg _
     clear hX hcb hctk hct0' hmk hsub1
     refine LOOP.ind (σ := Int) (fun i => [(2,.ptr 0 0),(7,.ms 2 0 1 none M2),(9,.ms 3 0 1 none M2),(17,.ptr 4 0),(21,.p (iv i))])
       (fun _ => ⟨[{ cells := [.p (iv x),.tl nb tB b],e := 24,fz := false },{ cells := [.arr M2 tB C],e := 5,fz := false },{ cells := [.arr M2 tB F],e := 5,fz := false },{ cells := [.arr M2 .bool Sm],e := 4,fz := false,ap := true },{ cells := [.p (iv (g8 x b over)),.tl none tB E],e := 24,fz := false }],[]⟩)
       (fun i => (N - i).toNat) (fun i => 0 ≤ i ∧ i ≤ N) 0 ⟨Int.le_refl _,hN0⟩ (.inl ⟨rfl,rfl⟩) ?_
     intro i hJ X4 hV
     obtain ⟨hJ1,hJ2⟩ := hJ
     have hadi : i < N → ar .add .i64 i 1 = i + 1 := fun h => by rw [r1]; exact wrap64 (n := i + 1) (by omega) (by omega)
     have hmi : i < N → (N - (i + 1)).toNat < (N - i).toNat := fun h => by omega
     have hil : i < N → i.toNat < b.length := fun h => by omega
     cbv
     try simp only [nc_eq] at *
     rw [hlE,hla]
     refine BR.lss r0 (fun hc => ?_) fun _ => trivial
     have hi : INB i N := ⟨hJ1,hc⟩
     have e1 : gt tB E i = E.getD i.toNat 0 := by rw [r14]; rfl
     have e2 : gt tB F i = F.getD i.toNat 0 := by rw [r14]; rfl
     have e3 : gt tB b i = b.getD i.toNat 0 := by rw [r14]; rfl
     have e4 : gt .bool Sm i = Sm.getD i.toNat false := by rw [r14]; rfl
     have e5 := a7 i.toNat (hil hc)
     rw [hMI,e1,e2,e3,e4,hadi hc]
     have hgo := NEXT.mk (hV (i + 1) _ _ ⟨Int.le_add_one hJ1,hc⟩ (hmi hc) (.inl ⟨rfl,rfl⟩))
     exact ⟨hi,hi,hi,hi,BR.mk (fun ht => ⟨hi,hi,hi,hi,BR.neqF r0 (by rw [e5,if_pos ht]) hgo⟩) fun hf => ⟨hi,hi,BR.neqF r0 (by rw [e5,if_neg (by rw [hf]; decide)]) hgo⟩⟩
theorem all_typed : ∀ xs,TyVs Try.prog [24,3] xs → (∀ g o,Prs tG tI g o xs → Short 1048576 g.2.2) → PurFn Try.prog 5 (xs.map .p) (.v (.bool true)) :=
 law2Q (P := Try.prog) (f := 5) (t1 := 24) (t2 := 3) (T1 := tG) (T2 := tI) (QQ := fun g _ => Short 1048576 g.2.2) (by kernel_rfl) fun g o hg ho hQ => lawAll g.1 g.2.1 g.2.2 o (wf_arg hg) hQ
end Go.Ab
