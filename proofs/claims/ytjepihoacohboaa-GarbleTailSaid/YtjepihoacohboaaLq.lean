/- Own copies; GarbleTail. -/
import Derived.Test.YtjepihoacohboaaLp
set_option linter.unusedSimpArgs false
set_option linter.unusedVariables false
set_option maxRecDepth 20000
set_option maxHeartbeats 8000000
namespace Go.Ab
open Go.Proofs
theorem OWD.ogI {t : Ty} {e : TypeId} {l : List t.den} {d : DC} {bs : List BoxS} {st : StS} (h : OWD t e l d bs) {g : Nat} (hg : nthD st.grp g = some (l.length * t.size,e)) (hf : (t.rows l).all flatP = true) : OWNF d bs (.og g t l) st := by
 rcases h.h with ⟨h',rfl,rfl⟩ | ⟨h',rfl,rfl⟩
 · subst h'
   refine OWNF.flat ?_ (z := .sl (some true) 0 []) ?_ rfl
   · simp only [DC.conc]
   · simp only [DC.conc]
 · refine ⟨_,?_,gp_box hg hf⟩
   rw [og_concN h',ms_conc]
   simp only [Ren]
   exact ⟨0,e,rfl,rfl⟩
theorem cCpO (nl : Option Bool) (l : List Int) (hl : Short 2000 l) : OwnL Try.prog 26 ([injT (.sl tB) (nl,l)]) (tB) 5 (l) (shI) := by
 refine OwnL.of fun d bs hD => OwnS.of (S := []) (T := []) (U := []) (tbl := [(31,ac31 none,[.tmp 2],19)]) (n := 5) hm11 cfg .nil .nil .nil (.cons Try.call31 Try.func31 (ac31_ok none) (by rw [Try.ntmps31]; exact Nat.le_refl _) .nil) 6 Try.call26 Try.func26 (ac26_ok (some (0,0))) (by rw [Try.ntmps26]; exact Nat.le_refl _) rfl _ _ ?_
 intro cmp ar cv tn ic ai mx an ad ml sb mn ln em gt up ap sc vw cp rp p1 p2 s1 s2 X Y hX hY r0 r1 r2 r3 r4 r5 r6 r7 r8 r9 r10 r11 r12 r13 r14 r15 r16 r17 r18 r19 r20 r21 r22 r23 r24
 cbv
 have hl := hl.h
 have hla : ic (ln tB l) = l.length := by rw [r4,r12]
 obtain ⟨N,hN⟩ : ∃ N : Int,N = l.length := ⟨_,rfl⟩
 rw [← hN] at hla
 refine LOOP.ind0 (σ := List Int × Int) (fun (a,i) => [(0,.tl nl tB l),(3,.og 0 tB a),(4,.p (iv i))]) (fun (a,i) => ⟨[],[(ml (ln tB a) 1,5)]⟩) (fun (a,i) => (N - i).toNat) (fun (a,i) => 0 ≤ i ∧ i ≤ N ∧ a.length ≤ i ∧ a ++ l.drop i.toNat = l) ([],0) ⟨by omega,by show (0 : Int) ≤ N; omega,by simp,by simp⟩ (.inr ⟨[],[none],?_⟩) ?_
 · rw [SIM_iff]; cbv; simp [nlLe_self]
 intro ⟨a,i⟩ hI X' hX
 obtain ⟨hI1,hI2,hI4,hI3⟩ := hI
 obtain ⟨y,hy⟩ : ∃ y : Int,y = gt tB l i := ⟨_,rfl⟩
 have hadd : i < N → ar .add .i64 i 1 = i + 1 := fun h => by rw [r1]; exact wrap64 (n := i + 1) (by omega) (by omega)
 have hap : ap tB a [y] = a ++ [y] := by rw [r16]
 have hlp : ad (ln tB a) (ln tB [y]) = a.length + 1 := by rw [r8,r12]; rfl
 have hst : i < N → (a ++ [y]) ++ l.drop (i + 1).toNat = l := fun h => by
   rw [List.append_assoc,List.singleton_append,hy,r14,← gtR_drop (t := tB) hI1 (by omega)]; exact hI3
 have hml : ml (ln tB a) 1 = a.length := by rw [r9,r12]; exact Nat.mul_one _
 have hend : ¬ i < N → OWNF d bs (.og 0 tB a) ⟨[],[(ml (ln tB a) 1,5)]⟩ := fun h => by
   have e : a = l := by rw [gtR_end (by omega),List.append_nil] at hI3; exact hI3
   rw [hml,e]
   refine hD.ogI ?_ (rows_int _)
   show some (l.length,_) = some (l.length * 1,_)
   rw [Nat.mul_one]
 cbv
 try simp only [nc_eq] at *
 rw [hla,← hy,hap,hlp]
 refine BR.lss r0 (fun hc => ?_) hend
 have h1 : INB i N := ⟨hI1,hc⟩
 rw [hadd hc]
 refine ⟨h1,h1,⟨rfl⟩,LIM_iff.2 ⟨by omega,by omega⟩,NEXT.mk (hX (a ++ [y],i + 1) _ _ ⟨by omega,by omega,?_,hst hc⟩ (by show (N - (i + 1)).toNat < (N - i).toNat; omega) (.inl ⟨rfl,rfl⟩))⟩
 show ((a ++ [y]).length : Int) ≤ i + 1
 rw [List.length_append,List.length_singleton]; omega
def spCp : OpsS → CallS := spOwn (argT1 (.sl tB)) (fun a => Short 2000 a.2) tB 5 (fun a => a.2) (fun _ => shI)
theorem cCpT : ∀ ds st K,spCp OpsS.real 26 ds st K → FnS Try.prog 26 ds st K := fun ds st K => spOwn.ok (fun _ => shI.ok tB) (argT1.ok (a := .sl tB) (Q := fun xs a => Short 2000 a.2 → OwnL Try.prog 26 xs tB 5 a.2 shI) (fun xs ys a he h hp => (h hp).cong he) fun a hp => cCpO a.1 a.2 hp) ds st K
structure TLI (b O : List Int) : Prop where
 l : O.length = b.length
 gv : GV O
 t : ∀ i,O.getD i 0 = 2 → b.length - 24 ≤ i
theorem TLI.set {b O : List Int} (h : TLI b O) {k : Nat} (h1 : b.length - 24 ≤ k) : TLI b (O.set k 2) := ⟨by rw [List.length_set]; exact h.l,fun x hx => by
   rcases List.mem_or_eq_of_mem_set hx with hx | rfl
   · exact h.gv x hx
   · exact .inr (.inr rfl),fun i hi => by
   by_cases e : k = i
   · omega
   · rw [getD_set_ne e] at hi; exact h.t i hi⟩
theorem tail_cnt {b O : List Int} {over : Int} (h : TLI b O) (hl : b.length = 56 ∨ b.length = 112) (h0 : 0 ≤ over) (h1 : over ≤ 16777215) : cntE O over = 0 ∧ 0 ≤ cntN O over ∧ cntN O over ≤ 1 := by
 have hg : GOOD O over.toNat := ⟨h.gv,by rw [h.l]; omega,by omega⟩
 have hz := tail_one hg (fun i hi => by rw [h.l]; exact h.t i hi)
 have hw : wrnG O over = 0 := wrnG_of (gchk_of h.gv (by rw [h.l]; exact hl)) h0 h1
 unfold cntE cntN
 rw [hw,hz]
 refine ⟨?_,?_,?_⟩
 · rw [if_neg (by decide),if_neg (by omega)]
 · split
   · decide
   · decide
 · split
   · decide
   · decide
theorem tail_sol {b O : List Int} {over : Int} (h : TLI b O) (hl : b.length = 56 ∨ b.length = 112) (h0 : 0 ≤ over) (h1 : over ≤ 16777215) (ha : ∀ i,b.length - 24 ≤ i → i < b.length → O.getD i 0 = 2) :
   cntE O over = 0 ∧ cntN O over = 1 ∧ solE O over = 0 ∧ ∃ c,solR O over = [(some false,c)] ∧ ADRP c ∧ adrE c = 0 ∧ adrV c = over := by
 have hg : GOOD O over.toNat := ⟨h.gv,by rw [h.l]; omega,by omega⟩
 have hz := tail_one hg (fun i hi => by rw [h.l]; exact h.t i hi)
 have hw : wrnG O over = 0 := wrnG_of (gchk_of h.gv (by rw [h.l]; exact hl)) h0 h1
 have hi := tail_all hg (fun i h1 h2 => ha i (by rw [← h.l]; exact h1) (by rw [← h.l]; exact h2))
 have hs : solE O over = 0 := by unfold solE; rw [hw,hz,if_neg (by decide),if_neg (by omega)]
 have hl1 := hg.len
 rw [if_pos hi,hz] at hl1
 obtain ⟨c,hc⟩ : ∃ c,solG O over.toNat = [c] := by
   match hq : solG O over.toNat,hl1 with
   | [c],_ => exact ⟨c,rfl⟩
   | [],h => simp at h
   | _ :: _ :: _,h => simp at h
 have hm := hg.mem.1 (show c ∈ solG O over.toNat by rw [hc]; exact List.mem_singleton.2 rfl)
 obtain ⟨m1,m2,_,m4⟩ := hm
 have hcl : c.length = b.length := m2.trans h.l
 have hbt : bitsE c = 0 := by unfold bitsE; rw [if_neg (by omega),bigB_bit m1]; rfl
 have hae : adrE c = 0 := by unfold adrE; rw [if_neg (by rw [hbt]; decide),if_neg (by omega)]
 refine ⟨?_,?_,hs,c,by unfold solR; rw [if_pos hs,hc]; rfl,⟨by simp only [maxLen]; omega,fun y hy => by rcases m1 y hy with rfl | rfl <;> decide⟩,hae,?_⟩
 · unfold cntE; rw [hw,hz,if_neg (by decide),if_neg (by omega)]
 · unfold cntN; rw [hz,if_pos ⟨hw,hi,by decide⟩]; rfl
 · unfold adrV; rw [if_pos hae,m4]; omega
theorem lawTail (nb : Option Bool) (b : List Int) (np : Option Bool) (pl : List Int) (over : Int) (h : ADRP b) (hp : ADRP pl) (hp2 : ∀ x ∈ pl,x < 256) : PurS Try.prog 6 [injT (.sl tB) (nb,b),injT (.sl tB) (np,pl),injT tI over] (.sb true) := by
 refine PurS.of (S := [(11,_),(25,_),(13,_),(15,_)]) (T := [(26,_)]) (U := []) (tbl := []) (n := 146) hm11 cfg (.cons (spT0.ok cAwake) (.cons (spT1.ok (a := (.sl (.int .u8))) fun x0 h => cAddrP x0.1 x0.2 h) (.cons (spT2.ok (a := (.pair (.int .i64) (.sl (.int .u8)))) (b := (.int .i64)) fun x0 x1 h => cCountP x0.1 x0.2.1 x0.2.2 x1 h) (.cons (spT2.ok (a := (.pair (.int .i64) (.sl (.int .u8)))) (b := (.int .i64)) fun x0 x1 h => cSolveP x0.1 x0.2.1 x0.2.2 x1 h) .nil)))) (.cons cCpT .nil) .nil .nil 0 Try.call6 Try.func6 (ac6_ok (some (0,0))) (by rw [Try.ntmps6]; exact Nat.le_refl _) rfl ⟨_,rfl⟩ ?_
 intro cmp ar cv tn ic ai mx an ad ml sb mn ln em gt up ap sc vw cp rp p1 p2 s1 s2 X Y hX hY r0 r1 r2 r3 r4 r5 r6 r7 r8 r9 r10 r11 r12 r13 r14 r15 r16 r17 r18 r19 r20 r21 r22 r23 r24
 generalize hg0 : adrV = g0
 generalize hg1 : adrE = g1
 generalize hg2 : cntN = g2
 generalize hg3 : cntE = g3
 generalize hg4 : solR = g4
 generalize hg5 : solE = g5
 cbv
 have hla : ic (ln tB b) = b.length := by rw [r4,r12]
 have hlp : ic (ln tB pl) = pl.length := by rw [r4,r12]
 obtain ⟨N,hN⟩ : ∃ N : Int,N = b.length := ⟨_,rfl⟩
 obtain ⟨Q,hQ⟩ : ∃ N : Int,N = pl.length := ⟨_,rfl⟩
 rw [← hN] at hla
 rw [← hQ] at hlp
 rw [hla,hlp]
 dsimp only
 refine BR.neq r0 (fun h1 => BR.neq r0 (fun h2 => BR.tt rfl trivial) fun h2 => ?_) fun h1 => ?_
 all_goals
   have hl : b.length = 56 ∨ b.length = 112 := by omega
   refine BR.gtr r0 (fun _ => BR.tt rfl trivial) fun h3 => BR.lss r0 (fun _ => BR.tt rfl trivial) fun h4 => BR.gtr r0 (fun _ => BR.tt rfl trivial) fun h5 => BR.tt rfl ⟨h,BR.neq r0 (fun _ => BR.tt rfl trivial) fun he => ⟨⟨by omega⟩,?_⟩⟩
   have hbE : bitsE b = 0 := by
     have e : adrE b = 0 := by rw [hg1]; exact Classical.not_not.1 he
     unfold adrE at e
     split at e
     · omega
     · omega
   obtain ⟨hbt,_⟩ := bitsE_bit h.h0 hbE
   refine OWNK.mk (fun e => by rw [e] at hl; simp at hl) fun M _ hM => ?_
   cbv
   try simp only [nc_eq] at *
   have hMI : ic M = N := by rw [r4]; show (M : Int) = N; omega
   have ht0 : TLI b b := ⟨rfl,fun x hx => by rcases hbt x hx with rfl | rfl <;> simp,fun i hi => by rcases getD_bit hbt i with e | e <;> (rw [e] at hi; cases hi)⟩
   refine LOOP.ind (σ := Int × List Int) (fun (i,_) => [(0,.tl nb tB b),(1,.tl np tB pl),(2,.p (iv over)),(9,.ptr 1 0),(10,.p (iv i))]) (fun (_,O) => ⟨[{ cells := [.arr M tB O],e := 5,fz := false },{ cells := [.p (iv 0),.ms 0 0 1 none M],e := 24,fz := false }],[]⟩)
     (fun (i,_) => (Q - i).toNat) (fun (i,O) => 0 ≤ i ∧ i ≤ Q ∧ TLI b O) (0,b) ⟨by omega,by show (0 : Int) ≤ Q; omega,ht0⟩ (.inl ⟨rfl,rfl⟩) ?_
   intro ⟨i,O⟩ hI X' hX
   obtain ⟨hI1,hI2,hI3⟩ := hI
   have hOl : O.length = M := by rw [hI3.l]; omega
   obtain ⟨y,hy⟩ : ∃ y : Int,y = gt tB pl i := ⟨_,rfl⟩
   have hyb : i < Q → 0 ≤ y ∧ y < 256 := fun h => by
     have hm : y ∈ pl := by rw [hy,r14]; exact gtR_mem (t := tB) hI1 (by omega)
     exact ⟨hp.h0 y hm,hp2 y hm⟩
   obtain ⟨kk,hkk⟩ : ∃ kk : Int,kk = ar .sub .i64 (ar .sub .i64 N 1) (cv .i64 (ar .rem .u8 y 24)) := ⟨_,rfl⟩
   have hkb : i < Q → N - 24 ≤ kk ∧ kk < N := fun h => by
     obtain ⟨y0,y1⟩ := hyb h
     have e1 : ar .rem .u8 y 24 = y % 24 := by rw [r1]; show y.tmod 24 = _; rw [Int.tmod_eq_emod_of_nonneg y0]
     have e2 : cv .i64 (y % 24) = y % 24 := by rw [r2]; exact wrap64 (n := y % 24) (by omega) (by omega)
     rw [hkk,e1,e2,r1]
     have e3 : arR .sub .i64 N 1 = N - 1 := wrap64 (n := N - 1) (by omega) (by omega)
     rw [e3]
     have e4 : arR .sub .i64 (N - 1) (y % 24) = N - 1 - y % 24 := wrap64 (n := N - 1 - y % 24) (by omega) (by omega)
     rw [e4]; omega
   have hadd : i < Q → ar .add .i64 i 1 = i + 1 := fun h => by rw [r1]; exact wrap64 (n := i + 1) (by omega) (by omega)
   have hup : up tB M O kk 2 = O.set kk.toNat 2 := by rw [r15]; unfold upR; rw [Ty.norm_eq tB hOl]
   have hvO : vw tB M O 0 M = O := by rw [r18]; exact vw_all (t := tB) hOl
   have had : ad 0 M = M := by rw [r8]; exact Nat.zero_add M
   obtain ⟨c1',c2',c3'⟩ := tail_cnt hI3 hl (over := over) (by omega) (by omega)
   rw [hg3] at c1'
   rw [hg2] at c2' c3'
   have harg : ARG O := ⟨by simp only [maxLen]; omega,fun z hz => by have := hI3.gv z hz; omega⟩
   have hsub : ar .sub .i64 N 24 = N - 24 := by rw [r1]; exact wrap64 (n := N - 24) (by omega) (by omega)
   cbv
   try simp only [nc_eq] at *
   rw [hlp,hla,hMI,← hy,← hkk,hvO,had]
   refine BR.lss r0 (fun hc => ?_) fun hc => ?_
   · obtain ⟨k1,k2⟩ := hkb hc
     have hi1 : INB i Q := ⟨hI1,hc⟩
     have hi2 : INB kk N := ⟨by omega,k2⟩
     rw [hadd hc,hup]
     exact ⟨hi1,hi1,⟨by decide⟩,hi2,hi2,NEXT.mk (hX (i + 1,O.set kk.toNat 2) _ _ ⟨by omega,by omega,hI3.set (by omega)⟩ (by show (Q - (i + 1)).toNat < (Q - i).toNat; omega) (.inl ⟨rfl,rfl⟩))⟩
   · refine ⟨⟨⟨⟨Nat.le_refl _⟩,trivial⟩,trivial⟩,harg,BR.neqF r0 c1' ?_⟩
     rw [hsub]
     obtain ⟨n0,hn0⟩ : ∃ n0,n0 = g2 O over := ⟨_,rfl⟩
     rw [← hn0] at c2' c3' ⊢
     clear hX hkb hkk hyb hy hadd hup hvO c1' harg
     refine LOOP.ind (σ := Int × List Int) (fun (i,_) => [(0,.tl nb tB b),(2,.p (iv over)),(9,.ptr 1 0),(11,.p (iv n0)),(13,.p (iv i))]) (fun (_,O) => ⟨[{ cells := [.arr M tB O],e := 5,fz := false },{ cells := [.p (iv 0),.ms 0 0 1 none M],e := 24,fz := false }],[]⟩)
       (fun (i,_) => (N - i).toNat) (fun (i,O) => N - 24 ≤ i ∧ i ≤ N ∧ TLI b O ∧ ∀ j : Nat,N - 24 ≤ j → (j : Int) < i → O.getD j 0 = 2) (N - 24,O) ⟨Int.le_refl _,by show N - 24 ≤ N; omega,hI3,fun j h1 h2 => absurd h2 (Int.not_lt.2 h1)⟩ (.inl ⟨rfl,rfl⟩) ?_
     intro ⟨k,U⟩ hJ X2 hY
     obtain ⟨hJ1,hJ2,hJ3,hJ4⟩ := hJ
     have hUl : U.length = M := by rw [hJ3.l]; omega
     have haddk : k < N → ar .add .i64 k 1 = k + 1 := fun h => by rw [r1]; exact wrap64 (n := k + 1) (by omega) (by omega)
     have hup : up tB M U k 2 = U.set k.toNat 2 := by rw [r15]; unfold upR; rw [Ty.norm_eq tB hUl]
     have hvU : vw tB M U 0 M = U := by rw [r18]; exact vw_all (t := tB) hUl
     have hargU : ARG U := ⟨by simp only [maxLen]; omega,fun z hz => by have := hJ3.gv z hz; omega⟩
     have hfin : ¬ k < N → g3 U over = 0 ∧ g2 U over = 1 ∧ g5 U over = 0 ∧ ∃ c,g4 U over = [(some false,c)] ∧ ADRP c ∧ g1 c = 0 ∧ g0 c = over := fun h => by
       have := tail_sol hJ3 hl (over := over) (by omega) (by omega) (fun j h1 h2 => hJ4 j (by omega) (by omega))
       rw [hg3,hg2,hg5,hg4,hg1,hg0] at this
       exact this
     have hnext : k < N → ∀ j : Nat,N - 24 ≤ j → (j : Int) < k + 1 → (U.set k.toNat 2).getD j 0 = 2 := fun h j h1 h2 => by
       by_cases e : k.toNat = j
       · subst e; exact getD_set_eq (by omega) 2
       · rw [getD_set_ne e]; exact hJ4 j h1 (by omega)
     have l1 : ∀ c : List Int,ic (ln tTr [(some false,c)]) = 1 := fun c => by rw [r4,r12]; rfl
     have g1' : ∀ c : List Int,gt tTr [(some false,c)] 0 = (some false,c) := fun c => by rw [r14]; rfl
     have s1' : ∀ c : List Int,s2 tB (some false,c) = c := fun c => by rw [r24]
     have i1 : INB 0 1 := ⟨by decide,by decide⟩
     cbv
     try simp only [nc_eq] at *
     rw [hla,hMI,hvU,had]
     refine BR.lss r0 (fun hck => ?_) fun hck => ?_
     · have hi2 : INB k N := ⟨by omega,hck⟩
       rw [haddk hck,hup]
       exact ⟨hi2,hi2,NEXT.mk (hY (k + 1,U.set k.toNat 2) _ _ ⟨by omega,by omega,hJ3.set (by omega),hnext hck⟩ (by show (N - (k + 1)).toNat < (N - k).toNat; omega) (.inl ⟨rfl,rfl⟩))⟩
     · obtain ⟨q1,q2,q3,c,q4,q5,q6,q7⟩ := hfin hck
       rw [q4,l1,g1',s1']
       exact ⟨⟨⟨⟨Nat.le_refl _⟩,trivial⟩,trivial⟩,hargU,⟨Nat.le_refl _⟩,hargU,BR.lss r0 (fun h => absurd h (by omega)) fun _ => BR.gtr r0 (fun h => absurd h (by omega)) fun _ => BR.neqF r0 q1 (BR.neqF r0 q2 (BR.neqF r0 q3 (BR.neqF r0 rfl ⟨i1,i1,q5,BR.eqlT r0 q6 (BR.eqlT r0 q7 trivial)⟩)))⟩
theorem wf_adr {l : (Ty.sl tB).den} (h : wfT (.sl tB) l) : ADRP l.2 := ⟨h.1,fun y hy => (wf_u8 (h.2.2 y hy)).1⟩
theorem wf_256 {l : (Ty.sl tB).den} (h : wfT (.sl tB) l) : ∀ x ∈ l.2,x < 256 := fun y hy => by have := (wf_u8 (h.2.2 y hy)).2; omega
theorem tail_typed : ∀ xs,TyVs Try.prog [40,22,3] xs → PurFn Try.prog 6 (xs.map .p) (.v (.bool true)) := law3 (P := Try.prog) (f := 6) (t1 := 40) (t2 := 22) (t3 := 3) (T1 := .sl tB) (T2 := .sl tB) (T3 := tI) (by kernel_rfl) fun b p o hb hp ho => lawTail b.1 b.2 p.1 p.2 o (wf_adr hb) (wf_adr hp) (wf_256 hp)
end Go.Ab
