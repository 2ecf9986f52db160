/- maps.Clone, slices.Sorted(maps.Keys): what the row holds of them; closed runs. -/
import Derived.Test.YtbjehpjlpckbfaaCod3
import Derived.Shelf.Lay
import Derived.Shelf.SortM.Plain
import Derived.Shelf.SortM.SortNone
import Derived.Ground.SlmcProg
import Derived.Ground.GgzProg
import Derived.Ground.SlgmProg
set_option maxRecDepth 100000
set_option linter.unusedVariables false
namespace Go.Proofs
open Go.Shelf Go.RowKit Go.Lib Go.Sort Go.Maps Go.Ab
shelf_lay_g SlLaysW.n5 Slmc 5 at Try 67 as Try.cloneL
shelf_lay_g SlLaysZI.n7 Ggz 7 at Try 45 as Try.keysL
shelf_lay_g SlLaysZI.n6 Ggz 6 at Try 44 as Try.sortedL
shelf_lay_g SlLaysM.n5 Slgm 5 at Try 61 as Try.sortL
theorem Try.sortsL (m : Nat) : AnyZI.SortsIn Try.prog Try.sortedL_ren Fence.wide m :=
 ⟨fun blk off cap ss W hH hblk hsz => callsIn_wide.2 (AnyM.slices_Sort_int Try.sortL blk off cap ss W hH hblk hsz),
  fun p cap W => callsIn_wide.2 (AnyM.slices_Sort_int_none Try.sortL p cap W)⟩
theorem Try.sortedAt : SortedAt Try.prog 44 62 3 3 := by
 intro b nn D0 R w bx hown hmax hbytes hcell hbx
 refine (callsIn_wide (n := 5)).1 ?_
 have hseq : SeqGives Fence.wide 2 Try.prog 62 #[.pointer (some ⟨bx, 0, none⟩)] encZ (fun ss => ss.Perm (intKeys D0)) (Maps.size D0) w :=
   AnyZI.keys_gives (ρ := Try.keysL_ren) { Try.keysL with } Fence.wide _ trivial rfl (by omega) bx b nn D0 _ hbx hcell hown
 have cS := AnyZI.sorted_in Try.sortedL Fence.wide 5 trivial trivial trivial trivial rfl (by omega) (Try.sortsL _) (enters_of Try.func61 (by kernel_rfl) rfl) 62 #[.pointer (some ⟨bx, 0, none⟩)] trivial (enters_of Try.func62 (by kernel_rfl) rfl) _ _ hmax hbytes _ hseq
 change CallsIn _ _ Try.prog 44 _ _ _ at cS
 refine cS.mono ?_
 rintro e w' ⟨v, ss, rfl, hS, hrow, hnil, hb⟩
 exact ⟨v, ss, rfl, hS, hrow, hb⟩
end Go.Proofs
namespace Go.Ab
open Go.Proofs Go.RowKit
abbrev tLock : Ty := .pair (.int .i64) (.pair (.int .u8) (.pair (.int .i64) (.int .i64)))
abbrev tLE : Ty := tEnt .i64 tLock
theorem cCloneD {st : St} {i : Nat} {B : Box} (hB : st.box[i]? = some B) (hm : B.m = true) (hap : B.ap = false) (he : B.e = 6) {K : D → St → Prop} (hK : K (.mref st.box.length) { st with box := st.box ++ [B] }) :
   FnC Try.prog 67 [.mref i] st K :=
 FnC.clone (kk := 0) (vv := 5) Try.call67 (fun b es clock w hb => AnyW.maps_Clone Try.cloneL b es clock w hb) hB hm hap he (by decide) hK
theorem cSortedD {st : St} {i j : Nat} {B C : Box} {l : List tLE.den} {c : Int} (hC : st.box[j]? = some C) (hCf : C.fz = false) (hCc : C.cells = [.mref i])
   (hB : st.box[i]? = some B) (hm : B.m = true) (he : B.e = 6) (hcells : B.cells = .p (.v (.int .i64 c)) :: (tLE.rows l).map .p)
   (hl : l.length ≤ 1000000) (hok : MOK l c) (hc0 : 0 ≤ c) (hin : ∀ e ∈ l, -9223372036854775808 ≤ e.1 ∧ e.1 ≤ 9223372036854775807) {K : D → St → Prop}
   (hK : K (.p (.sl none l.length (((l.map fun e => (e.1 : Int)).mergeSort fun x y => decide (x ≤ y)).map fun k => .v (.int .i64 k)))) st) :
   FnC Try.prog 44 [.fn (.func 62) [] [.ptr j 0]] st K :=
 FnC.sorted (vv := 5) (tv := tLock) Try.call44 Try.sortedAt (by kernel_rfl) hC hCf hCc hB hm he (by decide) rfl hcells hl hok hc0 hin hK
noncomputable def k67 : List D → St → (D → St → Bool) → Bool := fun ds st K => match ds with
 | [.mref i] => (match bnth st.box i with
   | some B => B.m && !B.ap && Nat.beq B.e 6 && fNat st.box.length fun n => fApp st.box [B] fun bs => K (.mref n) { st with box := bs }
   | none => false)
 | _ => false
noncomputable def k44 : List D → St → (D → St → Bool) → Bool := fun ds st K => match ds with
 | [.fn (.func f) [] [.ptr j 0]] => Nat.beq f 62 && (match bnth st.box j with
   | some C => !C.fz && (match C.cells with
     | [.mref i] => (match bnth st.box i with
       | some B => B.m && Nat.beq B.e 6 && (match B.cells with
         | [.p (.v (.int .i64 c))] => decide (0 ≤ c) && K (.p (.sl none 0 [])) st
         | [.p (.v (.int .i64 c)), .p (.v (.int .i64 k)), .p (.v (.int .i64 a)), .p (.v (.int .u8 s)), .p (.v (.int .i64 m)), .p (.v (.int .i64 u)), .p (.v (.int .i64 b))] =>
           decide (0 ≤ c ∧ 0 ≤ b ∧ b < c ∧ -9223372036854775808 ≤ k ∧ k ≤ 9223372036854775807) && K (.p (.sl none 1 [.v (.int .i64 k)])) st
         | _ => false)
       | none => false)
     | _ => false)
   | none => false)
 | _ => false
theorem k67_ok : ∀ ds st K, k67 ds st K = true → FnC Try.prog 67 ds st fun d st => K d st = true := fun ds st K h => by
 unfold k67 at h
 split at h
 · split at h
   · rename_i i _ B hB
     simp only [Bool.and_eq_true, Bool.not_eq_true', Nat.beq_eq, fNat_eq, fApp_eq] at h
     rw [bnth_eq] at hB
     exact cCloneD hB h.1.1.1 h.1.1.2 h.1.2 h.2
   · cases h
 · cases h
theorem k67_lin : ∀ ds st K, k67 ds st K = true → ∃ d st', K d st' = true ∧ ∀ K' : D → St → Bool, K' d st' = true → k67 ds st K' = true := fun ds st K h => by
 unfold k67 at h ⊢
 split at h
 · split at h
   · simp only [Bool.and_eq_true, fNat_eq, fApp_eq] at h ⊢
     exact ⟨_, _, h.2, fun K' hk => ⟨h.1, hk⟩⟩
   · cases h
 · cases h
theorem k44_ok : ∀ ds st K, k44 ds st K = true → FnC Try.prog 44 ds st fun d st => K d st = true := fun ds st K h => by
 unfold k44 at h
 split at h
 · rename_i f j
   simp only [Bool.and_eq_true, Nat.beq_eq] at h
   obtain ⟨rfl, h⟩ := h
   split at h
   · rename_i C hC
     simp only [Bool.and_eq_true, Bool.not_eq_true'] at h
     obtain ⟨hCf, h⟩ := h
     split at h
     · rename_i i hCc
       split at h
       · rename_i B hB
         simp only [Bool.and_eq_true, Nat.beq_eq] at h
         obtain ⟨⟨hm, he⟩, h⟩ := h
         rw [bnth_eq] at hB hC
         split at h
         · rename_i c hc
           simp only [Bool.and_eq_true, decide_eq_true_eq] at h
           refine cSortedD (l := []) (c := c) hC hCf hCc hB hm he (by rw [hc]; rfl) (by decide) ⟨by simp, by simp, by simp⟩ h.1 (by simp) ?_
           simpa using h.2
         · rename_i c k a s m u b hc
           simp only [Bool.and_eq_true, decide_eq_true_eq] at h
           obtain ⟨⟨h1, h2, h3, h4, h5⟩, h⟩ := h
           refine cSortedD (l := [((k, (a, s, m, u), b) : tLE.den)]) (c := c) hC hCf hCc hB hm he (by rw [hc]; rfl) (by simp) ⟨fun e he => ?_, by simp, by simp⟩ h1 (fun e he => ?_) ?_
           · obtain rfl := List.mem_singleton.1 he; exact ⟨h2, h3⟩
           · obtain rfl := List.mem_singleton.1 he; exact ⟨h4, h5⟩
           · simpa using h
         · cases h
       · cases h
     · cases h
   · cases h
 · cases h
theorem k44_lin : ∀ ds st K, k44 ds st K = true → ∃ d st', K d st' = true ∧ ∀ K' : D → St → Bool, K' d st' = true → k44 ds st K' = true := fun ds st K h => by
 unfold k44 at h ⊢
 split at h
 · simp only [Bool.and_eq_true] at h ⊢
   obtain ⟨h0, h⟩ := h
   split at h
   · simp only [Bool.and_eq_true] at h ⊢
     obtain ⟨h1, h⟩ := h
     split at h
     · split at h
       · simp only [Bool.and_eq_true] at h ⊢
         obtain ⟨h2, h⟩ := h
         split at h
         · simp only [Bool.and_eq_true] at h ⊢
           exact ⟨_, _, h.2, fun K' hk => ⟨h0, h1, h2, h.1, hk⟩⟩
         · simp only [Bool.and_eq_true] at h ⊢
           exact ⟨_, _, h.2, fun K' hk => ⟨h0, h1, h2, h.1, hk⟩⟩
         · cases h
       · cases h
     · cases h
   · cases h
 · cases h
noncomputable def ks32 : KnS := ksCons 67 k67 (ksCons 44 k44 fun _ => none)
theorem ks32_ok : KnSOK Try.prog ks32 := .cons k67_ok k67_lin (.cons k44_ok k44_lin .nil)
end Go.Ab
