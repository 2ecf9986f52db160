/- Reading a merged train at the slot of any message in it, whose slots all lie in the sweep, gives each bit of this message, or 2; and a train alone is read without garbled bits. No conditions; the preamble's slots as the program's text lays them. -/
import Derived.Test.YtnfimkmjjjbopaaDoorCards
import Derived.Test.YtnfimkmjjjbopaaDoorTie
import Derived.SevenTiedAt
import Derived.Lib.LaidTab
import Derived.LaidHandle
import Derived.LaidLaws
import Derived.MakeChecks
import Derived.Lay
import Derived.WalkKit
import Derived.ProofKit
import Derived.OpenShut
import Derived.Test.YtnfimkmjjjbopaaDoorLv
namespace Go.Proofs.YtnfimkmjjjbopaaDoor.pulseReads
open Go.ChangeShapes Go.WideShapes Go.ChangeAt Go.RowKit

theorem own : ownKnob Tryd.prog.godebug = none := by kernel_rfl
theorem kids : Kids Tryd.prog (· < Tryd.prog.types.size) := kids_rows (by kernel_rfl) (by kernel_rfl)
theorem sizes : ((List.range Tryd.prog.types.size).all fun t => match Tryd.prog.underlying t with | some (.slice e) => Nat.blt 0 (Tryd.prog.cellsOf e) | _ => true) = true := by kernel_rfl
theorem slices : ∀ t e, t < Tryd.prog.types.size → Tryd.prog.underlying t = some (.slice e) → 0 < Tryd.prog.cellsOf e := fun t e ht he => by
  have h := List.all_eq_true.1 sizes t (List.mem_range.2 ht)
  rw [he] at h
  simpa [Nat.blt_eq] using h
theorem known : (Tryd.f5.params.toList.all fun t => Nat.blt t Tryd.prog.types.size) = true := by kernel_rfl

/-! ### The listed variable -/
def listed : List (String × DataW Unit) := [("clearway/pulse.preamble", Rows.laid_clearway_pulse_preamble)]
theorem glob {W : World} (h : laidMetH Tryd.prog listed W) : Go.Ab.GLB (Go.Ab.memOf W) := by
  have h1 : laidMet Tryd.prog [("clearway/pulse.preamble", Lib.tabData .i64 [0, 2, 7, 9])] W := by
    rw [Go.MakeChecks.laidMetH_plain _ _ _ (by kernel_rfl)] at h; exact h
  have hT := Lib.tabIs_of_head (g := 0) (t := 64) (e := 3) (n := 4) (by kernel_rfl) (by kernel_rfl) (by kernel_rfl) (by kernel_rfl) (by kernel_rfl) (by kernel_rfl) h1
  have hc := fun i hi => hT.cell (g := 0) (by kernel_rfl) i hi
  intro g i hi
  match g with
  | 0 =>
    have hm : ∀ j z, W.cell? ⟨0, j, none⟩ = some (.int .i64 z) → Go.Ab.memOf W 0 j = some (.int .i64 z) := fun j z e => by
      unfold Go.Ab.memOf; rw [e]; rfl
    match i, hi with
    | 0, _ => exact ⟨_, hm _ _ (hc 0 (by decide)), .v _⟩
    | 1, _ => exact ⟨_, hm _ _ (hc 1 (by decide)), .v _⟩
    | 2, _ => exact ⟨_, hm _ _ (hc 2 (by decide)), .v _⟩
    | 3, _ => exact ⟨_, hm _ _ (hc 3 (by decide)), .v _⟩
  | g + 1 => exact absurd hi (Nat.not_lt_zero _)

/-! ### The row's step -/
set_option maxRecDepth 100000 in
theorem lifted (os : Os) (started : os.Started) (H : Type) (enc : TypeId × Value → H) :
    ReturnsInHanded {} Tryd.checked os 5 .any (fun w args => (Rows.pulseReadsSpec.pre enc Tryd.prog Tryd.f5 Rows.pulseReadsRow.domain false w args ∧ laidMetH Tryd.prog listed w) ∧ sizedMet enc Tryd.prog Tryd.f5 (OpenSpec.ofChange Rows.pulseReadsSpec) false w args)
      (Rows.pulseReadsSpec.post enc Tryd.prog Tryd.f5 false true false false) := by
  refine returnsInHanded_of_change_and (C := Tryd.checked) (X := fun w _ => laidMetH Tryd.prog listed w) (fun _ _ _ hh h => h.of_heap hh) own started (by kernel_rfl) Tryd.func5
    (ChangeSpec.witness_shaped (enc := enc) (C := Tryd.checked) (os := os) (X := fun w _ => laidMetH Tryd.prog listed w) false (World.laidAll Tryd.prog os listed) #[.slice none 0 0, .slice none 0 0] 8 (World.laidAll_os _ _ _) (World.shaped_of_ZipB (by kernel_rfl) (by kernel_rfl)) (by kernel_rfl) (by kernel_rfl) (by kernel_rfl)
      (by rw [Go.MakeChecks.laidMetH_plain _ _ _ (by kernel_rfl)]; exact laidMet_laidAll _ (by kernel_rfl) (by kernel_rfl))) ?_
  intro W base args ds gs before hval hW _ _ hL _
  refine Go.Ab.PurFn.law kids slices (fun xs hx => ?_) (fun t ht => by simpa [Nat.blt_eq] using List.all_eq_true.1 known t ht) (t := 4) (by kernel_rfl) Tryd.underlying4 rfl (fun ds hl => ?_) hval hW (glob hL)
  · rw [Tryd.params5] at hx
    exact Go.Ab.reads_typed xs hx
  · rw [Tryd.params5] at hl
    match ds, hl with
    | [a0, a1], _ => rfl

theorem over : Rows.pulseReadsRow.holds Tryd.pinned (OpenSpec.ofChange Rows.pulseReadsSpec) :=
  OpenClaim.holds_of_wide 5 Tryd.f5 rfl rfl rfl rfl rfl rfl rfl ⟨rfl, rfl, rfl, rfl, rfl⟩ rfl rfl rfl rfl rfl (by kernel_rfl) Tryd.func5 (by kernel_rfl)
    (of_decide_eq_true (by kernel_rfl)) (by unfold Func.isWrapper; first | (rw [if_pos (by decide +kernel)]; kernel_rfl) | (rw [if_neg (by decide +kernel)]; exact ⟨rfl, rfl⟩))
    (fun os started H enc _ => lifted os started H enc)

theorem plain : (Tryd.f5.params.toList.all fun t => !Tryd.prog.wantsStandIn t) = true := by kernel_rfl
/-- The statement: the tied card. -/
theorem proved : Rows.PulseReadsCardSaid :=
  Claim7.holds_tied_plain_at .later [] [.widerDeep] true (true, "4ca176473eeb67a0935b4643f3b716543bdbf1eca877c64afd0580797fc782f4") false
    over (fun _ h => by cases h) (by kernel_rfl) (fun _ h => by cases h) pulseReads_row_tie rfl ⟨rfl, rfl⟩ (by kernel_rfl) rfl
    (fun f fn hf hfn => by
      obtain rfl : f = 5 := Option.some.inj ((show Tryd.prog.funcNamed "clearway/clearwaylaw10.PulseReads" = some 5 by kernel_rfl).symm.trans hf) |>.symm
      obtain rfl : fn = Tryd.f5 := (Option.some.inj (Tryd.func5.symm.trans hfn)).symm
      exact ⟨by kernel_rfl, fun j t ht => by
        have h := List.all_eq_true.1 plain t (List.mem_of_getElem? (i := j) (by first | (simp at ht; done) | simpa using ht))
        exact (by simpa using h : Tryd.prog.wantsStandIn t = false)⟩)
    (by kernel_rfl)
#print axioms proved
end Go.Proofs.YtnfimkmjjjbopaaDoor.pulseReads
