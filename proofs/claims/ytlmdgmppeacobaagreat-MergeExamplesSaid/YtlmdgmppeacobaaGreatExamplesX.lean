/- The two lists with no costs, too many, wrong and unsorted values give the same errors from Sum, Worst and Best; Bound and Join give the errors that their texts name, and the bounds of the example. No conditions. -/
import Derived.Test.YtlmdgmppeacobaaGreatRows
import Derived.WalkKit
import Derived.ProofKit
import Derived.OpenShut
import Derived.Test.YtlmdgmppeacobaaGreatLX
namespace Go.Proofs.YtlmdgmppeacobaaGreat.mergeExamples
open Go.ChangeShapes Go.WideShapes Go.ChangeAt Go.RowKit

theorem own : ownKnob Tryz.prog.godebug = none := by kernel_rfl
theorem kids : Kids Tryz.prog (· < Tryz.prog.types.size) := kids_rows (by kernel_rfl) (by kernel_rfl)
theorem sizes : ((List.range Tryz.prog.types.size).all fun t => match Tryz.prog.underlying t with | some (.slice e) => Nat.blt 0 (Tryz.prog.cellsOf e) | _ => true) = true := by kernel_rfl
theorem slices : ∀ t e, t < Tryz.prog.types.size → Tryz.prog.underlying t = some (.slice e) → 0 < Tryz.prog.cellsOf e := fun t e ht he => by
  have h := List.all_eq_true.1 sizes t (List.mem_range.2 ht)
  rw [he] at h
  simpa [Nat.blt_eq] using h
theorem known : (Tryz.f5.params.toList.all fun t => Nat.blt t Tryz.prog.types.size) = true := by kernel_rfl

/-! ### The row's step -/
set_option maxRecDepth 100000 in
theorem lifted (os : Os) (started : os.Started) (H : Type) (enc : TypeId × Value → H) :
    ReturnsInHanded {} Tryz.checked os 5 .any (Rows.mergeExamplesSpec.pre6 enc Tryz.prog Tryz.f5 Rows.mergeExamplesRow.domain false) (Rows.mergeExamplesSpec.post enc Tryz.prog Tryz.f5 false true false false) := by
  refine returnsInHanded_of_change (C := Tryz.checked) own started (by kernel_rfl) Tryz.func5
    (ChangeSpec.witness6 (enc := enc) (C := Tryz.checked) false ⟨#[], #[], []⟩ 8 (by kernel_rfl) (by kernel_rfl) (by kernel_rfl) (by kernel_rfl)) ?_
  intro W base args ds gs before hval hW hcnd _
  refine Go.Ab.PurFn.law kids slices (fun xs hx => ?_) (fun t ht => by simpa [Nat.blt_eq] using List.all_eq_true.1 known t ht) (t := 4) (by kernel_rfl) Tryz.underlying4 rfl (fun ds hl => ?_) hval hW (Go.Ab.GLB.triv fun _ => rfl)
  · rw [Tryz.params5] at hx
    exact Go.Ab.mex_typed xs hx
  · rw [Tryz.params5] at hl
    match ds, hl with
    | [], _ => rfl

theorem over : Rows.mergeExamplesRow.holds Tryz.pinned (OpenSpec.ofChange Rows.mergeExamplesSpec) :=
  OpenClaim.holds_of_wide 5 Tryz.f5 rfl rfl rfl rfl rfl rfl rfl ⟨rfl, rfl, rfl, rfl, rfl⟩ rfl rfl rfl rfl rfl (by kernel_rfl) Tryz.func5 (by kernel_rfl)
    (of_decide_eq_true (by kernel_rfl)) (by unfold Func.isWrapper; first | (rw [if_pos (by decide +kernel)]; kernel_rfl) | (rw [if_neg (by decide +kernel)]; exact ⟨rfl, rfl⟩))
    (fun os started H enc _ => lifted os started H enc)

/-- The statement. -/
theorem proved : Rows.MergeExamplesSaid :=
  over
#print axioms proved
end Go.Proofs.YtlmdgmppeacobaaGreat.mergeExamples
