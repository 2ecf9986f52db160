/- The order of the threats changes neither the sums nor the greatest costs nor the best advisory; a threat that is given twice changes neither the greatest costs nor the overlap nor the joined advisory. No conditions. -/
import Derived.Test.YtlmdgmppeacobaaGreatRows
import Derived.WalkKit
import Derived.ProofKit
import Derived.OpenShut
import Derived.Test.YtlmdgmppeacobaaGreatL2
namespace Go.Proofs.YtlmdgmppeacobaaGreat.mergeTurned
open Go.ChangeShapes Go.WideShapes Go.ChangeAt Go.RowKit

theorem own : ownKnob Tryz.prog.godebug = none := by kernel_rfl
theorem kids : Kids Tryz.prog (· < Tryz.prog.types.size) := kids_rows (by kernel_rfl) (by kernel_rfl)
theorem sizes : ((List.range Tryz.prog.types.size).all fun t => match Tryz.prog.underlying t with | some (.slice e) => Nat.blt 0 (Tryz.prog.cellsOf e) | _ => true) = true := by kernel_rfl
theorem slices : ∀ t e, t < Tryz.prog.types.size → Tryz.prog.underlying t = some (.slice e) → 0 < Tryz.prog.cellsOf e := fun t e ht he => by
  have h := List.all_eq_true.1 sizes t (List.mem_range.2 ht)
  rw [he] at h
  simpa [Nat.blt_eq] using h
theorem known : (Tryz.f6.params.toList.all fun t => Nat.blt t Tryz.prog.types.size) = true := by kernel_rfl

/-! ### The row's step -/
set_option maxRecDepth 100000 in
theorem lifted (os : Os) (started : os.Started) (H : Type) (enc : TypeId × Value → H) :
    ReturnsInHanded {} Tryz.checked os 6 .any (Rows.mergeTurnedSpec.pre6 enc Tryz.prog Tryz.f6 Rows.mergeTurnedRow.domain false) (Rows.mergeTurnedSpec.post enc Tryz.prog Tryz.f6 false true false false) := by
  refine returnsInHanded_of_change (C := Tryz.checked) own started (by kernel_rfl) Tryz.func6
    (ChangeSpec.witness6 (enc := enc) (C := Tryz.checked) false ⟨#[], #[.slice none 0 0, .slice none 0 0, .agg #[.slice none 0 0, .slice none 0 0, .int .u8 0]], []⟩ 8 (by kernel_rfl) (by kernel_rfl) (by kernel_rfl) (by kernel_rfl)) ?_
  intro W base args ds gs before hval hW hcnd _
  refine Go.Ab.PurFn.law kids slices (fun xs hx => ?_) (fun t ht => by simpa [Nat.blt_eq] using List.all_eq_true.1 known t ht) (t := 4) (by kernel_rfl) Tryz.underlying4 rfl (fun ds hl => ?_) hval hW (Go.Ab.GLB.triv fun _ => rfl)
  · rw [Tryz.params6] at hx
    exact Go.Ab.turned_typed xs hx
  · rw [Tryz.params6] at hl
    match ds, hl with
    | [a0, a1, a2], _ => rfl

theorem over : Rows.mergeTurnedRow.holds Tryz.pinned (OpenSpec.ofChange Rows.mergeTurnedSpec) :=
  OpenClaim.holds_of_wide 6 Tryz.f6 rfl rfl rfl rfl rfl rfl rfl ⟨rfl, rfl, rfl, rfl, rfl⟩ rfl rfl rfl rfl rfl (by kernel_rfl) Tryz.func6 (by kernel_rfl)
    (of_decide_eq_true (by kernel_rfl)) (by unfold Func.isWrapper; first | (rw [if_pos (by decide +kernel)]; kernel_rfl) | (rw [if_neg (by decide +kernel)]; exact ⟨rfl, rfl⟩))
    (fun os started H enc _ => lifted os started H enc)

/-- The statement. -/
theorem proved : Rows.MergeTurnedSaid :=
  over
#print axioms proved
end Go.Proofs.YtlmdgmppeacobaaGreat.mergeTurned
