/- Best never returns an advisory if an allowed one costs no more for every threat and less for some; the greatest cost of the returned one is the least greatest cost among the allowed ones. No conditions. -/
import Derived.Test.YtlmdgmppeacobaaGreatRows
import Derived.WalkKit
import Derived.ProofKit
import Derived.OpenShut
import Derived.Test.YtlmdgmppeacobaaGreatLU
namespace Go.Proofs.YtlmdgmppeacobaaGreat.mergeDominates
open Go.ChangeShapes Go.WideShapes Go.ChangeAt Go.RowKit

theorem own : ownKnob Tryz.prog.godebug = none := by kernel_rfl
theorem kids : Kids Tryz.prog (· < Tryz.prog.types.size) := kids_rows (by kernel_rfl) (by kernel_rfl)
theorem sizes : ((List.range Tryz.prog.types.size).all fun t => match Tryz.prog.underlying t with | some (.slice e) => Nat.blt 0 (Tryz.prog.cellsOf e) | _ => true) = true := by kernel_rfl
theorem slices : ∀ t e, t < Tryz.prog.types.size → Tryz.prog.underlying t = some (.slice e) → 0 < Tryz.prog.cellsOf e := fun t e ht he => by
  have h := List.all_eq_true.1 sizes t (List.mem_range.2 ht)
  rw [he] at h
  simpa [Nat.blt_eq] using h
theorem known : (Tryz.f8.params.toList.all fun t => Nat.blt t Tryz.prog.types.size) = true := by kernel_rfl

/-! ### The row's step -/
set_option maxRecDepth 100000 in
theorem lifted (os : Os) (started : os.Started) (H : Type) (enc : TypeId × Value → H) :
    ReturnsInHanded {} Tryz.checked os 8 .any (Rows.mergeDominatesSpec.pre6 enc Tryz.prog Tryz.f8 Rows.mergeDominatesRow.domain false) (Rows.mergeDominatesSpec.post enc Tryz.prog Tryz.f8 false true false false) := by
  refine returnsInHanded_of_change (C := Tryz.checked) own started (by kernel_rfl) Tryz.func8
    (ChangeSpec.witness6 (enc := enc) (C := Tryz.checked) false ⟨#[], #[.slice none 0 0, .slice none 0 0], []⟩ 8 (by kernel_rfl) (by kernel_rfl) (by kernel_rfl) (by kernel_rfl)) ?_
  intro W base args ds gs before hval hW hcnd _
  refine Go.Ab.PurFn.law kids slices (fun xs hx => ?_) (fun t ht => by simpa [Nat.blt_eq] using List.all_eq_true.1 known t ht) (t := 4) (by kernel_rfl) Tryz.underlying4 rfl (fun ds hl => ?_) hval hW (Go.Ab.GLB.triv fun _ => rfl)
  · rw [Tryz.params8] at hx
    exact Go.Ab.dom_typed xs hx
  · rw [Tryz.params8] at hl
    match ds, hl with
    | [a0, a1], _ => rfl

theorem over : Rows.mergeDominatesRow.holds Tryz.pinned (OpenSpec.ofChange Rows.mergeDominatesSpec) :=
  OpenClaim.holds_of_wide 8 Tryz.f8 rfl rfl rfl rfl rfl rfl rfl ⟨rfl, rfl, rfl, rfl, rfl⟩ rfl rfl rfl rfl rfl (by kernel_rfl) Tryz.func8 (by kernel_rfl)
    (of_decide_eq_true (by kernel_rfl)) (by unfold Func.isWrapper; first | (rw [if_pos (by decide +kernel)]; kernel_rfl) | (rw [if_neg (by decide +kernel)]; exact ⟨rfl, rfl⟩))
    (fun os started H enc _ => lifted os started H enc)

/-- The statement. -/
theorem proved : Rows.MergeDominatesSaid :=
  over
#print axioms proved
end Go.Proofs.YtlmdgmppeacobaaGreat.mergeDominates
