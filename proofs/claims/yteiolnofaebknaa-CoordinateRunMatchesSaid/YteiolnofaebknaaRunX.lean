/- Run returns what the reference returns, the arguments are not modified, and the result may be overwritten; for all arguments. No conditions. -/
import Derived.Test.YteiolnofaebknaaRows
import Derived.WalkKit
import Derived.ProofKit
import Derived.OpenShut
import Derived.Test.YteiolnofaebknaaMr
namespace Go.Proofs.Yteiolnofaebknaa.coordinateRunMatches
open Go.ChangeShapes Go.WideShapes Go.ChangeAt Go.RowKit

theorem own : ownKnob Try.prog.godebug = none := by kernel_rfl
theorem kids : Kids Try.prog (· < Try.prog.types.size) := kids_rows (by kernel_rfl) (by kernel_rfl)
theorem sizes : ((List.range Try.prog.types.size).all fun t => match Try.prog.underlying t with | some (.slice e) => Nat.blt 0 (Try.prog.cellsOf e) | _ => true) = true := by kernel_rfl
theorem slices : ∀ t e, t < Try.prog.types.size → Try.prog.underlying t = some (.slice e) → 0 < Try.prog.cellsOf e := fun t e ht he => by
  have h := List.all_eq_true.1 sizes t (List.mem_range.2 ht)
  rw [he] at h
  simpa [Nat.blt_eq] using h
theorem known : (Try.f4.params.toList.all fun t => Nat.blt t Try.prog.types.size) = true := by kernel_rfl

/-! ### The row's step -/
set_option maxRecDepth 100000 in
theorem lifted (os : Os) (started : os.Started) (H : Type) (enc : TypeId × Value → H) :
    ReturnsInHanded {} Try.checked os 4 .any (Rows.coordinateRunMatchesSpec.pre6 enc Try.prog Try.f4 Rows.coordinateRunMatchesRow.domain false) (Rows.coordinateRunMatchesSpec.post enc Try.prog Try.f4 false true false false) := by
  refine returnsInHanded_of_change (C := Try.checked) own started (by kernel_rfl) Try.func4
    (ChangeSpec.witness6 (enc := enc) (C := Try.checked) false ⟨#[], #[.agg #[.int .i64 0, .int .i64 0], .slice none 0 0, .agg #[.slice none 0 0, .slice none 0 0]], []⟩ 8 (by kernel_rfl) (by kernel_rfl) (by kernel_rfl) (by kernel_rfl)) ?_
  intro W base args ds gs before hval hW hcnd _
  refine Go.Ab.PurFn.law kids slices (fun xs hx => ?_) (fun t ht => by simpa [Nat.blt_eq] using List.all_eq_true.1 known t ht) (t := 4) (by kernel_rfl) Try.underlying4 rfl (fun ds hl => ?_) hval hW (Go.Ab.GLB.triv fun _ => rfl)
  · rw [Try.params4] at hx
    exact Go.Ab.runMatches_typed xs hx
  · rw [Try.params4] at hl
    match ds, hl with
    | [a0, a1, a2], _ => rfl

theorem over : Rows.coordinateRunMatchesRow.holds Try.pinned (OpenSpec.ofChange Rows.coordinateRunMatchesSpec) :=
  OpenClaim.holds_of_wide 4 Try.f4 rfl rfl rfl rfl rfl rfl rfl ⟨rfl, rfl, rfl, rfl, rfl⟩ rfl rfl rfl rfl rfl (by kernel_rfl) Try.func4 (by kernel_rfl)
    (of_decide_eq_true (by kernel_rfl)) (by unfold Func.isWrapper; first | (rw [if_pos (by decide +kernel)]; kernel_rfl) | (rw [if_neg (by decide +kernel)]; exact ⟨rfl, rfl⟩))
    (fun os started H enc _ => lifted os started H enc)

/-- The statement. -/
theorem proved : Rows.CoordinateRunMatchesSaid :=
  over
#print axioms proved
end Go.Proofs.Yteiolnofaebknaa.coordinateRunMatches
