/- GarbleAll returns true where what it reads is of bulk at most 1048576. No conditions. -/
import Derived.Test.YtjepihoacohboaaRows
import Derived.WalkKit
import Derived.ProofKit
import Derived.OpenShut
import Derived.JoinedCond
import Derived.Lib.SmallJoins
import Derived.Deep.Slices
import Derived.Test.YtjepihoacohboaaLx
namespace Go.Proofs.Ytjepihoacohboaa.garbleAll
open Go.ChangeShapes Go.WideShapes Go.ChangeAt Go.RowKit

theorem own : ownKnob Try.prog.godebug = none := by kernel_rfl
theorem kids : Kids Try.prog (· < Try.prog.types.size) := kids_rows (by kernel_rfl) (by kernel_rfl)
theorem sizes : ((List.range Try.prog.types.size).all fun t => match Try.prog.underlying t with | some (.slice e) => Nat.blt 0 (Try.prog.cellsOf e) | _ => true) = true := by kernel_rfl
theorem slices : ∀ t e, t < Try.prog.types.size → Try.prog.underlying t = some (.slice e) → 0 < Try.prog.cellsOf e := fun t e ht he => by
  have h := List.all_eq_true.1 sizes t (List.mem_range.2 ht)
  rw [he] at h
  simpa [Nat.blt_eq] using h
theorem known : (Try.f5.params.toList.all fun t => Nat.blt t Try.prog.types.size) = true := by kernel_rfl

/-! ### The bound -/
theorem one_le {H : Type} (d : DataW H) : 1 ≤ Rows.uptoBulk d := by
  cases d with
  | lit l => cases l <;> simp [Rows.uptoBulk]
  | _ => simp [Rows.uptoBulk]
theorem length_le {H : Type} (l : List (DataW H)) : l.length ≤ Rows.uptoBulkAll l := by
  induction l with
  | nil => simp [Rows.uptoBulkAll]
  | cons x r ih => have := one_le x; simp only [Rows.uptoBulkAll, List.length_cons]; omega
theorem bulk_app {H : Type} (l r : List (DataW H)) : Rows.uptoBulkAll (l ++ r) = Rows.uptoBulkAll l + Rows.uptoBulkAll r := by
  induction l with
  | nil => simp [Rows.uptoBulkAll]
  | cons x l ih => simp only [List.cons_append, Rows.uptoBulkAll, ih]; omega
theorem rp_len {G : Go.Ab.Mem} {nl : Option Bool} {n : Nat} {cells : List Go.Ab.PD} (h : Go.Ab.RP G (.sl nl n cells) (.slice none 0 0)) : n = 0 := by
  cases h; rfl
theorem rp_len2 {G : Go.Ab.Mem} {nl : Option Bool} {n len cap : Nat} {a : Addr} {cells : List Go.Ab.PD} (h : Go.Ab.RP G (.sl nl n cells) (.slice (some a) len cap)) : n = len := by
  cases h; rfl
set_option maxRecDepth 100000 in
theorem room {H : Type} {enc : TypeId × Value → H} {W : World} {base : Nat} {args : Array Value} {ds gs : List (DataW H)} {before : List MemPlace}
    (hval : ∀ (j : Nat) t v, Try.f5.params[j]? = some t → args[j]? = some v → Value.okWide Try.prog W .any base t v)
    (hW : DataW.Whole enc Try.prog Try.f5.params.toList Rows.garbleAllSpec.vars false W args.toList ds gs before) (hk : Rows.uptoSmall H (ds ++ gs) = true)
    (xs : List Go.Ab.PD) (hR : ∀ i, i < args.toList.length → Go.Ab.RP (Go.Ab.memOf W) (xs.getD i default) (args.toList.getD i Go.undef)) (g : Go.Ab.tG.den) (o : Go.Ab.tI.den) (hp : Go.Ab.Prs Go.Ab.tG Go.Ab.tI g o xs) : Go.Ab.Short 1048576 g.2.2 := by
  obtain ⟨p, q, hA0, hV, rfl, hfz, hnd⟩ := hW
  have hA : DataW.TrodAll enc Try.prog W 0 (fun _ => true) true Try.f5.params.toList args.toList ds p := hA0
  rw [Try.params5] at hA hval
  obtain ⟨v0, vs0, d0, ds0, p0, q0, hargs, rfl, rfl, h0, r0⟩ := trodAll_cons hA
  have hv0 := hval 0 _ v0 rfl (by rw [← Array.getElem?_toList, hargs]; rfl)
  obtain ⟨c0, c1, y0, y1, n, rfl, rfl, _, _, h1⟩ := Go.Joins.open_agg2 Try.underlying24 (by kernel_rfl) (by kernel_rfl) hv0 h0
  have hk : Rows.uptoBulkAll ((DataW.agg [y0.1, y1.1] :: ds0) ++ gs) ≤ 1048576 := of_decide_eq_true hk
  simp only [List.cons_append, Rows.uptoBulkAll, Rows.uptoBulk] at hk
  match xs, hp with
  | [x, y], ⟨hx, _⟩ =>
    have hx2 : x = .agg [.v (.int .i64 g.1), .sl g.2.1 g.2.2.length (Go.Ab.tB.rows g.2.2)] := by
      have := Go.Ab.D.p.inj (hx.trans (show _ = Go.Ab.D.p (.agg [.v (.int .i64 g.1), .sl g.2.1 g.2.2.length (Go.Ab.tB.rows g.2.2)]) from rfl))
      exact this
    have hr := hR 0 (by rw [hargs]; simp)
    rw [hargs] at hr
    simp only [List.getD_cons_zero] at hr
    rw [hx2] at hr
    have hr1 : Go.Ab.RP (Go.Ab.memOf W) (.sl g.2.1 g.2.2.length (Go.Ab.tB.rows g.2.2)) c1 := by
      cases hr with
      | agg _ _ hs hRR => simpa using hRR 1 (by simp)
    have hlen : g.2.2.length ≤ Rows.uptoBulk y1.1 := by
      rcases Go.Deep.open_slice1 Try.underlying22 (by kernel_rfl) h1 with ⟨hc, _⟩ | ⟨a, len, cap, m, nn, V, D, Pl, hc, _, _, _, _, hy, _⟩
      · obtain rfl : c1 = .slice none 0 0 := by simpa using hc
        rw [rp_len hr1]; exact Nat.zero_le _
      · obtain rfl : c1 = .slice (some a) len cap := by simpa using hc
        rw [rp_len2 hr1, hy]
        have := length_le ((List.range len).map D)
        simp only [List.length_map, List.length_range] at this
        simp only [Rows.uptoBulk]
        omega
    exact ⟨by omega⟩

/-! ### The row's step -/
set_option maxRecDepth 100000 in
theorem lifted (os : Os) (started : os.Started) (H : Type) (enc : TypeId × Value → H) (F : Stop.Interp) :
    ReturnsInHanded {} Try.checked os 5 .any ((Rows.OpenSpec.upto Rows.garbleAllSpec).pre6 enc Try.prog Try.f5 Rows.garbleAllUptoRow.domain false) (((Rows.OpenSpec.upto Rows.garbleAllSpec).at F).post enc Try.prog Try.f5 false true false false) := by
  refine returnsInHanded_of_cond (C := Try.checked) (s := Rows.OpenSpec.upto Rows.garbleAllSpec) (k := Rows.uptoSmall) rfl own started (by kernel_rfl) Try.func5
    (OpenSpec.witness (enc := enc) (C := Try.checked) (s := Rows.OpenSpec.upto Rows.garbleAllSpec) (k := Rows.uptoSmall) rfl false ⟨#[], #[.agg #[.int .i64 0, .slice none 0 0], .int .i64 0], []⟩ 8 (by kernel_rfl) (by kernel_rfl) (by kernel_rfl)
      (x := ([.agg [.lit (.int .i64 0), .nil], .lit (.int .i64 0)], [], [])) (by kernel_rfl) rfl (by kernel_rfl)) ?_
  intro W base args ds gs before hval hW _ hk _
  refine Go.Ab.PurFn.lawQ (fun xs => ∀ g o, Go.Ab.Prs Go.Ab.tG Go.Ab.tI g o xs → Go.Ab.Short 1048576 g.2.2) kids slices (fun xs hx hQ => ?_) (fun xs _ _ hR g o hp => room hval hW hk xs hR g o hp) (fun t ht => by simpa [Nat.blt_eq] using List.all_eq_true.1 known t ht) (t := 4) (by kernel_rfl) Try.underlying4 rfl (fun ds hl => ?_) hval hW (Go.Ab.GLB.triv fun _ => rfl)
  · rw [Try.params5] at hx
    exact Go.Ab.all_typed xs hx hQ
  · rw [Try.params5] at hl
    match ds, hl with
    | [a0, a1], _ => rfl

theorem over : Rows.garbleAllUptoRow.holds Try.pinned (Rows.OpenSpec.upto Rows.garbleAllSpec) :=
  OpenClaim.holds_of_cond 5 Try.f5 rfl rfl rfl rfl rfl rfl rfl ⟨rfl, rfl, rfl, rfl, rfl⟩ rfl rfl rfl rfl rfl (by kernel_rfl) Try.func5 (by kernel_rfl)
    (of_decide_eq_true (by kernel_rfl)) (by unfold Func.isWrapper; first | (rw [if_pos (by decide +kernel)]; kernel_rfl) | (rw [if_neg (by decide +kernel)]; exact ⟨rfl, rfl⟩))
    (fun os started H enc _ F => lifted os started H enc F)

/-- The statement. -/
theorem proved : Rows.GarbleAllUptoSaid :=
  over
#print axioms proved
end Go.Proofs.Ytjepihoacohboaa.garbleAll
