/- Closed runs with Plan and Worth as their contracts tell them: RollcallExamples. -/
import Derived.Test.YtgcfdghbnpjpbaaLr
set_option linter.unusedSimpArgs false
set_option linter.unusedVariables false
set_option maxRecDepth 100000
set_option maxHeartbeats 8000000
namespace Go.Ab
open Go.Proofs Go.RowKit
def duesOf : List PD → Option (List DUE)
 | [] => some []
 | .v (.int .i64 a) :: .v (.int .i64 b) :: .v (.int .i64 c) :: r => (duesOf r).map ((a, b, c) :: ·)
 | _ => none
theorem duesOf_spec : ∀ {cells : List PD} {l : List DUE}, duesOf cells = some l → cells = tDue.rows l
 | [], l, h => by simp only [duesOf, Option.some.injEq] at h; subst h; rfl
 | .v (.int .i64 a) :: .v (.int .i64 b) :: .v (.int .i64 c) :: r, l, h => by
   simp only [duesOf, Option.map_eq_some_iff] at h
   obtain ⟨l', h1, rfl⟩ := h
   rw [duesOf_spec h1]
   rfl
def intsOf : List PD → Option (List Int)
 | [] => some []
 | .v (.int .i64 a) :: r => (intsOf r).map (a :: ·)
 | _ => none
theorem intsOf_spec : ∀ {cells : List PD} {l : List Int}, intsOf cells = some l → cells = tI.rows l
 | [], l, h => by simp only [intsOf, Option.some.injEq] at h; subst h; rfl
 | .v (.int .i64 a) :: r, l, h => by
   simp only [intsOf, Option.map_eq_some_iff] at h
   obtain ⟨l', h1, rfl⟩ := h
   rw [intsOf_spec h1]
   rfl
def rowsOf : List PD → Option (List ROW)
 | [] => some []
 | .sl nl n cells :: r => match intsOf cells, rowsOf r with
   | some l, some R => if l.length = n then some ((nl, l) :: R) else none
   | _, _ => none
 | _ => none
theorem rowsOf_spec : ∀ {cells : List PD} {l : List ROW}, rowsOf cells = some l → cells = tRow.rows l
 | [], l, h => by simp only [rowsOf, Option.some.injEq] at h; subst h; rfl
 | .sl nl n cells :: r, l, h => by
   simp only [rowsOf] at h
   split at h
   · rename_i li R h1 h2
     split at h
     · rename_i hn
       simp only [Option.some.injEq] at h
       subst h
       rw [rowsOf_spec h2, intsOf_spec h1, ← hn]
       rfl
     · cases h
   · cases h
noncomputable def k15p : List D → Option PD := fun ds => match toAs ds with
 | some [.p (.sl nl n cells), .p (.v (.int .i64 cy)), .p (.v (.int .i64 per))] => (match duesOf cells with
   | some l => if l.length = n ∧ n ≤ 2000 then some (.tup [rowsPD (planK l cy per), intP (wrnM l cy per)]) else none
   | none => none)
 | _ => none
theorem k15p_ok : ∀ ds x, k15p ds = some x → ∃ args, toAs ds = some args ∧ PurFn Try.prog 11 args x := fun ds x h => by
 unfold k15p at h
 split at h
 · rename_i nl n cells cy per ha
   split at h
   · rename_i l hl
     split at h
     · rename_i hn
       obtain rfl := Option.some.inj h
       refine ⟨_, ha, ?_⟩
       obtain ⟨y, hy, hp⟩ := cPlan nl l cy per ⟨by omega⟩
       rw [planR_eq] at hy
       have : y = .tup [rowsPD (planK l cy per), intP (wrnM l cy per)] := by
         simp only [DC.conc, concL] at hy
         exact (D.p.inj hy).symm
       subst this
       rw [duesOf_spec hl, ← hn.1]
       exact hp
     · cases h
   · cases h
 · cases h
noncomputable def k15w : List D → St → (D → St → Bool) → Bool := fun ds st K => match viewAs st.box ds with
 | some [.p (.sl nl n cells), .p (.sl ns m rows), .p (.v (.int .i64 per))] => (match duesOf cells, rowsOf rows with
   | some l, some R => decide (l.length = n ∧ n ≤ 2000 ∧ R.length = m) && fP (.tup [intP (worM l R per).1, intP (worM l R per).2]) fun x => K (.p x) st
   | _, _ => false)
 | _ => false
theorem k15w_ok : ∀ ds st K, k15w ds st K = true → FnC Try.prog 21 ds st fun d st => K d st = true := fun ds st K h => by
 unfold k15w at h
 split at h
 · rename_i nl n cells ns m rows per ha
   split at h
   · rename_i l R hl hR
     simp only [Bool.and_eq_true, decide_eq_true_eq, fP_eq] at h
     obtain ⟨hn, hk⟩ := h
     obtain ⟨y, hy, hp⟩ := cWorthT nl l ns R per ⟨by omega⟩
     have : y = .tup [intP (worM l R per).1, intP (worM l R per).2] := by
       simp only [DC.conc, concL] at hy
       exact (D.p.inj hy).symm
     subst this
     have e : concL [injT (.sl tDue) (nl, l), injT (.sl tRow) (ns, R), injT tI per] = [.p (.sl nl n cells), .p (.sl ns m rows), .p (.v (.int .i64 per))] := by
       rw [duesOf_spec hl, rowsOf_spec hR, ← hn.1, ← hn.2.2]
       rfl
     rw [e] at hp
     intro c
     exact hp.cwV rfl ha hk
   · cases h
 · cases h
theorem k15w_lin : ∀ ds st K, k15w ds st K = true → ∃ d st', K d st' = true ∧ ∀ K' : D → St → Bool, K' d st' = true → k15w ds st K' = true := fun ds st K h => by
 unfold k15w at h ⊢
 split at h
 · split at h
   · simp only [Bool.and_eq_true, fP_eq] at h ⊢
     exact ⟨_, _, h.2, fun K' hk => ⟨h.1, hk⟩⟩
   · cases h
 · cases h
theorem kn15_awake : KnLOK Try.prog [(9, [], .v (.bool true))] := .cons s15_awake .nil
noncomputable def kn15 : Kn := knCons 11 k15p (bKn [(9, [], .v (.bool true))])
theorem kn15_ok : KnOK Try.prog kn15 := .cons k15p_ok (bKn_spec kn15_awake)
noncomputable def ks15 : KnS := ksCons 21 k15w fun _ => none
theorem ks15_ok : KnSOK Try.prog ks15 := .cons k15w_ok k15w_lin .nil
theorem lawExamples : PurFn Try.prog 7 [] (.v (.bool true)) :=
 PurFn.of_run2 (fuel := 600) (k := 30) (by kernel_rfl) s15tbl_ok kn15_ok ks15_ok (f := 7) (ac := ac7 none) (ars := [.tmp 0]) (n := 261) (by kernel_rfl) (args := []) (by kernel_rfl) (by kernel_rfl)
theorem examples_typed : ∀ xs, TyVs Try.prog [] xs → PurFn Try.prog 7 (xs.map .p) (.v (.bool true)) := fun xs h => by
 match xs, h with
 | [], _ => exact lawExamples
end Go.Ab
