/- The laws' guard 'awake' returns true. No conditions. -/
import Derived.Test.YtgcfdghbnpjpbaaLp
set_option linter.unusedSimpArgs false
set_option linter.unusedVariables false
set_option maxRecDepth 100000
set_option maxHeartbeats 8000000
namespace Go.Ab
open Go.Proofs Go.RowKit
def exP : PD := .sl (some false) 4 (tDue.rows exD)
def rowsPD (R : List ROW) : PD := .sl none R.length (tRow.rows R)
theorem knPlan {cy per : Int} {R : List ROW} (h : planK exD cy per = R ∧ wrnM exD cy per = 0) : PurFn Try.prog 11 [.p exP,intB cy,intB per] (.tup [rowsPD R,intP 0]) := by
 obtain ⟨x,hx,hp⟩ := cPlan (some false) exD cy per ⟨by decide⟩
 rw [planR_eq,h.1,h.2] at hx
 have : x = .tup [rowsPD R,intP 0] := by
   simp only [DC.conc,concL] at hx
   exact (D.p.inj hx).symm
 subst this
 exact hp
theorem knWorth {R : List ROW} {per w e : Int} (h : worM exD R per = (w,e)) : PurFn Try.prog 21 [.p exP,.p (rowsPD R),intB per] (.tup [intP w,intP e]) := by
 obtain ⟨x,hx,hp⟩ := cWorth (some false) exD none R per w e h ⟨by decide⟩
 have : x = .tup [intP w,intP e] := by
   simp only [DC.conc,concL] at hx
   exact (D.p.inj hx).symm
 subst this
 exact hp
def R21 : List ROW := [(none,[2]),(none,[3])]
def R22 : List ROW := [(none,[1,2]),(none,[3,4])]
def R31 : List ROW := [(none,[2]),(none,[3]),(none,[4])]
noncomputable def kl15 : KnL := [(11,[exP,intP 2,intP 1],.tup [rowsPD R21,intP 0]),(11,[exP,intP 2,intP 2],.tup [rowsPD R22,intP 0]),(11,[exP,intP 3,intP 1],.tup [rowsPD R31,intP 0]),(11,[exP,intP 0,intP 1],.tup [rowsPD [],intP 0]),
 (21,[exP,rowsPD R21,intP 1],.tup [intP 12,intP 0]),(21,[exP,rowsPD R22,intP 2],.tup [intP 18,intP 0]),(21,[exP,rowsPD R31,intP 1],.tup [intP 13,intP 0]),(21,[exP,rowsPD [],intP 1],.tup [intP 0,intP 0])]
theorem kl15_ok : KnLOK Try.prog kl15 :=
 .cons (knPlan ex21) (.cons (knPlan ex22) (.cons (knPlan ex31) (.cons (knPlan ex01)
   (.cons (knWorth (by decide +kernel)) (.cons (knWorth (by decide +kernel)) (.cons (knWorth (by decide +kernel)) (.cons (knWorth (by decide +kernel)) .nil)))))))
theorem s15_awake : PurFn Try.prog 9 [] (.v (.bool true)) :=
 PurFn.of_run2 (fuel := 400) (k := 30) (by kernel_rfl) s15tbl_ok (bKn_spec kl15_ok) .nil (f := 9) (ac := ac9 none) (ars := [.tmp 0]) (n := 54) (by kernel_rfl) (args := []) (by kernel_rfl) (by kernel_rfl)
theorem cAwake : PurS Try.prog 9 [] (.p (.v (.bool true))) := ⟨_,rfl,s15_awake⟩
end Go.Ab
