/- The laws' guard 'awake' returns true. No conditions. -/
import Derived.Test.YtbjehpjlpckbfaaLf
set_option linter.unusedSimpArgs false
set_option linter.unusedVariables false
set_option maxRecDepth 100000
namespace Go.Ab
open Go.Proofs
noncomputable def intsU8 : List PD → Option (List Int)
 | [] => some []
 | .v (.int .u8 x) :: r => match intsU8 r with | some l => some (x :: l) | none => none
 | _ => none
theorem intsU8_spec : ∀ {cs : List PD} {l : List Int}, intsU8 cs = some l → cs = tB.rows l
 | [], l, h => by simp only [intsU8, Option.some.injEq] at h; subst h; rfl
 | c :: r, l, h => by
   unfold intsU8 at h
   split at h
   · rename_i e; cases e
   · rename_i x r' e
     obtain ⟨rfl, rfl⟩ := List.cons.inj e
     split at h
     · rename_i l' hl
       simp only [Option.some.injEq] at h; subst h
       rw [intsU8_spec hl]; rfl
     · cases h
   · cases h
noncomputable def k30 : List D → St → (D → St → Bool) → Bool := fun ds st K => match viewAs st.box ds with
 | some [.p (.sl (some false) n cells), .p (.v (.int .i64 to))] => (match intsU8 cells with
   | some l => decide (l.length = n ∧ l.length ≤ 1000 ∧ -9223372036854775808 ≤ to ∧ to ≤ 9223372036854775807) && (l.all fun x => decide (0 ≤ x)) &&
     K (.p (.tup [.agg [iv (unpC l to).1, iv (unpC l to).2.1, uv (unpC l to).2.2.1, iv (unpC l to).2.2.2], iv (unpE l to)])) st
   | none => false)
 | _ => false
theorem k30_ok : ∀ ds st K, k30 ds st K = true → FnC Try.prog 30 ds st fun d st => K d st = true := fun ds st K h => by
 unfold k30 at h
 split at h
 · rename_i n cells to hv
   split at h
   · rename_i l hl
     simp only [Bool.and_eq_true, decide_eq_true_eq, List.all_eq_true] at h
     obtain ⟨⟨⟨rfl, h1, h2⟩, h3⟩, hk⟩ := h
     obtain ⟨x, hx, hp⟩ := cUnpack (some false) l to _ _ rfl rfl h3 h2 (Nat.le_trans h1 (by decide))
     have e1 : concL [injT (.sl tB) (some false, l), injT tI to] = [.p (.sl (some false) l.length cells), .p (.v (.int .i64 to))] := by
       rw [intsU8_spec hl]; rfl
     rw [e1] at hp
     have e2 : x = .tup [.agg [iv (unpC l to).1, iv (unpC l to).2.1, uv (unpC l to).2.2.1, iv (unpC l to).2.2.2], iv (unpE l to)] := by
       have : (.p (.tup [.agg [iv (unpC l to).1, iv (unpC l to).2.1, uv (unpC l to).2.2.1, iv (unpC l to).2.2.2], iv (unpE l to)]) : D) = .p x := by
         rw [← hx]; simp only [DC.conc, concL, concCs]; rfl
       simpa using this.symm
     subst e2
     intro c
     exact hp.cwV rfl hv hk
   · cases h
 · cases h
theorem k30_lin : ∀ ds st K, k30 ds st K = true → ∃ d st', K d st' = true ∧ ∀ K' : D → St → Bool, K' d st' = true → k30 ds st K' = true := fun ds st K h => by
 unfold k30 at h ⊢
 split at h
 · split at h
   · simp only [Bool.and_eq_true] at h ⊢
     exact ⟨_, _, h.2, fun K' hk => ⟨h.1, hk⟩⟩
   · cases h
 · cases h
noncomputable def packR : List Int := packM (5, (9, (1, 3)))
theorem kn32 : PurFn Try.prog 29 [.p (.agg [iv 5, iv 9, uv 1, iv 3])] (.tup [.sl (some false) 56 (tB.rows packR), iv 0]) := by
 have h := (cPack 5 9 1 3 packR (by decide) rfl).box (by decide)
 exact h.pur (by kernel_rfl)
noncomputable def ks32g : KnS := ksCons 30 k30 ks32
theorem ks32g_ok : KnSOK Try.prog ks32g := .cons k30_ok k30_lin ks32_ok
noncomputable def kl32 : KnL := [(29, [.agg [iv 5, iv 9, uv 1, iv 3]], .tup [.sl (some false) 56 (tB.rows packR), iv 0])]
theorem kl32_ok : KnLOK Try.prog kl32 := .cons kn32 .nil
theorem s32_awake : PurFn Try.prog 11 [] (.v (.bool true)) :=
 PurFn.of_run2 (fuel := 400) (k := 30) (by kernel_rfl) s32tbl_ok (bKn_spec kl32_ok) ks32g_ok (f := 11) (ac := ac11 none) (ars := [.tmp 0]) (n := 148) (by kernel_rfl) (args := []) (by kernel_rfl) (by kernel_rfl)
end Go.Ab
