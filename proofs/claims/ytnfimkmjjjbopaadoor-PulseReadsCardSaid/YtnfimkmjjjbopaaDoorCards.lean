/-
  DERIVED. GIVEN WITH THE SEED: THE CARDS: each row of YtnfimkmjjjbopaaDoorRows.lean that lists a variable, with what it lists TIED to the program's text (the seventh form; the later family's looks); each row that meets fmt, with fmt's text TOLD by the authors' own Lean function (tested against real Go, not proved from fmt's source: count such statements apart). THE CARD IS WHAT COUNTS. Prove the row's statement (the work); the ties are given (YtnfimkmjjjbopaaDoorTie.lean); close each card by the builder's one call (the guide's Derived/Test/ToyasCard.lean, 'card_holds'). Laid BY PROGRAM, IN A SANDBOX (cutbox-door.mjs). By AI agents, Wed Nov 11 2026. No macro, syntax, notation, axiom, sorry.
-/
import Derived.Test.YtnfimkmjjjbopaaDoorRows
import GoSem.ClaimSeven
namespace Go.Proofs.YtnfimkmjjjbopaaDoor
namespace Rows

/-- THE TIED CARD OF 'clearwaylaw10.PulseMakes'. -/
def pulseMakesCard : Claim7 := { stood := { row := pulseMakesRow, standIns := [], harness := (true, "4ca176473eeb67a0935b4643f3b716543bdbf1eca877c64afd0580797fc782f4"), looks := false }, kinds := [], alts := [], laidByText := true, laidKinds := [.widerDeep], laidTests := true, laidLooks := .later }
def PulseMakesCardSaid : Prop := Claim7.holds Tryd.pinned (.plain (OpenSpec.ofChange pulseMakesSpec)) pulseMakesCard

/-- THE TIED CARD OF 'clearwaylaw10.PulseFinds'. -/
def pulseFindsCard : Claim7 := { stood := { row := pulseFindsRow, standIns := [], harness := (true, "4ca176473eeb67a0935b4643f3b716543bdbf1eca877c64afd0580797fc782f4"), looks := false }, kinds := [], alts := [], laidByText := true, laidKinds := [.widerDeep], laidTests := true, laidLooks := .later }
def PulseFindsCardSaid : Prop := Claim7.holds Tryd.pinned (.plain (OpenSpec.ofChange pulseFindsSpec)) pulseFindsCard

/-- THE TIED CARD OF 'clearwaylaw10.PulseReads'. -/
def pulseReadsCard : Claim7 := { stood := { row := pulseReadsRow, standIns := [], harness := (true, "4ca176473eeb67a0935b4643f3b716543bdbf1eca877c64afd0580797fc782f4"), looks := false }, kinds := [], alts := [], laidByText := true, laidKinds := [.widerDeep], laidTests := true, laidLooks := .later }
def PulseReadsCardSaid : Prop := Claim7.holds Tryd.pinned (.plain (OpenSpec.ofChange pulseReadsSpec)) pulseReadsCard

/-- THE TIED CARD OF 'clearwaylaw10.PulseMerges'. -/
def pulseMergesCard : Claim7 := { stood := { row := pulseMergesRow, standIns := [], harness := (true, "4ca176473eeb67a0935b4643f3b716543bdbf1eca877c64afd0580797fc782f4"), looks := false }, kinds := [], alts := [], laidByText := true, laidKinds := [.widerDeep], laidTests := true, laidLooks := .later }
def PulseMergesCardSaid : Prop := Claim7.holds Tryd.pinned (.plain (OpenSpec.ofChange pulseMergesSpec)) pulseMergesCard

/-- THE TIED CARD OF 'clearwaylaw10.PulseGrows'. -/
def pulseGrowsCard : Claim7 := { stood := { row := pulseGrowsRow, standIns := [], harness := (true, "4ca176473eeb67a0935b4643f3b716543bdbf1eca877c64afd0580797fc782f4"), looks := false }, kinds := [], alts := [], laidByText := true, laidKinds := [.widerDeep], laidTests := true, laidLooks := .later }
def PulseGrowsCardSaid : Prop := Claim7.holds Tryd.pinned (.plain (OpenSpec.ofChange pulseGrowsSpec)) pulseGrowsCard

/-- THE TIED CARD OF 'clearwaylaw10.PulseExamples'. -/
def pulseExamplesCard : Claim7 := { stood := { row := pulseExamplesRow, standIns := [], harness := (true, "4ca176473eeb67a0935b4643f3b716543bdbf1eca877c64afd0580797fc782f4"), looks := false }, kinds := [], alts := [], laidByText := true, laidKinds := [.widerDeep], laidTests := true, laidLooks := .later }
def PulseExamplesCardSaid : Prop := Claim7.holds Tryd.pinned (.plain (OpenSpec.ofChange pulseExamplesSpec)) pulseExamplesCard

/-- THE SECOND FORM's CARD OF 'clearwaylaw10.PulseMakes'. -/
def pulseMakesUptoCard : Claim7 := { stood := { row := pulseMakesUptoRow, standIns := [], harness := (true, "4ca176473eeb67a0935b4643f3b716543bdbf1eca877c64afd0580797fc782f4"), looks := false }, kinds := [], alts := [], laidByText := true, laidKinds := [.widerDeep], laidTests := true, laidLooks := .later }
def PulseMakesUptoCardSaid : Prop := Claim7.holds Tryd.pinned (.plain (OpenSpec.upto pulseMakesSpec)) pulseMakesUptoCard

/-- THE SECOND FORM's CARD OF 'clearwaylaw10.PulseFinds'. -/
def pulseFindsUptoCard : Claim7 := { stood := { row := pulseFindsUptoRow, standIns := [], harness := (true, "4ca176473eeb67a0935b4643f3b716543bdbf1eca877c64afd0580797fc782f4"), looks := false }, kinds := [], alts := [], laidByText := true, laidKinds := [.widerDeep], laidTests := true, laidLooks := .later }
def PulseFindsUptoCardSaid : Prop := Claim7.holds Tryd.pinned (.plain (OpenSpec.upto pulseFindsSpec)) pulseFindsUptoCard

/-- THE SECOND FORM's CARD OF 'clearwaylaw10.PulseReads'. -/
def pulseReadsUptoCard : Claim7 := { stood := { row := pulseReadsUptoRow, standIns := [], harness := (true, "4ca176473eeb67a0935b4643f3b716543bdbf1eca877c64afd0580797fc782f4"), looks := false }, kinds := [], alts := [], laidByText := true, laidKinds := [.widerDeep], laidTests := true, laidLooks := .later }
def PulseReadsUptoCardSaid : Prop := Claim7.holds Tryd.pinned (.plain (OpenSpec.upto pulseReadsSpec)) pulseReadsUptoCard

/-- THE SECOND FORM's CARD OF 'clearwaylaw10.PulseMerges'. -/
def pulseMergesUptoCard : Claim7 := { stood := { row := pulseMergesUptoRow, standIns := [], harness := (true, "4ca176473eeb67a0935b4643f3b716543bdbf1eca877c64afd0580797fc782f4"), looks := false }, kinds := [], alts := [], laidByText := true, laidKinds := [.widerDeep], laidTests := true, laidLooks := .later }
def PulseMergesUptoCardSaid : Prop := Claim7.holds Tryd.pinned (.plain (OpenSpec.upto pulseMergesSpec)) pulseMergesUptoCard

/-- THE SECOND FORM's CARD OF 'clearwaylaw10.PulseGrows'. -/
def pulseGrowsUptoCard : Claim7 := { stood := { row := pulseGrowsUptoRow, standIns := [], harness := (true, "4ca176473eeb67a0935b4643f3b716543bdbf1eca877c64afd0580797fc782f4"), looks := false }, kinds := [], alts := [], laidByText := true, laidKinds := [.widerDeep], laidTests := true, laidLooks := .later }
def PulseGrowsUptoCardSaid : Prop := Claim7.holds Tryd.pinned (.plain (OpenSpec.upto pulseGrowsSpec)) pulseGrowsUptoCard

/-- THE SECOND FORM's CARD OF 'clearwaylaw10.PulseExamples'. -/
def pulseExamplesUptoCard : Claim7 := { stood := { row := pulseExamplesUptoRow, standIns := [], harness := (true, "4ca176473eeb67a0935b4643f3b716543bdbf1eca877c64afd0580797fc782f4"), looks := false }, kinds := [], alts := [], laidByText := true, laidKinds := [.widerDeep], laidTests := true, laidLooks := .later }
def PulseExamplesUptoCardSaid : Prop := Claim7.holds Tryd.pinned (.plain (OpenSpec.upto pulseExamplesSpec)) pulseExamplesUptoCard
end Rows
end Go.Proofs.YtnfimkmjjjbopaaDoor
