/-
  DERIVED. GIVEN WITH THE SEED: THE CARDS: each row of YtockinpjfhhkoaaGreatDoorRows.lean that lists a variable, with what it lists TIED to the program's text (the seventh form; the later family's looks); each row that meets fmt, with fmt's text TOLD by the authors' own Lean function (tested against real Go, not proved from fmt's source: count such statements apart). THE CARD IS WHAT COUNTS. Prove the row's statement (the work); the ties are given (YtockinpjfhhkoaaGreatDoorTie.lean); close each card by the builder's one call (the guide's Derived/Test/ToyasCard.lean, 'card_holds'). Laid BY PROGRAM, IN A SANDBOX (cutbox-door.mjs). By AI agents, Wed Nov 11 2026. No macro, syntax, notation, axiom, sorry.
-/
import Derived.Test.YtockinpjfhhkoaaGreatDoorRows
import GoSem.ClaimSeven
namespace Go.Proofs.YtockinpjfhhkoaaGreatDoor
namespace Rows

/-- THE TIED CARD OF 'rallentandolaw23.AtomsDoes'. -/
def atomsDoesCard : Claim7 := { stood := { row := atomsDoesRow, standIns := [], harness := (true, "7888cc4b579da9f5c496f8486fec340cc6bb312f1e165db18f84decbf57c7a80"), looks := true }, kinds := [], alts := [], laidByText := true, laidKinds := [.data, .data, .data, .sentinel, .sentinel], laidTests := true, laidLooks := .later }
def AtomsDoesCardSaid : Prop := Claim7.holds Tryz.pinned (.plain (OpenSpec.ofChange atomsDoesSpec)) atomsDoesCard

/-- THE TIED CARD OF 'rallentandolaw28.WitnessTells'. -/
def witnessTellsCard : Claim7 := { stood := { row := witnessTellsRow, standIns := [], harness := (true, "7888cc4b579da9f5c496f8486fec340cc6bb312f1e165db18f84decbf57c7a80"), looks := true }, kinds := [], alts := [], laidByText := true, laidKinds := [.data, .data, .data, .sentinel, .sentinel], laidTests := true, laidLooks := .later }
def WitnessTellsCardSaid : Prop := Claim7.holds Tryz.pinned (.plain (OpenSpec.ofChange witnessTellsSpec)) witnessTellsCard

/-- THE TIED CARD OF 'rallentandolaw23.AtomsNames'. -/
def atomsNamesCard : Claim7 := { stood := { row := atomsNamesRow, standIns := [], harness := (true, "7888cc4b579da9f5c496f8486fec340cc6bb312f1e165db18f84decbf57c7a80"), looks := true }, kinds := [], alts := [], laidByText := true, laidKinds := [.data, .data, .data, .sentinel, .sentinel], laidTests := true, laidLooks := .later }
def AtomsNamesCardSaid : Prop := Claim7.holds Tryz.pinned (.plain (OpenSpec.ofChange atomsNamesSpec)) atomsNamesCard

/-- THE TIED CARD OF 'rallentandolaw23.AtomsPoints'. -/
def atomsPointsCard : Claim7 := { stood := { row := atomsPointsRow, standIns := [], harness := (true, "7888cc4b579da9f5c496f8486fec340cc6bb312f1e165db18f84decbf57c7a80"), looks := true }, kinds := [], alts := [], laidByText := true, laidKinds := [.data, .data, .data, .sentinel, .sentinel], laidTests := true, laidLooks := .later }
def AtomsPointsCardSaid : Prop := Claim7.holds Tryz.pinned (.plain (OpenSpec.ofChange atomsPointsSpec)) atomsPointsCard

/-- THE TIED CARD OF 'rallentandolaw23.AtomsCut'. -/
def atomsCutCard : Claim7 := { stood := { row := atomsCutRow, standIns := [], harness := (true, "7888cc4b579da9f5c496f8486fec340cc6bb312f1e165db18f84decbf57c7a80"), looks := true }, kinds := [], alts := [], laidByText := true, laidKinds := [.data, .data, .data, .sentinel, .sentinel], laidTests := true, laidLooks := .later }
def AtomsCutCardSaid : Prop := Claim7.holds Tryz.pinned (.plain (OpenSpec.ofChange atomsCutSpec)) atomsCutCard

/-- THE TIED CARD OF 'rallentandolaw28.WitnessNames'. -/
def witnessNamesCard : Claim7 := { stood := { row := witnessNamesRow, standIns := [], harness := (true, "7888cc4b579da9f5c496f8486fec340cc6bb312f1e165db18f84decbf57c7a80"), looks := true }, kinds := [], alts := [], laidByText := true, laidKinds := [.data, .data, .data, .sentinel, .sentinel], laidTests := true, laidLooks := .later }
def WitnessNamesCardSaid : Prop := Claim7.holds Tryz.pinned (.plain (OpenSpec.ofChange witnessNamesSpec)) witnessNamesCard

/-- THE TIED CARD OF 'rallentandolaw28.WitnessMakes'. -/
def witnessMakesCard : Claim7 := { stood := { row := witnessMakesRow, standIns := [], harness := (true, "7888cc4b579da9f5c496f8486fec340cc6bb312f1e165db18f84decbf57c7a80"), looks := true }, kinds := [], alts := [], laidByText := true, laidKinds := [.data, .data, .data, .sentinel, .sentinel], laidTests := true, laidLooks := .later }
def WitnessMakesCardSaid : Prop := Claim7.holds Tryz.pinned (.plain (OpenSpec.ofChange witnessMakesSpec)) witnessMakesCard

/-- THE TIED CARD OF 'rallentandolaw28.WitnessJoins'. -/
def witnessJoinsCard : Claim7 := { stood := { row := witnessJoinsRow, standIns := [], harness := (true, "7888cc4b579da9f5c496f8486fec340cc6bb312f1e165db18f84decbf57c7a80"), looks := true }, kinds := [], alts := [], laidByText := true, laidKinds := [.data, .data, .data, .sentinel, .sentinel], laidTests := true, laidLooks := .later }
def WitnessJoinsCardSaid : Prop := Claim7.holds Tryz.pinned (.plain (OpenSpec.ofChange witnessJoinsSpec)) witnessJoinsCard

/-- THE TIED CARD OF 'rallentandolaw28.WitnessStays'. -/
def witnessStaysCard : Claim7 := { stood := { row := witnessStaysRow, standIns := [], harness := (true, "7888cc4b579da9f5c496f8486fec340cc6bb312f1e165db18f84decbf57c7a80"), looks := true }, kinds := [], alts := [], laidByText := true, laidKinds := [.data, .data, .data, .sentinel, .sentinel], laidTests := true, laidLooks := .later }
def WitnessStaysCardSaid : Prop := Claim7.holds Tryz.pinned (.plain (OpenSpec.ofChange witnessStaysSpec)) witnessStaysCard

/-- THE SECOND FORM's CARD OF 'rallentandolaw23.AtomsDoes'. -/
def atomsDoesUptoCard : Claim7 := { stood := { row := atomsDoesUptoRow, standIns := [], harness := (true, "7888cc4b579da9f5c496f8486fec340cc6bb312f1e165db18f84decbf57c7a80"), looks := true }, kinds := [], alts := [], laidByText := true, laidKinds := [.data, .data, .data, .sentinel, .sentinel], laidTests := true, laidLooks := .later }
def AtomsDoesUptoCardSaid : Prop := Claim7.holds Tryz.pinned (.plain (OpenSpec.upto atomsDoesSpec)) atomsDoesUptoCard

/-- THE SECOND FORM's CARD OF 'rallentandolaw28.WitnessTells'. -/
def witnessTellsUptoCard : Claim7 := { stood := { row := witnessTellsUptoRow, standIns := [], harness := (true, "7888cc4b579da9f5c496f8486fec340cc6bb312f1e165db18f84decbf57c7a80"), looks := true }, kinds := [], alts := [], laidByText := true, laidKinds := [.data, .data, .data, .sentinel, .sentinel], laidTests := true, laidLooks := .later }
def WitnessTellsUptoCardSaid : Prop := Claim7.holds Tryz.pinned (.plain (OpenSpec.upto witnessTellsSpec)) witnessTellsUptoCard

/-- THE SECOND FORM's CARD OF 'rallentandolaw23.AtomsNames'. -/
def atomsNamesUptoCard : Claim7 := { stood := { row := atomsNamesUptoRow, standIns := [], harness := (true, "7888cc4b579da9f5c496f8486fec340cc6bb312f1e165db18f84decbf57c7a80"), looks := true }, kinds := [], alts := [], laidByText := true, laidKinds := [.data, .data, .data, .sentinel, .sentinel], laidTests := true, laidLooks := .later }
def AtomsNamesUptoCardSaid : Prop := Claim7.holds Tryz.pinned (.plain (OpenSpec.upto atomsNamesSpec)) atomsNamesUptoCard

/-- THE SECOND FORM's CARD OF 'rallentandolaw23.AtomsPoints'. -/
def atomsPointsUptoCard : Claim7 := { stood := { row := atomsPointsUptoRow, standIns := [], harness := (true, "7888cc4b579da9f5c496f8486fec340cc6bb312f1e165db18f84decbf57c7a80"), looks := true }, kinds := [], alts := [], laidByText := true, laidKinds := [.data, .data, .data, .sentinel, .sentinel], laidTests := true, laidLooks := .later }
def AtomsPointsUptoCardSaid : Prop := Claim7.holds Tryz.pinned (.plain (OpenSpec.upto atomsPointsSpec)) atomsPointsUptoCard

/-- THE SECOND FORM's CARD OF 'rallentandolaw23.AtomsCut'. -/
def atomsCutUptoCard : Claim7 := { stood := { row := atomsCutUptoRow, standIns := [], harness := (true, "7888cc4b579da9f5c496f8486fec340cc6bb312f1e165db18f84decbf57c7a80"), looks := true }, kinds := [], alts := [], laidByText := true, laidKinds := [.data, .data, .data, .sentinel, .sentinel], laidTests := true, laidLooks := .later }
def AtomsCutUptoCardSaid : Prop := Claim7.holds Tryz.pinned (.plain (OpenSpec.upto atomsCutSpec)) atomsCutUptoCard

/-- THE SECOND FORM's CARD OF 'rallentandolaw28.WitnessNames'. -/
def witnessNamesUptoCard : Claim7 := { stood := { row := witnessNamesUptoRow, standIns := [], harness := (true, "7888cc4b579da9f5c496f8486fec340cc6bb312f1e165db18f84decbf57c7a80"), looks := true }, kinds := [], alts := [], laidByText := true, laidKinds := [.data, .data, .data, .sentinel, .sentinel], laidTests := true, laidLooks := .later }
def WitnessNamesUptoCardSaid : Prop := Claim7.holds Tryz.pinned (.plain (OpenSpec.upto witnessNamesSpec)) witnessNamesUptoCard

/-- THE SECOND FORM's CARD OF 'rallentandolaw28.WitnessMakes'. -/
def witnessMakesUptoCard : Claim7 := { stood := { row := witnessMakesUptoRow, standIns := [], harness := (true, "7888cc4b579da9f5c496f8486fec340cc6bb312f1e165db18f84decbf57c7a80"), looks := true }, kinds := [], alts := [], laidByText := true, laidKinds := [.data, .data, .data, .sentinel, .sentinel], laidTests := true, laidLooks := .later }
def WitnessMakesUptoCardSaid : Prop := Claim7.holds Tryz.pinned (.plain (OpenSpec.upto witnessMakesSpec)) witnessMakesUptoCard

/-- THE SECOND FORM's CARD OF 'rallentandolaw28.WitnessJoins'. -/
def witnessJoinsUptoCard : Claim7 := { stood := { row := witnessJoinsUptoRow, standIns := [], harness := (true, "7888cc4b579da9f5c496f8486fec340cc6bb312f1e165db18f84decbf57c7a80"), looks := true }, kinds := [], alts := [], laidByText := true, laidKinds := [.data, .data, .data, .sentinel, .sentinel], laidTests := true, laidLooks := .later }
def WitnessJoinsUptoCardSaid : Prop := Claim7.holds Tryz.pinned (.plain (OpenSpec.upto witnessJoinsSpec)) witnessJoinsUptoCard

/-- THE SECOND FORM's CARD OF 'rallentandolaw28.WitnessStays'. -/
def witnessStaysUptoCard : Claim7 := { stood := { row := witnessStaysUptoRow, standIns := [], harness := (true, "7888cc4b579da9f5c496f8486fec340cc6bb312f1e165db18f84decbf57c7a80"), looks := true }, kinds := [], alts := [], laidByText := true, laidKinds := [.data, .data, .data, .sentinel, .sentinel], laidTests := true, laidLooks := .later }
def WitnessStaysUptoCardSaid : Prop := Claim7.holds Tryz.pinned (.plain (OpenSpec.upto witnessStaysSpec)) witnessStaysUptoCard
end Rows
end Go.Proofs.YtockinpjfhhkoaaGreatDoor
