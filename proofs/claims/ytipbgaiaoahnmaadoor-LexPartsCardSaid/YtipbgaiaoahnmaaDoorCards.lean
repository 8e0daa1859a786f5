/-
  DERIVED. GIVEN WITH THE SEED: THE CARDS: each row of YtipbgaiaoahnmaaDoorRows.lean that lists a variable, with what it lists TIED to the program's text (the seventh form; the later family's looks); each row that meets fmt, with fmt's text TOLD by the authors' own Lean function (tested against real Go, not proved from fmt's source: count such statements apart). THE CARD IS WHAT COUNTS. Prove the row's statement (the work); the ties are given (YtipbgaiaoahnmaaDoorTie.lean); close each card by the builder's one call (the guide's Derived/Test/ToyasCard.lean, 'card_holds'). Laid BY PROGRAM, IN A SANDBOX (cutbox-door.mjs). By AI agents, Wed Nov 11 2026. No macro, syntax, notation, axiom, sorry.
-/
import Derived.Test.YtipbgaiaoahnmaaDoorRows
import GoSem.ClaimSeven
namespace Go.Proofs.YtipbgaiaoahnmaaDoor
namespace Rows

/-- THE TIED CARD OF 'rallentandolaw15.LexNames'. -/
def lexNamesCard : Claim7 := { stood := { row := lexNamesRow, standIns := [], harness := (true, "124a9211564648394ab84354afe8b8fa858bf46ba6c5bf06fec3acfaa2c19fd9"), looks := true }, kinds := [], alts := [], laidByText := true, laidKinds := [.data, .data, .data, .sentinel, .sentinel], laidTests := true, laidLooks := .later }
def LexNamesCardSaid : Prop := Claim7.holds Tryd.pinned (.plain (OpenSpec.ofChange lexNamesSpec)) lexNamesCard

/-- THE TIED CARD OF 'rallentandolaw15.LexGlues'. -/
def lexGluesCard : Claim7 := { stood := { row := lexGluesRow, standIns := [], harness := (true, "124a9211564648394ab84354afe8b8fa858bf46ba6c5bf06fec3acfaa2c19fd9"), looks := true }, kinds := [], alts := [], laidByText := true, laidKinds := [.data, .data, .data, .sentinel, .sentinel], laidTests := true, laidLooks := .later }
def LexGluesCardSaid : Prop := Claim7.holds Tryd.pinned (.plain (OpenSpec.ofChange lexGluesSpec)) lexGluesCard

/-- THE TIED CARD OF 'rallentandolaw15.LexBack'. -/
def lexBackCard : Claim7 := { stood := { row := lexBackRow, standIns := [], harness := (true, "124a9211564648394ab84354afe8b8fa858bf46ba6c5bf06fec3acfaa2c19fd9"), looks := true }, kinds := [], alts := [], laidByText := true, laidKinds := [.data, .data, .data, .sentinel, .sentinel], laidTests := true, laidLooks := .later }
def LexBackCardSaid : Prop := Claim7.holds Tryd.pinned (.plain (OpenSpec.ofChange lexBackSpec)) lexBackCard

/-- THE TIED CARD OF 'rallentandolaw15.LexShort'. -/
def lexShortCard : Claim7 := { stood := { row := lexShortRow, standIns := [], harness := (true, "124a9211564648394ab84354afe8b8fa858bf46ba6c5bf06fec3acfaa2c19fd9"), looks := true }, kinds := [], alts := [], laidByText := true, laidKinds := [.data, .data, .data, .sentinel, .sentinel], laidTests := true, laidLooks := .later }
def LexShortCardSaid : Prop := Claim7.holds Tryd.pinned (.plain (OpenSpec.ofChange lexShortSpec)) lexShortCard

/-- THE TIED CARD OF 'rallentandolaw15.LexParts'. -/
def lexPartsCard : Claim7 := { stood := { row := lexPartsRow, standIns := [], harness := (true, "124a9211564648394ab84354afe8b8fa858bf46ba6c5bf06fec3acfaa2c19fd9"), looks := true }, kinds := [], alts := [], laidByText := true, laidKinds := [.data, .data, .data, .sentinel, .sentinel], laidTests := true, laidLooks := .later }
def LexPartsCardSaid : Prop := Claim7.holds Tryd.pinned (.plain (OpenSpec.ofChange lexPartsSpec)) lexPartsCard

/-- THE TIED CARD OF 'rallentandolaw15.LexCuts'. -/
def lexCutsCard : Claim7 := { stood := { row := lexCutsRow, standIns := [], harness := (true, "124a9211564648394ab84354afe8b8fa858bf46ba6c5bf06fec3acfaa2c19fd9"), looks := true }, kinds := [], alts := [], laidByText := true, laidKinds := [.data, .data, .data, .sentinel, .sentinel], laidTests := true, laidLooks := .later }
def LexCutsCardSaid : Prop := Claim7.holds Tryd.pinned (.plain (OpenSpec.ofChange lexCutsSpec)) lexCutsCard

/-- THE SECOND FORM's CARD OF 'rallentandolaw15.LexNames'. -/
def lexNamesUptoCard : Claim7 := { stood := { row := lexNamesUptoRow, standIns := [], harness := (true, "124a9211564648394ab84354afe8b8fa858bf46ba6c5bf06fec3acfaa2c19fd9"), looks := true }, kinds := [], alts := [], laidByText := true, laidKinds := [.data, .data, .data, .sentinel, .sentinel], laidTests := true, laidLooks := .later }
def LexNamesUptoCardSaid : Prop := Claim7.holds Tryd.pinned (.plain (OpenSpec.upto lexNamesSpec)) lexNamesUptoCard

/-- THE SECOND FORM's CARD OF 'rallentandolaw15.LexGlues'. -/
def lexGluesUptoCard : Claim7 := { stood := { row := lexGluesUptoRow, standIns := [], harness := (true, "124a9211564648394ab84354afe8b8fa858bf46ba6c5bf06fec3acfaa2c19fd9"), looks := true }, kinds := [], alts := [], laidByText := true, laidKinds := [.data, .data, .data, .sentinel, .sentinel], laidTests := true, laidLooks := .later }
def LexGluesUptoCardSaid : Prop := Claim7.holds Tryd.pinned (.plain (OpenSpec.upto lexGluesSpec)) lexGluesUptoCard

/-- THE SECOND FORM's CARD OF 'rallentandolaw15.LexBack'. -/
def lexBackUptoCard : Claim7 := { stood := { row := lexBackUptoRow, standIns := [], harness := (true, "124a9211564648394ab84354afe8b8fa858bf46ba6c5bf06fec3acfaa2c19fd9"), looks := true }, kinds := [], alts := [], laidByText := true, laidKinds := [.data, .data, .data, .sentinel, .sentinel], laidTests := true, laidLooks := .later }
def LexBackUptoCardSaid : Prop := Claim7.holds Tryd.pinned (.plain (OpenSpec.upto lexBackSpec)) lexBackUptoCard

/-- THE SECOND FORM's CARD OF 'rallentandolaw15.LexShort'. -/
def lexShortUptoCard : Claim7 := { stood := { row := lexShortUptoRow, standIns := [], harness := (true, "124a9211564648394ab84354afe8b8fa858bf46ba6c5bf06fec3acfaa2c19fd9"), looks := true }, kinds := [], alts := [], laidByText := true, laidKinds := [.data, .data, .data, .sentinel, .sentinel], laidTests := true, laidLooks := .later }
def LexShortUptoCardSaid : Prop := Claim7.holds Tryd.pinned (.plain (OpenSpec.upto lexShortSpec)) lexShortUptoCard

/-- THE SECOND FORM's CARD OF 'rallentandolaw15.LexParts'. -/
def lexPartsUptoCard : Claim7 := { stood := { row := lexPartsUptoRow, standIns := [], harness := (true, "124a9211564648394ab84354afe8b8fa858bf46ba6c5bf06fec3acfaa2c19fd9"), looks := true }, kinds := [], alts := [], laidByText := true, laidKinds := [.data, .data, .data, .sentinel, .sentinel], laidTests := true, laidLooks := .later }
def LexPartsUptoCardSaid : Prop := Claim7.holds Tryd.pinned (.plain (OpenSpec.upto lexPartsSpec)) lexPartsUptoCard

/-- THE SECOND FORM's CARD OF 'rallentandolaw15.LexCuts'. -/
def lexCutsUptoCard : Claim7 := { stood := { row := lexCutsUptoRow, standIns := [], harness := (true, "124a9211564648394ab84354afe8b8fa858bf46ba6c5bf06fec3acfaa2c19fd9"), looks := true }, kinds := [], alts := [], laidByText := true, laidKinds := [.data, .data, .data, .sentinel, .sentinel], laidTests := true, laidLooks := .later }
def LexCutsUptoCardSaid : Prop := Claim7.holds Tryd.pinned (.plain (OpenSpec.upto lexCutsSpec)) lexCutsUptoCard
end Rows
end Go.Proofs.YtipbgaiaoahnmaaDoor
