/-
  DERIVED. GIVEN WITH THE SEED: THE CARDS: each row of YtabpfbgcdmejbaaDoorRows.lean that lists a variable, with what it lists TIED to the program's text (the seventh form; the later family's looks); each row that meets fmt, with fmt's text TOLD by the authors' own Lean function (tested against real Go, not proved from fmt's source: count such statements apart). THE CARD IS WHAT COUNTS. Prove the row's statement (the work); the ties are given (YtabpfbgcdmejbaaDoorTie.lean); close each card by the builder's one call (the guide's Derived/Test/ToyasCard.lean, 'card_holds'). Laid BY PROGRAM, IN A SANDBOX (cutbox-door.mjs). By AI agents, Wed Nov 11 2026. No macro, syntax, notation, axiom, sorry.
-/
import Derived.Test.YtabpfbgcdmejbaaDoorRows
import GoSem.ClaimSeven
namespace Go.Proofs.YtabpfbgcdmejbaaDoor
namespace Rows

/-- THE TIED CARD OF 'rallentandolaw16.TreeNames'. -/
def treeNamesCard : Claim7 := { stood := { row := treeNamesRow, standIns := [], harness := (true, "b881aefca7eb405a7a850b42bc9cddb70f0a91c57f48e07b80551a1ab0ee4fbd"), looks := true }, kinds := [], alts := [], laidByText := true, laidKinds := [.data, .data, .data, .sentinel, .sentinel], laidTests := true, laidLooks := .later }
def TreeNamesCardSaid : Prop := Claim7.holds Tryd.pinned (.plain (OpenSpec.ofChange treeNamesSpec)) treeNamesCard

/-- THE TIED CARD OF 'rallentandolaw16.TreeWider'. -/
def treeWiderCard : Claim7 := { stood := { row := treeWiderRow, standIns := [], harness := (true, "b881aefca7eb405a7a850b42bc9cddb70f0a91c57f48e07b80551a1ab0ee4fbd"), looks := true }, kinds := [], alts := [], laidByText := true, laidKinds := [.data, .data, .data, .sentinel, .sentinel], laidTests := true, laidLooks := .later }
def TreeWiderCardSaid : Prop := Claim7.holds Tryd.pinned (.plain (OpenSpec.ofChange treeWiderSpec)) treeWiderCard

/-- THE TIED CARD OF 'rallentandolaw16.TreeParts'. -/
def treePartsCard : Claim7 := { stood := { row := treePartsRow, standIns := [], harness := (true, "b881aefca7eb405a7a850b42bc9cddb70f0a91c57f48e07b80551a1ab0ee4fbd"), looks := true }, kinds := [], alts := [], laidByText := true, laidKinds := [.data, .data, .data, .sentinel, .sentinel], laidTests := true, laidLooks := .later }
def TreePartsCardSaid : Prop := Claim7.holds Tryd.pinned (.plain (OpenSpec.ofChange treePartsSpec)) treePartsCard

/-- THE TIED CARD OF 'rallentandolaw20.PropNames'. -/
def propNamesCard : Claim7 := { stood := { row := propNamesRow, standIns := [], harness := (true, "b881aefca7eb405a7a850b42bc9cddb70f0a91c57f48e07b80551a1ab0ee4fbd"), looks := true }, kinds := [], alts := [], laidByText := true, laidKinds := [.data, .data, .data, .sentinel, .sentinel], laidTests := true, laidLooks := .later }
def PropNamesCardSaid : Prop := Claim7.holds Tryd.pinned (.plain (OpenSpec.ofChange propNamesSpec)) propNamesCard

/-- THE TIED CARD OF 'rallentandolaw20.PropApart'. -/
def propApartCard : Claim7 := { stood := { row := propApartRow, standIns := [], harness := (true, "b881aefca7eb405a7a850b42bc9cddb70f0a91c57f48e07b80551a1ab0ee4fbd"), looks := true }, kinds := [], alts := [], laidByText := true, laidKinds := [.data, .data, .data, .sentinel, .sentinel], laidTests := true, laidLooks := .later }
def PropApartCardSaid : Prop := Claim7.holds Tryd.pinned (.plain (OpenSpec.ofChange propApartSpec)) propApartCard

/-- THE TIED CARD OF 'rallentandolaw20.PropMorgan'. -/
def propMorganCard : Claim7 := { stood := { row := propMorganRow, standIns := [], harness := (true, "b881aefca7eb405a7a850b42bc9cddb70f0a91c57f48e07b80551a1ab0ee4fbd"), looks := true }, kinds := [], alts := [], laidByText := true, laidKinds := [.data, .data, .data, .sentinel, .sentinel], laidTests := true, laidLooks := .later }
def PropMorganCardSaid : Prop := Claim7.holds Tryd.pinned (.plain (OpenSpec.ofChange propMorganSpec)) propMorganCard

/-- THE SECOND FORM's CARD OF 'rallentandolaw16.TreeNames'. -/
def treeNamesUptoCard : Claim7 := { stood := { row := treeNamesUptoRow, standIns := [], harness := (true, "b881aefca7eb405a7a850b42bc9cddb70f0a91c57f48e07b80551a1ab0ee4fbd"), looks := true }, kinds := [], alts := [], laidByText := true, laidKinds := [.data, .data, .data, .sentinel, .sentinel], laidTests := true, laidLooks := .later }
def TreeNamesUptoCardSaid : Prop := Claim7.holds Tryd.pinned (.plain (OpenSpec.upto treeNamesSpec)) treeNamesUptoCard

/-- THE SECOND FORM's CARD OF 'rallentandolaw16.TreeWider'. -/
def treeWiderUptoCard : Claim7 := { stood := { row := treeWiderUptoRow, standIns := [], harness := (true, "b881aefca7eb405a7a850b42bc9cddb70f0a91c57f48e07b80551a1ab0ee4fbd"), looks := true }, kinds := [], alts := [], laidByText := true, laidKinds := [.data, .data, .data, .sentinel, .sentinel], laidTests := true, laidLooks := .later }
def TreeWiderUptoCardSaid : Prop := Claim7.holds Tryd.pinned (.plain (OpenSpec.upto treeWiderSpec)) treeWiderUptoCard

/-- THE SECOND FORM's CARD OF 'rallentandolaw16.TreeParts'. -/
def treePartsUptoCard : Claim7 := { stood := { row := treePartsUptoRow, standIns := [], harness := (true, "b881aefca7eb405a7a850b42bc9cddb70f0a91c57f48e07b80551a1ab0ee4fbd"), looks := true }, kinds := [], alts := [], laidByText := true, laidKinds := [.data, .data, .data, .sentinel, .sentinel], laidTests := true, laidLooks := .later }
def TreePartsUptoCardSaid : Prop := Claim7.holds Tryd.pinned (.plain (OpenSpec.upto treePartsSpec)) treePartsUptoCard

/-- THE SECOND FORM's CARD OF 'rallentandolaw20.PropNames'. -/
def propNamesUptoCard : Claim7 := { stood := { row := propNamesUptoRow, standIns := [], harness := (true, "b881aefca7eb405a7a850b42bc9cddb70f0a91c57f48e07b80551a1ab0ee4fbd"), looks := true }, kinds := [], alts := [], laidByText := true, laidKinds := [.data, .data, .data, .sentinel, .sentinel], laidTests := true, laidLooks := .later }
def PropNamesUptoCardSaid : Prop := Claim7.holds Tryd.pinned (.plain (OpenSpec.upto propNamesSpec)) propNamesUptoCard

/-- THE SECOND FORM's CARD OF 'rallentandolaw20.PropApart'. -/
def propApartUptoCard : Claim7 := { stood := { row := propApartUptoRow, standIns := [], harness := (true, "b881aefca7eb405a7a850b42bc9cddb70f0a91c57f48e07b80551a1ab0ee4fbd"), looks := true }, kinds := [], alts := [], laidByText := true, laidKinds := [.data, .data, .data, .sentinel, .sentinel], laidTests := true, laidLooks := .later }
def PropApartUptoCardSaid : Prop := Claim7.holds Tryd.pinned (.plain (OpenSpec.upto propApartSpec)) propApartUptoCard

/-- THE SECOND FORM's CARD OF 'rallentandolaw20.PropMorgan'. -/
def propMorganUptoCard : Claim7 := { stood := { row := propMorganUptoRow, standIns := [], harness := (true, "b881aefca7eb405a7a850b42bc9cddb70f0a91c57f48e07b80551a1ab0ee4fbd"), looks := true }, kinds := [], alts := [], laidByText := true, laidKinds := [.data, .data, .data, .sentinel, .sentinel], laidTests := true, laidLooks := .later }
def PropMorganUptoCardSaid : Prop := Claim7.holds Tryd.pinned (.plain (OpenSpec.upto propMorganSpec)) propMorganUptoCard
end Rows
end Go.Proofs.YtabpfbgcdmejbaaDoor
