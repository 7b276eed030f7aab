/-
  DERIVED. GIVEN WITH THE SEED: THE CARDS: each row of YtjhjleanihgopaaDoorRows.lean that lists a variable, with what it lists TIED to the program's text (the seventh form; the later family's looks); each row that meets fmt, with fmt's text TOLD by the authors' own Lean function (tested against real Go, not proved from fmt's source: count such statements apart). THE CARD IS WHAT COUNTS. Prove the row's statement (the work); the ties are given (YtjhjleanihgopaaDoorTie.lean); close each card by the builder's one call (the guide's Derived/Test/ToyasCard.lean, 'card_holds'). Laid BY PROGRAM, IN A SANDBOX (cutbox-door.mjs). By AI agents, Wed Nov 11 2026. No macro, syntax, notation, axiom, sorry.
-/
import Derived.Test.YtjhjleanihgopaaDoorRows
import GoSem.ClaimSeven
namespace Go.Proofs.YtjhjleanihgopaaDoor
namespace Rows

/-- THE TIED CARD OF 'supergraphlaw44.HintOperations'. -/
def hintOperationsCard : Claim7 := { stood := { row := hintOperationsRow, standIns := [], harness := (true, "3a86ff09284ee7217bfa4500c6a679fd187bce907d6044e975784414837effd1"), looks := true }, kinds := [], alts := [], laidByText := true, laidKinds := [.data, .data, .data, .sentinel, .sentinel], laidTests := true, laidLooks := .later }
def HintOperationsCardSaid : Prop := Claim7.holds Tryd.pinned (.plain (OpenSpec.ofChange hintOperationsSpec)) hintOperationsCard

/-- THE TIED CARD OF 'supergraphlaw44.HintBounds'. -/
def hintBoundsCard : Claim7 := { stood := { row := hintBoundsRow, standIns := [], harness := (true, "3a86ff09284ee7217bfa4500c6a679fd187bce907d6044e975784414837effd1"), looks := true }, kinds := [], alts := [], laidByText := true, laidKinds := [.data, .data, .data, .sentinel, .sentinel], laidTests := true, laidLooks := .later }
def HintBoundsCardSaid : Prop := Claim7.holds Tryd.pinned (.plain (OpenSpec.ofChange hintBoundsSpec)) hintBoundsCard

/-- THE TIED CARD OF 'supergraphlaw03.JsonPrints'. -/
def jsonPrintsCard : Claim7 := { stood := { row := jsonPrintsRow, standIns := [], harness := (true, "3a86ff09284ee7217bfa4500c6a679fd187bce907d6044e975784414837effd1"), looks := true }, kinds := [], alts := [], laidByText := true, laidKinds := [.data, .data, .data, .sentinel, .sentinel], laidTests := true, laidLooks := .later }
def JsonPrintsCardSaid : Prop := Claim7.holds Tryd.pinned (.plain (OpenSpec.ofChange jsonPrintsSpec)) jsonPrintsCard

/-- THE TIED CARD OF 'supergraphlaw03.JsonParses'. -/
def jsonParsesCard : Claim7 := { stood := { row := jsonParsesRow, standIns := [], harness := (true, "3a86ff09284ee7217bfa4500c6a679fd187bce907d6044e975784414837effd1"), looks := true }, kinds := [], alts := [], laidByText := true, laidKinds := [.data, .data, .data, .sentinel, .sentinel], laidTests := true, laidLooks := .later }
def JsonParsesCardSaid : Prop := Claim7.holds Tryd.pinned (.plain (OpenSpec.ofChange jsonParsesSpec)) jsonParsesCard

/-- THE TIED CARD OF 'supergraphlaw03.JsonReturns'. -/
def jsonReturnsCard : Claim7 := { stood := { row := jsonReturnsRow, standIns := [], harness := (true, "3a86ff09284ee7217bfa4500c6a679fd187bce907d6044e975784414837effd1"), looks := true }, kinds := [], alts := [], laidByText := true, laidKinds := [.data, .data, .data, .sentinel, .sentinel], laidTests := true, laidLooks := .later }
def JsonReturnsCardSaid : Prop := Claim7.holds Tryd.pinned (.plain (OpenSpec.ofChange jsonReturnsSpec)) jsonReturnsCard

/-- THE TIED CARD OF 'supergraphlaw03.JsonSettles'. -/
def jsonSettlesCard : Claim7 := { stood := { row := jsonSettlesRow, standIns := [], harness := (true, "3a86ff09284ee7217bfa4500c6a679fd187bce907d6044e975784414837effd1"), looks := true }, kinds := [], alts := [], laidByText := true, laidKinds := [.data, .data, .data, .sentinel, .sentinel], laidTests := true, laidLooks := .later }
def JsonSettlesCardSaid : Prop := Claim7.holds Tryd.pinned (.plain (OpenSpec.ofChange jsonSettlesSpec)) jsonSettlesCard

/-- THE TIED CARD OF 'supergraphlaw03.JsonPrefixes'. -/
def jsonPrefixesCard : Claim7 := { stood := { row := jsonPrefixesRow, standIns := [], harness := (true, "3a86ff09284ee7217bfa4500c6a679fd187bce907d6044e975784414837effd1"), looks := true }, kinds := [], alts := [], laidByText := true, laidKinds := [.data, .data, .data, .sentinel, .sentinel], laidTests := true, laidLooks := .later }
def JsonPrefixesCardSaid : Prop := Claim7.holds Tryd.pinned (.plain (OpenSpec.ofChange jsonPrefixesSpec)) jsonPrefixesCard

/-- THE SECOND FORM's CARD OF 'supergraphlaw44.HintOperations'. -/
def hintOperationsUptoCard : Claim7 := { stood := { row := hintOperationsUptoRow, standIns := [], harness := (true, "3a86ff09284ee7217bfa4500c6a679fd187bce907d6044e975784414837effd1"), looks := true }, kinds := [], alts := [], laidByText := true, laidKinds := [.data, .data, .data, .sentinel, .sentinel], laidTests := true, laidLooks := .later }
def HintOperationsUptoCardSaid : Prop := Claim7.holds Tryd.pinned (.plain (OpenSpec.upto hintOperationsSpec)) hintOperationsUptoCard

/-- THE SECOND FORM's CARD OF 'supergraphlaw44.HintBounds'. -/
def hintBoundsUptoCard : Claim7 := { stood := { row := hintBoundsUptoRow, standIns := [], harness := (true, "3a86ff09284ee7217bfa4500c6a679fd187bce907d6044e975784414837effd1"), looks := true }, kinds := [], alts := [], laidByText := true, laidKinds := [.data, .data, .data, .sentinel, .sentinel], laidTests := true, laidLooks := .later }
def HintBoundsUptoCardSaid : Prop := Claim7.holds Tryd.pinned (.plain (OpenSpec.upto hintBoundsSpec)) hintBoundsUptoCard

/-- THE SECOND FORM's CARD OF 'supergraphlaw03.JsonPrints'. -/
def jsonPrintsUptoCard : Claim7 := { stood := { row := jsonPrintsUptoRow, standIns := [], harness := (true, "3a86ff09284ee7217bfa4500c6a679fd187bce907d6044e975784414837effd1"), looks := true }, kinds := [], alts := [], laidByText := true, laidKinds := [.data, .data, .data, .sentinel, .sentinel], laidTests := true, laidLooks := .later }
def JsonPrintsUptoCardSaid : Prop := Claim7.holds Tryd.pinned (.plain (OpenSpec.upto jsonPrintsSpec)) jsonPrintsUptoCard

/-- THE SECOND FORM's CARD OF 'supergraphlaw03.JsonParses'. -/
def jsonParsesUptoCard : Claim7 := { stood := { row := jsonParsesUptoRow, standIns := [], harness := (true, "3a86ff09284ee7217bfa4500c6a679fd187bce907d6044e975784414837effd1"), looks := true }, kinds := [], alts := [], laidByText := true, laidKinds := [.data, .data, .data, .sentinel, .sentinel], laidTests := true, laidLooks := .later }
def JsonParsesUptoCardSaid : Prop := Claim7.holds Tryd.pinned (.plain (OpenSpec.upto jsonParsesSpec)) jsonParsesUptoCard

/-- THE SECOND FORM's CARD OF 'supergraphlaw03.JsonReturns'. -/
def jsonReturnsUptoCard : Claim7 := { stood := { row := jsonReturnsUptoRow, standIns := [], harness := (true, "3a86ff09284ee7217bfa4500c6a679fd187bce907d6044e975784414837effd1"), looks := true }, kinds := [], alts := [], laidByText := true, laidKinds := [.data, .data, .data, .sentinel, .sentinel], laidTests := true, laidLooks := .later }
def JsonReturnsUptoCardSaid : Prop := Claim7.holds Tryd.pinned (.plain (OpenSpec.upto jsonReturnsSpec)) jsonReturnsUptoCard

/-- THE SECOND FORM's CARD OF 'supergraphlaw03.JsonSettles'. -/
def jsonSettlesUptoCard : Claim7 := { stood := { row := jsonSettlesUptoRow, standIns := [], harness := (true, "3a86ff09284ee7217bfa4500c6a679fd187bce907d6044e975784414837effd1"), looks := true }, kinds := [], alts := [], laidByText := true, laidKinds := [.data, .data, .data, .sentinel, .sentinel], laidTests := true, laidLooks := .later }
def JsonSettlesUptoCardSaid : Prop := Claim7.holds Tryd.pinned (.plain (OpenSpec.upto jsonSettlesSpec)) jsonSettlesUptoCard

/-- THE SECOND FORM's CARD OF 'supergraphlaw03.JsonPrefixes'. -/
def jsonPrefixesUptoCard : Claim7 := { stood := { row := jsonPrefixesUptoRow, standIns := [], harness := (true, "3a86ff09284ee7217bfa4500c6a679fd187bce907d6044e975784414837effd1"), looks := true }, kinds := [], alts := [], laidByText := true, laidKinds := [.data, .data, .data, .sentinel, .sentinel], laidTests := true, laidLooks := .later }
def JsonPrefixesUptoCardSaid : Prop := Claim7.holds Tryd.pinned (.plain (OpenSpec.upto jsonPrefixesSpec)) jsonPrefixesUptoCard
end Rows
end Go.Proofs.YtjhjleanihgopaaDoor
