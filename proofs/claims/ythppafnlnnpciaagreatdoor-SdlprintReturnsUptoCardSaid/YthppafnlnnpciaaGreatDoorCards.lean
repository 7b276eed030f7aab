/-
  DERIVED. GIVEN WITH THE SEED: THE CARDS: each row of YthppafnlnnpciaaGreatDoorRows.lean that lists a variable, with what it lists TIED to the program's text (the seventh form; the later family's looks); each row that meets fmt, with fmt's text TOLD by the authors' own Lean function (tested against real Go, not proved from fmt's source: count such statements apart). THE CARD IS WHAT COUNTS. Prove the row's statement (the work); the ties are given (YthppafnlnnpciaaGreatDoorTie.lean); close each card by the builder's one call (the guide's Derived/Test/ToyasCard.lean, 'card_holds'). Laid BY PROGRAM, IN A SANDBOX (cutbox-door.mjs). By AI agents, Wed Nov 11 2026. No macro, syntax, notation, axiom, sorry.
-/
import Derived.Test.YthppafnlnnpciaaGreatDoorRows
import GoSem.ClaimSeven
namespace Go.Proofs.YthppafnlnnpciaaGreatDoor
namespace Rows

/-- THE TIED CARD OF 'supergraphlaw06.SdlParses'. -/
def sdlParsesCard : Claim7 := { stood := { row := sdlParsesRow, standIns := [], harness := (true, "4d4e4c132389ad71c9df420b678394a85db556ba536abb75f97100ada5843ee3"), looks := true }, kinds := [], alts := [], laidByText := true, laidKinds := [.data, .data, .data, .sentinel, .sentinel], laidTests := true, laidLooks := .later }
def SdlParsesCardSaid : Prop := Claim7.holds Tryz.pinned (.plain (OpenSpec.ofChange sdlParsesSpec)) sdlParsesCard

/-- THE TIED CARD OF 'supergraphlaw06.SdlRights'. -/
def sdlRightsCard : Claim7 := { stood := { row := sdlRightsRow, standIns := [], harness := (true, "4d4e4c132389ad71c9df420b678394a85db556ba536abb75f97100ada5843ee3"), looks := true }, kinds := [], alts := [], laidByText := true, laidKinds := [.data, .data, .data, .sentinel, .sentinel], laidTests := true, laidLooks := .later }
def SdlRightsCardSaid : Prop := Claim7.holds Tryz.pinned (.plain (OpenSpec.ofChange sdlRightsSpec)) sdlRightsCard

/-- THE TIED CARD OF 'supergraphlaw06.SdlSpaces'. -/
def sdlSpacesCard : Claim7 := { stood := { row := sdlSpacesRow, standIns := [], harness := (true, "4d4e4c132389ad71c9df420b678394a85db556ba536abb75f97100ada5843ee3"), looks := true }, kinds := [], alts := [], laidByText := true, laidKinds := [.data, .data, .data, .sentinel, .sentinel], laidTests := true, laidLooks := .later }
def SdlSpacesCardSaid : Prop := Claim7.holds Tryz.pinned (.plain (OpenSpec.ofChange sdlSpacesSpec)) sdlSpacesCard

/-- THE TIED CARD OF 'supergraphlaw06.SdlReads'. -/
def sdlReadsCard : Claim7 := { stood := { row := sdlReadsRow, standIns := [], harness := (true, "4d4e4c132389ad71c9df420b678394a85db556ba536abb75f97100ada5843ee3"), looks := true }, kinds := [], alts := [], laidByText := true, laidKinds := [.data, .data, .data, .sentinel, .sentinel], laidTests := true, laidLooks := .later }
def SdlReadsCardSaid : Prop := Claim7.holds Tryz.pinned (.plain (OpenSpec.ofChange sdlReadsSpec)) sdlReadsCard

/-- THE TIED CARD OF 'supergraphlaw06.SdlJoins'. -/
def sdlJoinsCard : Claim7 := { stood := { row := sdlJoinsRow, standIns := [], harness := (true, "4d4e4c132389ad71c9df420b678394a85db556ba536abb75f97100ada5843ee3"), looks := true }, kinds := [], alts := [], laidByText := true, laidKinds := [.data, .data, .data, .sentinel, .sentinel], laidTests := true, laidLooks := .later }
def SdlJoinsCardSaid : Prop := Claim7.holds Tryz.pinned (.plain (OpenSpec.ofChange sdlJoinsSpec)) sdlJoinsCard

/-- THE TIED CARD OF 'supergraphlaw07.SdlprintReturns'. -/
def sdlprintReturnsCard : Claim7 := { stood := { row := sdlprintReturnsRow, standIns := [], harness := (true, "4d4e4c132389ad71c9df420b678394a85db556ba536abb75f97100ada5843ee3"), looks := true }, kinds := [], alts := [], laidByText := true, laidKinds := [.data, .data, .data, .sentinel, .sentinel], laidTests := true, laidLooks := .later }
def SdlprintReturnsCardSaid : Prop := Claim7.holds Tryz.pinned (.plain (OpenSpec.ofChange sdlprintReturnsSpec)) sdlprintReturnsCard

/-- THE SECOND FORM's CARD OF 'supergraphlaw06.SdlParses'. -/
def sdlParsesUptoCard : Claim7 := { stood := { row := sdlParsesUptoRow, standIns := [], harness := (true, "4d4e4c132389ad71c9df420b678394a85db556ba536abb75f97100ada5843ee3"), looks := true }, kinds := [], alts := [], laidByText := true, laidKinds := [.data, .data, .data, .sentinel, .sentinel], laidTests := true, laidLooks := .later }
def SdlParsesUptoCardSaid : Prop := Claim7.holds Tryz.pinned (.plain (OpenSpec.upto sdlParsesSpec)) sdlParsesUptoCard

/-- THE SECOND FORM's CARD OF 'supergraphlaw06.SdlRights'. -/
def sdlRightsUptoCard : Claim7 := { stood := { row := sdlRightsUptoRow, standIns := [], harness := (true, "4d4e4c132389ad71c9df420b678394a85db556ba536abb75f97100ada5843ee3"), looks := true }, kinds := [], alts := [], laidByText := true, laidKinds := [.data, .data, .data, .sentinel, .sentinel], laidTests := true, laidLooks := .later }
def SdlRightsUptoCardSaid : Prop := Claim7.holds Tryz.pinned (.plain (OpenSpec.upto sdlRightsSpec)) sdlRightsUptoCard

/-- THE SECOND FORM's CARD OF 'supergraphlaw06.SdlSpaces'. -/
def sdlSpacesUptoCard : Claim7 := { stood := { row := sdlSpacesUptoRow, standIns := [], harness := (true, "4d4e4c132389ad71c9df420b678394a85db556ba536abb75f97100ada5843ee3"), looks := true }, kinds := [], alts := [], laidByText := true, laidKinds := [.data, .data, .data, .sentinel, .sentinel], laidTests := true, laidLooks := .later }
def SdlSpacesUptoCardSaid : Prop := Claim7.holds Tryz.pinned (.plain (OpenSpec.upto sdlSpacesSpec)) sdlSpacesUptoCard

/-- THE SECOND FORM's CARD OF 'supergraphlaw06.SdlReads'. -/
def sdlReadsUptoCard : Claim7 := { stood := { row := sdlReadsUptoRow, standIns := [], harness := (true, "4d4e4c132389ad71c9df420b678394a85db556ba536abb75f97100ada5843ee3"), looks := true }, kinds := [], alts := [], laidByText := true, laidKinds := [.data, .data, .data, .sentinel, .sentinel], laidTests := true, laidLooks := .later }
def SdlReadsUptoCardSaid : Prop := Claim7.holds Tryz.pinned (.plain (OpenSpec.upto sdlReadsSpec)) sdlReadsUptoCard

/-- THE SECOND FORM's CARD OF 'supergraphlaw06.SdlJoins'. -/
def sdlJoinsUptoCard : Claim7 := { stood := { row := sdlJoinsUptoRow, standIns := [], harness := (true, "4d4e4c132389ad71c9df420b678394a85db556ba536abb75f97100ada5843ee3"), looks := true }, kinds := [], alts := [], laidByText := true, laidKinds := [.data, .data, .data, .sentinel, .sentinel], laidTests := true, laidLooks := .later }
def SdlJoinsUptoCardSaid : Prop := Claim7.holds Tryz.pinned (.plain (OpenSpec.upto sdlJoinsSpec)) sdlJoinsUptoCard

/-- THE SECOND FORM's CARD OF 'supergraphlaw07.SdlprintReturns'. -/
def sdlprintReturnsUptoCard : Claim7 := { stood := { row := sdlprintReturnsUptoRow, standIns := [], harness := (true, "4d4e4c132389ad71c9df420b678394a85db556ba536abb75f97100ada5843ee3"), looks := true }, kinds := [], alts := [], laidByText := true, laidKinds := [.data, .data, .data, .sentinel, .sentinel], laidTests := true, laidLooks := .later }
def SdlprintReturnsUptoCardSaid : Prop := Claim7.holds Tryz.pinned (.plain (OpenSpec.upto sdlprintReturnsSpec)) sdlprintReturnsUptoCard
end Rows
end Go.Proofs.YthppafnlnnpciaaGreatDoor
