/-
  DERIVED. GIVEN WITH THE SEED: THE CARDS: each row of YtdchiceeheiciaaGreatDoorRows.lean that lists a variable, with what it lists TIED to the program's text (the seventh form; the later family's looks); each row that meets fmt, with fmt's text TOLD by the authors' own Lean function (tested against real Go, not proved from fmt's source: count such statements apart). THE CARD IS WHAT COUNTS. Prove the row's statement (the work); the ties are given (YtdchiceeheiciaaGreatDoorTie.lean); close each card by the builder's one call (the guide's Derived/Test/ToyasCard.lean, 'card_holds'). Laid BY PROGRAM, IN A SANDBOX (cutbox-door.mjs). By AI agents, Wed Nov 11 2026. No macro, syntax, notation, axiom, sorry.
-/
import Derived.Test.YtdchiceeheiciaaGreatDoorRows
import GoSem.ClaimSeven
namespace Go.Proofs.YtdchiceeheiciaaGreatDoor
namespace Rows

/-- THE TIED CARD OF 'supergraphlaw28.ComposeExplainExact'. -/
def composeExplainExactCard : Claim7 := { stood := { row := composeExplainExactRow, standIns := [], harness := (true, "9eff934a935802809360899c32b81b84b5e43debe8d61b0564175d5fee2c8901"), looks := false }, kinds := [], alts := [], laidByText := true, laidKinds := [.data, .data, .data, .data, .pinned, .pinned, .pinned, .pinned, .pinned, .pinned], laidTests := true, laidLooks := .later }
def ComposeExplainExactCardSaid : Prop := Claim7.holds Tryz.pinned (.plain (OpenSpec.ofChange composeExplainExactSpec)) composeExplainExactCard

/-- THE SECOND FORM's CARD OF 'supergraphlaw28.ComposeExplainExact'. -/
def composeExplainExactUptoCard : Claim7 := { stood := { row := composeExplainExactUptoRow, standIns := [], harness := (true, "9eff934a935802809360899c32b81b84b5e43debe8d61b0564175d5fee2c8901"), looks := false }, kinds := [], alts := [], laidByText := true, laidKinds := [.data, .data, .data, .data, .pinned, .pinned, .pinned, .pinned, .pinned, .pinned], laidTests := true, laidLooks := .later }
def ComposeExplainExactUptoCardSaid : Prop := Claim7.holds Tryz.pinned (.plain (OpenSpec.upto composeExplainExactSpec)) composeExplainExactUptoCard
end Rows
end Go.Proofs.YtdchiceeheiciaaGreatDoor
