/-
  DERIVED. GIVEN WITH THE SEED: THE CARDS: each row of YtdlnnlglmifceaaDoorRows.lean that lists a variable, with what it lists TIED to the program's text (the seventh form; the later family's looks); each row that meets fmt, with fmt's text TOLD by the authors' own Lean function (tested against real Go, not proved from fmt's source: count such statements apart). THE CARD IS WHAT COUNTS. Prove the row's statement (the work); the ties are given (YtdlnnlglmifceaaDoorTie.lean); close each card by the builder's one call (the guide's Derived/Test/ToyasCard.lean, 'card_holds'). Laid BY PROGRAM, IN A SANDBOX (cutbox-door.mjs). By AI agents, Wed Nov 11 2026. No macro, syntax, notation, axiom, sorry.
-/
import Derived.Test.YtdlnnlglmifceaaDoorRows
import GoSem.ClaimSeven
namespace Go.Proofs.YtdlnnlglmifceaaDoor
namespace Rows

/-- THE TIED CARD OF 'supergraphlaw07.SdlprintSames'. -/
def sdlprintSamesCard : Claim7 := { stood := { row := sdlprintSamesRow, standIns := [], harness := (true, "5204505bcd5fc72fd43d3ecbdd51d3d503d32f584a0524ad9b9aec145c7c67ab"), looks := false }, kinds := [], alts := [], laidByText := true, laidKinds := [.data, .data, .data], laidTests := true, laidLooks := .later }
def SdlprintSamesCardSaid : Prop := Claim7.holds Tryd.pinned (.plain (OpenSpec.ofChange sdlprintSamesSpec)) sdlprintSamesCard

/-- THE SECOND FORM's CARD OF 'supergraphlaw07.SdlprintSames'. -/
def sdlprintSamesUptoCard : Claim7 := { stood := { row := sdlprintSamesUptoRow, standIns := [], harness := (true, "5204505bcd5fc72fd43d3ecbdd51d3d503d32f584a0524ad9b9aec145c7c67ab"), looks := false }, kinds := [], alts := [], laidByText := true, laidKinds := [.data, .data, .data], laidTests := true, laidLooks := .later }
def SdlprintSamesUptoCardSaid : Prop := Claim7.holds Tryd.pinned (.plain (OpenSpec.upto sdlprintSamesSpec)) sdlprintSamesUptoCard
end Rows
end Go.Proofs.YtdlnnlglmifceaaDoor
