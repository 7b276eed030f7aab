/-
  DERIVED. GIVEN WITH THE SEED: THE CARDS: each row of YtdlnnlglmifceaaGreatDoorRows.lean that lists a variable, with what it lists TIED to the program's text (the seventh form; the later family's looks); each row that meets fmt, with fmt's text TOLD by the authors' own Lean function (tested against real Go, not proved from fmt's source: count such statements apart). THE CARD IS WHAT COUNTS. Prove the row's statement (the work); the ties are given (YtdlnnlglmifceaaGreatDoorTie.lean); close each card by the builder's one call (the guide's Derived/Test/ToyasCard.lean, 'card_holds'). Laid BY PROGRAM, IN A SANDBOX (cutbox-door.mjs). By AI agents, Wed Nov 11 2026. No macro, syntax, notation, axiom, sorry.
-/
import Derived.Test.YtdlnnlglmifceaaGreatDoorRows
import GoSem.ClaimSeven
namespace Go.Proofs.YtdlnnlglmifceaaGreatDoor
namespace Rows

/-- THE TIED CARD OF 'supergraphlaw08.QueryRight'. -/
def queryRightCard : Claim7 := { stood := { row := queryRightRow, standIns := [], harness := (true, "3cf3b343671e9cd218351c80b6f5ba8a144118da42ae9789176614d31201e83e"), looks := true }, kinds := [], alts := [], laidByText := true, laidKinds := [.data, .data, .data, .sentinel, .sentinel], laidTests := true, laidLooks := .later }
def QueryRightCardSaid : Prop := Claim7.holds Tryz.pinned (.plain (OpenSpec.ofChange queryRightSpec)) queryRightCard

/-- THE TIED CARD OF 'supergraphlaw31.FetchtextQueries'. -/
def fetchtextQueriesCard : Claim7 := { stood := { row := fetchtextQueriesRow, standIns := [], harness := (true, "3cf3b343671e9cd218351c80b6f5ba8a144118da42ae9789176614d31201e83e"), looks := true }, kinds := [], alts := [], laidByText := true, laidKinds := [.data, .data, .data], laidTests := true, laidLooks := .later }
def FetchtextQueriesCardSaid : Prop := Claim7.holds Tryz.pinned (.plain (OpenSpec.ofChange fetchtextQueriesSpec)) fetchtextQueriesCard

/-- THE SECOND FORM's CARD OF 'supergraphlaw08.QueryRight'. -/
def queryRightUptoCard : Claim7 := { stood := { row := queryRightUptoRow, standIns := [], harness := (true, "3cf3b343671e9cd218351c80b6f5ba8a144118da42ae9789176614d31201e83e"), looks := true }, kinds := [], alts := [], laidByText := true, laidKinds := [.data, .data, .data, .sentinel, .sentinel], laidTests := true, laidLooks := .later }
def QueryRightUptoCardSaid : Prop := Claim7.holds Tryz.pinned (.plain (OpenSpec.upto queryRightSpec)) queryRightUptoCard

/-- THE SECOND FORM's CARD OF 'supergraphlaw31.FetchtextQueries'. -/
def fetchtextQueriesUptoCard : Claim7 := { stood := { row := fetchtextQueriesUptoRow, standIns := [], harness := (true, "3cf3b343671e9cd218351c80b6f5ba8a144118da42ae9789176614d31201e83e"), looks := true }, kinds := [], alts := [], laidByText := true, laidKinds := [.data, .data, .data], laidTests := true, laidLooks := .later }
def FetchtextQueriesUptoCardSaid : Prop := Claim7.holds Tryz.pinned (.plain (OpenSpec.upto fetchtextQueriesSpec)) fetchtextQueriesUptoCard
end Rows
end Go.Proofs.YtdlnnlglmifceaaGreatDoor
