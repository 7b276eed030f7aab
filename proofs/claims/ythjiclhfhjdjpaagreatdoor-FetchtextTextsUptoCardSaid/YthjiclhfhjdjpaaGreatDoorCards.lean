/-
  DERIVED. GIVEN WITH THE SEED: THE CARDS: each row of YthjiclhfhjdjpaaGreatDoorRows.lean that lists a variable, with what it lists TIED to the program's text (the seventh form; the later family's looks); each row that meets fmt, with fmt's text TOLD by the authors' own Lean function (tested against real Go, not proved from fmt's source: count such statements apart). THE CARD IS WHAT COUNTS. Prove the row's statement (the work); the ties are given (YthjiclhfhjdjpaaGreatDoorTie.lean); close each card by the builder's one call (the guide's Derived/Test/ToyasCard.lean, 'card_holds'). Laid BY PROGRAM, IN A SANDBOX (cutbox-door.mjs). By AI agents, Wed Nov 11 2026. No macro, syntax, notation, axiom, sorry.
-/
import Derived.Test.YthjiclhfhjdjpaaGreatDoorRows
import GoSem.ClaimSeven
namespace Go.Proofs.YthjiclhfhjdjpaaGreatDoor
namespace Rows

/-- THE TIED CARD OF 'supergraphlaw31.FetchtextQueries'. -/
def fetchtextQueriesCard : Claim7 := { stood := { row := fetchtextQueriesRow, standIns := [], harness := (true, "fc8fd278b51013d78935c70f9065f1f8949124ab10a3694d37e45a6637d98a08"), looks := true }, kinds := [], alts := [], laidByText := true, laidKinds := [.data, .data, .data], laidTests := true, laidLooks := .later }
def FetchtextQueriesCardSaid : Prop := Claim7.holds Tryz.pinned (.plain (OpenSpec.ofChange fetchtextQueriesSpec)) fetchtextQueriesCard

/-- THE TIED CARD OF 'supergraphlaw31.FetchtextShows'. -/
def fetchtextShowsCard : Claim7 := { stood := { row := fetchtextShowsRow, standIns := [], harness := (true, "fc8fd278b51013d78935c70f9065f1f8949124ab10a3694d37e45a6637d98a08"), looks := true }, kinds := [], alts := [], laidByText := true, laidKinds := [.data, .data, .data], laidTests := true, laidLooks := .later }
def FetchtextShowsCardSaid : Prop := Claim7.holds Tryz.pinned (.plain (OpenSpec.ofChange fetchtextShowsSpec)) fetchtextShowsCard

/-- THE TIED CARD OF 'supergraphlaw31.FetchtextTexts'. -/
def fetchtextTextsCard : Claim7 := { stood := { row := fetchtextTextsRow, standIns := [], harness := (true, "fc8fd278b51013d78935c70f9065f1f8949124ab10a3694d37e45a6637d98a08"), looks := true }, kinds := [], alts := [], laidByText := true, laidKinds := [.data, .data, .data, .sentinel, .sentinel], laidTests := true, laidLooks := .later }
def FetchtextTextsCardSaid : Prop := Claim7.holds Tryz.pinned (.plain (OpenSpec.ofChange fetchtextTextsSpec)) fetchtextTextsCard

/-- THE TIED CARD OF 'supergraphlaw09.QueryprintWrites'. -/
def queryprintWritesCard : Claim7 := { stood := { row := queryprintWritesRow, standIns := [], harness := (true, "fc8fd278b51013d78935c70f9065f1f8949124ab10a3694d37e45a6637d98a08"), looks := true }, kinds := [], alts := [], laidByText := true, laidKinds := [.data, .data, .data], laidTests := true, laidLooks := .later }
def QueryprintWritesCardSaid : Prop := Claim7.holds Tryz.pinned (.plain (OpenSpec.ofChange queryprintWritesSpec)) queryprintWritesCard

/-- THE TIED CARD OF 'supergraphlaw09.QueryprintCompares'. -/
def queryprintComparesCard : Claim7 := { stood := { row := queryprintComparesRow, standIns := [], harness := (true, "fc8fd278b51013d78935c70f9065f1f8949124ab10a3694d37e45a6637d98a08"), looks := true }, kinds := [], alts := [], laidByText := true, laidKinds := [.data, .data, .data], laidTests := true, laidLooks := .later }
def QueryprintComparesCardSaid : Prop := Claim7.holds Tryz.pinned (.plain (OpenSpec.ofChange queryprintComparesSpec)) queryprintComparesCard

/-- THE TIED CARD OF 'supergraphlaw09.QueryprintReturns'. -/
def queryprintReturnsCard : Claim7 := { stood := { row := queryprintReturnsRow, standIns := [], harness := (true, "fc8fd278b51013d78935c70f9065f1f8949124ab10a3694d37e45a6637d98a08"), looks := true }, kinds := [], alts := [], laidByText := true, laidKinds := [.data, .data, .data, .sentinel, .sentinel], laidTests := true, laidLooks := .later }
def QueryprintReturnsCardSaid : Prop := Claim7.holds Tryz.pinned (.plain (OpenSpec.ofChange queryprintReturnsSpec)) queryprintReturnsCard

/-- THE TIED CARD OF 'supergraphlaw08.QueryParse'. -/
def queryParseCard : Claim7 := { stood := { row := queryParseRow, standIns := [], harness := (true, "fc8fd278b51013d78935c70f9065f1f8949124ab10a3694d37e45a6637d98a08"), looks := true }, kinds := [], alts := [], laidByText := true, laidKinds := [.data, .data, .data, .sentinel, .sentinel], laidTests := true, laidLooks := .later }
def QueryParseCardSaid : Prop := Claim7.holds Tryz.pinned (.plain (OpenSpec.ofChange queryParseSpec)) queryParseCard

/-- THE TIED CARD OF 'supergraphlaw08.QueryRight'. -/
def queryRightCard : Claim7 := { stood := { row := queryRightRow, standIns := [], harness := (true, "fc8fd278b51013d78935c70f9065f1f8949124ab10a3694d37e45a6637d98a08"), looks := true }, kinds := [], alts := [], laidByText := true, laidKinds := [.data, .data, .data, .sentinel, .sentinel], laidTests := true, laidLooks := .later }
def QueryRightCardSaid : Prop := Claim7.holds Tryz.pinned (.plain (OpenSpec.ofChange queryRightSpec)) queryRightCard

/-- THE TIED CARD OF 'supergraphlaw08.QueryParsed'. -/
def queryParsedCard : Claim7 := { stood := { row := queryParsedRow, standIns := [], harness := (true, "fc8fd278b51013d78935c70f9065f1f8949124ab10a3694d37e45a6637d98a08"), looks := true }, kinds := [], alts := [], laidByText := true, laidKinds := [.data, .data, .data, .sentinel, .sentinel], laidTests := true, laidLooks := .later }
def QueryParsedCardSaid : Prop := Claim7.holds Tryz.pinned (.plain (OpenSpec.ofChange queryParsedSpec)) queryParsedCard

/-- THE TIED CARD OF 'supergraphlaw08.QueryJoins'. -/
def queryJoinsCard : Claim7 := { stood := { row := queryJoinsRow, standIns := [], harness := (true, "fc8fd278b51013d78935c70f9065f1f8949124ab10a3694d37e45a6637d98a08"), looks := true }, kinds := [], alts := [], laidByText := true, laidKinds := [.data, .data, .data, .sentinel, .sentinel], laidTests := true, laidLooks := .later }
def QueryJoinsCardSaid : Prop := Claim7.holds Tryz.pinned (.plain (OpenSpec.ofChange queryJoinsSpec)) queryJoinsCard

/-- THE TIED CARD OF 'supergraphlaw08.QueryTokens'. -/
def queryTokensCard : Claim7 := { stood := { row := queryTokensRow, standIns := [], harness := (true, "fc8fd278b51013d78935c70f9065f1f8949124ab10a3694d37e45a6637d98a08"), looks := true }, kinds := [], alts := [], laidByText := true, laidKinds := [.data, .data, .data, .sentinel, .sentinel], laidTests := true, laidLooks := .later }
def QueryTokensCardSaid : Prop := Claim7.holds Tryz.pinned (.plain (OpenSpec.ofChange queryTokensSpec)) queryTokensCard

/-- THE SECOND FORM's CARD OF 'supergraphlaw31.FetchtextQueries'. -/
def fetchtextQueriesUptoCard : Claim7 := { stood := { row := fetchtextQueriesUptoRow, standIns := [], harness := (true, "fc8fd278b51013d78935c70f9065f1f8949124ab10a3694d37e45a6637d98a08"), looks := true }, kinds := [], alts := [], laidByText := true, laidKinds := [.data, .data, .data], laidTests := true, laidLooks := .later }
def FetchtextQueriesUptoCardSaid : Prop := Claim7.holds Tryz.pinned (.plain (OpenSpec.upto fetchtextQueriesSpec)) fetchtextQueriesUptoCard

/-- THE SECOND FORM's CARD OF 'supergraphlaw31.FetchtextShows'. -/
def fetchtextShowsUptoCard : Claim7 := { stood := { row := fetchtextShowsUptoRow, standIns := [], harness := (true, "fc8fd278b51013d78935c70f9065f1f8949124ab10a3694d37e45a6637d98a08"), looks := true }, kinds := [], alts := [], laidByText := true, laidKinds := [.data, .data, .data], laidTests := true, laidLooks := .later }
def FetchtextShowsUptoCardSaid : Prop := Claim7.holds Tryz.pinned (.plain (OpenSpec.upto fetchtextShowsSpec)) fetchtextShowsUptoCard

/-- THE SECOND FORM's CARD OF 'supergraphlaw31.FetchtextTexts'. -/
def fetchtextTextsUptoCard : Claim7 := { stood := { row := fetchtextTextsUptoRow, standIns := [], harness := (true, "fc8fd278b51013d78935c70f9065f1f8949124ab10a3694d37e45a6637d98a08"), looks := true }, kinds := [], alts := [], laidByText := true, laidKinds := [.data, .data, .data, .sentinel, .sentinel], laidTests := true, laidLooks := .later }
def FetchtextTextsUptoCardSaid : Prop := Claim7.holds Tryz.pinned (.plain (OpenSpec.upto fetchtextTextsSpec)) fetchtextTextsUptoCard

/-- THE SECOND FORM's CARD OF 'supergraphlaw09.QueryprintWrites'. -/
def queryprintWritesUptoCard : Claim7 := { stood := { row := queryprintWritesUptoRow, standIns := [], harness := (true, "fc8fd278b51013d78935c70f9065f1f8949124ab10a3694d37e45a6637d98a08"), looks := true }, kinds := [], alts := [], laidByText := true, laidKinds := [.data, .data, .data], laidTests := true, laidLooks := .later }
def QueryprintWritesUptoCardSaid : Prop := Claim7.holds Tryz.pinned (.plain (OpenSpec.upto queryprintWritesSpec)) queryprintWritesUptoCard

/-- THE SECOND FORM's CARD OF 'supergraphlaw09.QueryprintCompares'. -/
def queryprintComparesUptoCard : Claim7 := { stood := { row := queryprintComparesUptoRow, standIns := [], harness := (true, "fc8fd278b51013d78935c70f9065f1f8949124ab10a3694d37e45a6637d98a08"), looks := true }, kinds := [], alts := [], laidByText := true, laidKinds := [.data, .data, .data], laidTests := true, laidLooks := .later }
def QueryprintComparesUptoCardSaid : Prop := Claim7.holds Tryz.pinned (.plain (OpenSpec.upto queryprintComparesSpec)) queryprintComparesUptoCard

/-- THE SECOND FORM's CARD OF 'supergraphlaw09.QueryprintReturns'. -/
def queryprintReturnsUptoCard : Claim7 := { stood := { row := queryprintReturnsUptoRow, standIns := [], harness := (true, "fc8fd278b51013d78935c70f9065f1f8949124ab10a3694d37e45a6637d98a08"), looks := true }, kinds := [], alts := [], laidByText := true, laidKinds := [.data, .data, .data, .sentinel, .sentinel], laidTests := true, laidLooks := .later }
def QueryprintReturnsUptoCardSaid : Prop := Claim7.holds Tryz.pinned (.plain (OpenSpec.upto queryprintReturnsSpec)) queryprintReturnsUptoCard

/-- THE SECOND FORM's CARD OF 'supergraphlaw08.QueryParse'. -/
def queryParseUptoCard : Claim7 := { stood := { row := queryParseUptoRow, standIns := [], harness := (true, "fc8fd278b51013d78935c70f9065f1f8949124ab10a3694d37e45a6637d98a08"), looks := true }, kinds := [], alts := [], laidByText := true, laidKinds := [.data, .data, .data, .sentinel, .sentinel], laidTests := true, laidLooks := .later }
def QueryParseUptoCardSaid : Prop := Claim7.holds Tryz.pinned (.plain (OpenSpec.upto queryParseSpec)) queryParseUptoCard

/-- THE SECOND FORM's CARD OF 'supergraphlaw08.QueryRight'. -/
def queryRightUptoCard : Claim7 := { stood := { row := queryRightUptoRow, standIns := [], harness := (true, "fc8fd278b51013d78935c70f9065f1f8949124ab10a3694d37e45a6637d98a08"), looks := true }, kinds := [], alts := [], laidByText := true, laidKinds := [.data, .data, .data, .sentinel, .sentinel], laidTests := true, laidLooks := .later }
def QueryRightUptoCardSaid : Prop := Claim7.holds Tryz.pinned (.plain (OpenSpec.upto queryRightSpec)) queryRightUptoCard

/-- THE SECOND FORM's CARD OF 'supergraphlaw08.QueryParsed'. -/
def queryParsedUptoCard : Claim7 := { stood := { row := queryParsedUptoRow, standIns := [], harness := (true, "fc8fd278b51013d78935c70f9065f1f8949124ab10a3694d37e45a6637d98a08"), looks := true }, kinds := [], alts := [], laidByText := true, laidKinds := [.data, .data, .data, .sentinel, .sentinel], laidTests := true, laidLooks := .later }
def QueryParsedUptoCardSaid : Prop := Claim7.holds Tryz.pinned (.plain (OpenSpec.upto queryParsedSpec)) queryParsedUptoCard

/-- THE SECOND FORM's CARD OF 'supergraphlaw08.QueryJoins'. -/
def queryJoinsUptoCard : Claim7 := { stood := { row := queryJoinsUptoRow, standIns := [], harness := (true, "fc8fd278b51013d78935c70f9065f1f8949124ab10a3694d37e45a6637d98a08"), looks := true }, kinds := [], alts := [], laidByText := true, laidKinds := [.data, .data, .data, .sentinel, .sentinel], laidTests := true, laidLooks := .later }
def QueryJoinsUptoCardSaid : Prop := Claim7.holds Tryz.pinned (.plain (OpenSpec.upto queryJoinsSpec)) queryJoinsUptoCard

/-- THE SECOND FORM's CARD OF 'supergraphlaw08.QueryTokens'. -/
def queryTokensUptoCard : Claim7 := { stood := { row := queryTokensUptoRow, standIns := [], harness := (true, "fc8fd278b51013d78935c70f9065f1f8949124ab10a3694d37e45a6637d98a08"), looks := true }, kinds := [], alts := [], laidByText := true, laidKinds := [.data, .data, .data, .sentinel, .sentinel], laidTests := true, laidLooks := .later }
def QueryTokensUptoCardSaid : Prop := Claim7.holds Tryz.pinned (.plain (OpenSpec.upto queryTokensSpec)) queryTokensUptoCard
end Rows
end Go.Proofs.YthjiclhfhjdjpaaGreatDoor
