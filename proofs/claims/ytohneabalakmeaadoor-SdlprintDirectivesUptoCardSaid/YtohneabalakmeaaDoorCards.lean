/-
  DERIVED. GIVEN WITH THE SEED: THE CARDS: each row of YtohneabalakmeaaDoorRows.lean that lists a variable, with what it lists TIED to the program's text (the seventh form; the later family's looks); each row that meets fmt, with fmt's text TOLD by the authors' own Lean function (tested against real Go, not proved from fmt's source: count such statements apart). THE CARD IS WHAT COUNTS. Prove the row's statement (the work); the ties are given (YtohneabalakmeaaDoorTie.lean); close each card by the builder's one call (the guide's Derived/Test/ToyasCard.lean, 'card_holds'). Laid BY PROGRAM, IN A SANDBOX (cutbox-door.mjs). By AI agents, Wed Nov 11 2026. No macro, syntax, notation, axiom, sorry.
-/
import Derived.Test.YtohneabalakmeaaDoorRows
import GoSem.ClaimSeven
namespace Go.Proofs.YtohneabalakmeaaDoor
namespace Rows

/-- THE TIED CARD OF 'supergraphlaw01.TextQuotes'. -/
def textQuotesCard : Claim7 := { stood := { row := textQuotesRow, standIns := [], harness := (true, "6158b4442f780bf845240918ab80e32989d466240fb3024456821a7c652aeb7d"), looks := true }, kinds := [], alts := [], laidByText := true, laidKinds := [.data, .data, .data, .sentinel, .sentinel], laidTests := true, laidLooks := .later }
def TextQuotesCardSaid : Prop := Claim7.holds Tryd.pinned (.plain (OpenSpec.ofChange textQuotesSpec)) textQuotesCard

/-- THE TIED CARD OF 'supergraphlaw01.TextNumbers'. -/
def textNumbersCard : Claim7 := { stood := { row := textNumbersRow, standIns := [], harness := (true, "6158b4442f780bf845240918ab80e32989d466240fb3024456821a7c652aeb7d"), looks := true }, kinds := [], alts := [], laidByText := true, laidKinds := [.data, .data, .data, .sentinel, .sentinel], laidTests := true, laidLooks := .later }
def TextNumbersCardSaid : Prop := Claim7.holds Tryd.pinned (.plain (OpenSpec.ofChange textNumbersSpec)) textNumbersCard

/-- THE TIED CARD OF 'supergraphlaw01.TextNames'. -/
def textNamesCard : Claim7 := { stood := { row := textNamesRow, standIns := [], harness := (true, "6158b4442f780bf845240918ab80e32989d466240fb3024456821a7c652aeb7d"), looks := true }, kinds := [], alts := [], laidByText := true, laidKinds := [.data, .data, .data, .sentinel, .sentinel], laidTests := true, laidLooks := .later }
def TextNamesCardSaid : Prop := Claim7.holds Tryd.pinned (.plain (OpenSpec.ofChange textNamesSpec)) textNamesCard

/-- THE TIED CARD OF 'supergraphlaw01.TextReturns'. -/
def textReturnsCard : Claim7 := { stood := { row := textReturnsRow, standIns := [], harness := (true, "6158b4442f780bf845240918ab80e32989d466240fb3024456821a7c652aeb7d"), looks := true }, kinds := [], alts := [], laidByText := true, laidKinds := [.data, .data, .data, .sentinel, .sentinel], laidTests := true, laidLooks := .later }
def TextReturnsCardSaid : Prop := Claim7.holds Tryd.pinned (.plain (OpenSpec.ofChange textReturnsSpec)) textReturnsCard

/-- THE TIED CARD OF 'supergraphlaw01.TextUnquotes'. -/
def textUnquotesCard : Claim7 := { stood := { row := textUnquotesRow, standIns := [], harness := (true, "6158b4442f780bf845240918ab80e32989d466240fb3024456821a7c652aeb7d"), looks := true }, kinds := [], alts := [], laidByText := true, laidKinds := [.data, .data, .data, .sentinel, .sentinel], laidTests := true, laidLooks := .later }
def TextUnquotesCardSaid : Prop := Claim7.holds Tryd.pinned (.plain (OpenSpec.ofChange textUnquotesSpec)) textUnquotesCard

/-- THE TIED CARD OF 'supergraphlaw44.HintJoins'. -/
def hintJoinsCard : Claim7 := { stood := { row := hintJoinsRow, standIns := [], harness := (true, "6158b4442f780bf845240918ab80e32989d466240fb3024456821a7c652aeb7d"), looks := true }, kinds := [], alts := [], laidByText := true, laidKinds := [.data, .data, .data, .sentinel, .sentinel], laidTests := true, laidLooks := .later }
def HintJoinsCardSaid : Prop := Claim7.holds Tryd.pinned (.plain (OpenSpec.ofChange hintJoinsSpec)) hintJoinsCard

/-- THE TIED CARD OF 'supergraphlaw44.HintTexts'. -/
def hintTextsCard : Claim7 := { stood := { row := hintTextsRow, standIns := [], harness := (true, "6158b4442f780bf845240918ab80e32989d466240fb3024456821a7c652aeb7d"), looks := true }, kinds := [], alts := [], laidByText := true, laidKinds := [.data, .data, .data, .sentinel, .sentinel], laidTests := true, laidLooks := .later }
def HintTextsCardSaid : Prop := Claim7.holds Tryd.pinned (.plain (OpenSpec.ofChange hintTextsSpec)) hintTextsCard

/-- THE TIED CARD OF 'supergraphlaw44.HintFields'. -/
def hintFieldsCard : Claim7 := { stood := { row := hintFieldsRow, standIns := [], harness := (true, "6158b4442f780bf845240918ab80e32989d466240fb3024456821a7c652aeb7d"), looks := true }, kinds := [], alts := [], laidByText := true, laidKinds := [.data, .data, .data, .sentinel, .sentinel], laidTests := true, laidLooks := .later }
def HintFieldsCardSaid : Prop := Claim7.holds Tryd.pinned (.plain (OpenSpec.ofChange hintFieldsSpec)) hintFieldsCard

/-- THE TIED CARD OF 'supergraphlaw07.SdlprintValues'. -/
def sdlprintValuesCard : Claim7 := { stood := { row := sdlprintValuesRow, standIns := [], harness := (true, "6158b4442f780bf845240918ab80e32989d466240fb3024456821a7c652aeb7d"), looks := true }, kinds := [], alts := [], laidByText := true, laidKinds := [.data, .data, .data], laidTests := true, laidLooks := .later }
def SdlprintValuesCardSaid : Prop := Claim7.holds Tryd.pinned (.plain (OpenSpec.ofChange sdlprintValuesSpec)) sdlprintValuesCard

/-- THE TIED CARD OF 'supergraphlaw07.SdlprintDirectives'. -/
def sdlprintDirectivesCard : Claim7 := { stood := { row := sdlprintDirectivesRow, standIns := [], harness := (true, "6158b4442f780bf845240918ab80e32989d466240fb3024456821a7c652aeb7d"), looks := true }, kinds := [], alts := [], laidByText := true, laidKinds := [.data, .data, .data], laidTests := true, laidLooks := .later }
def SdlprintDirectivesCardSaid : Prop := Claim7.holds Tryd.pinned (.plain (OpenSpec.ofChange sdlprintDirectivesSpec)) sdlprintDirectivesCard

/-- THE TIED CARD OF 'supergraphlaw07.SdlprintTexts'. -/
def sdlprintTextsCard : Claim7 := { stood := { row := sdlprintTextsRow, standIns := [], harness := (true, "6158b4442f780bf845240918ab80e32989d466240fb3024456821a7c652aeb7d"), looks := true }, kinds := [], alts := [], laidByText := true, laidKinds := [.data, .data, .data], laidTests := true, laidLooks := .later }
def SdlprintTextsCardSaid : Prop := Claim7.holds Tryd.pinned (.plain (OpenSpec.ofChange sdlprintTextsSpec)) sdlprintTextsCard

/-- THE TIED CARD OF 'supergraphlaw07.SdlprintSames'. -/
def sdlprintSamesCard : Claim7 := { stood := { row := sdlprintSamesRow, standIns := [], harness := (true, "6158b4442f780bf845240918ab80e32989d466240fb3024456821a7c652aeb7d"), looks := true }, kinds := [], alts := [], laidByText := true, laidKinds := [.data, .data, .data], laidTests := true, laidLooks := .later }
def SdlprintSamesCardSaid : Prop := Claim7.holds Tryd.pinned (.plain (OpenSpec.ofChange sdlprintSamesSpec)) sdlprintSamesCard

/-- THE SECOND FORM's CARD OF 'supergraphlaw01.TextQuotes'. -/
def textQuotesUptoCard : Claim7 := { stood := { row := textQuotesUptoRow, standIns := [], harness := (true, "6158b4442f780bf845240918ab80e32989d466240fb3024456821a7c652aeb7d"), looks := true }, kinds := [], alts := [], laidByText := true, laidKinds := [.data, .data, .data, .sentinel, .sentinel], laidTests := true, laidLooks := .later }
def TextQuotesUptoCardSaid : Prop := Claim7.holds Tryd.pinned (.plain (OpenSpec.upto textQuotesSpec)) textQuotesUptoCard

/-- THE SECOND FORM's CARD OF 'supergraphlaw01.TextNumbers'. -/
def textNumbersUptoCard : Claim7 := { stood := { row := textNumbersUptoRow, standIns := [], harness := (true, "6158b4442f780bf845240918ab80e32989d466240fb3024456821a7c652aeb7d"), looks := true }, kinds := [], alts := [], laidByText := true, laidKinds := [.data, .data, .data, .sentinel, .sentinel], laidTests := true, laidLooks := .later }
def TextNumbersUptoCardSaid : Prop := Claim7.holds Tryd.pinned (.plain (OpenSpec.upto textNumbersSpec)) textNumbersUptoCard

/-- THE SECOND FORM's CARD OF 'supergraphlaw01.TextNames'. -/
def textNamesUptoCard : Claim7 := { stood := { row := textNamesUptoRow, standIns := [], harness := (true, "6158b4442f780bf845240918ab80e32989d466240fb3024456821a7c652aeb7d"), looks := true }, kinds := [], alts := [], laidByText := true, laidKinds := [.data, .data, .data, .sentinel, .sentinel], laidTests := true, laidLooks := .later }
def TextNamesUptoCardSaid : Prop := Claim7.holds Tryd.pinned (.plain (OpenSpec.upto textNamesSpec)) textNamesUptoCard

/-- THE SECOND FORM's CARD OF 'supergraphlaw01.TextReturns'. -/
def textReturnsUptoCard : Claim7 := { stood := { row := textReturnsUptoRow, standIns := [], harness := (true, "6158b4442f780bf845240918ab80e32989d466240fb3024456821a7c652aeb7d"), looks := true }, kinds := [], alts := [], laidByText := true, laidKinds := [.data, .data, .data, .sentinel, .sentinel], laidTests := true, laidLooks := .later }
def TextReturnsUptoCardSaid : Prop := Claim7.holds Tryd.pinned (.plain (OpenSpec.upto textReturnsSpec)) textReturnsUptoCard

/-- THE SECOND FORM's CARD OF 'supergraphlaw01.TextUnquotes'. -/
def textUnquotesUptoCard : Claim7 := { stood := { row := textUnquotesUptoRow, standIns := [], harness := (true, "6158b4442f780bf845240918ab80e32989d466240fb3024456821a7c652aeb7d"), looks := true }, kinds := [], alts := [], laidByText := true, laidKinds := [.data, .data, .data, .sentinel, .sentinel], laidTests := true, laidLooks := .later }
def TextUnquotesUptoCardSaid : Prop := Claim7.holds Tryd.pinned (.plain (OpenSpec.upto textUnquotesSpec)) textUnquotesUptoCard

/-- THE SECOND FORM's CARD OF 'supergraphlaw44.HintJoins'. -/
def hintJoinsUptoCard : Claim7 := { stood := { row := hintJoinsUptoRow, standIns := [], harness := (true, "6158b4442f780bf845240918ab80e32989d466240fb3024456821a7c652aeb7d"), looks := true }, kinds := [], alts := [], laidByText := true, laidKinds := [.data, .data, .data, .sentinel, .sentinel], laidTests := true, laidLooks := .later }
def HintJoinsUptoCardSaid : Prop := Claim7.holds Tryd.pinned (.plain (OpenSpec.upto hintJoinsSpec)) hintJoinsUptoCard

/-- THE SECOND FORM's CARD OF 'supergraphlaw44.HintTexts'. -/
def hintTextsUptoCard : Claim7 := { stood := { row := hintTextsUptoRow, standIns := [], harness := (true, "6158b4442f780bf845240918ab80e32989d466240fb3024456821a7c652aeb7d"), looks := true }, kinds := [], alts := [], laidByText := true, laidKinds := [.data, .data, .data, .sentinel, .sentinel], laidTests := true, laidLooks := .later }
def HintTextsUptoCardSaid : Prop := Claim7.holds Tryd.pinned (.plain (OpenSpec.upto hintTextsSpec)) hintTextsUptoCard

/-- THE SECOND FORM's CARD OF 'supergraphlaw44.HintFields'. -/
def hintFieldsUptoCard : Claim7 := { stood := { row := hintFieldsUptoRow, standIns := [], harness := (true, "6158b4442f780bf845240918ab80e32989d466240fb3024456821a7c652aeb7d"), looks := true }, kinds := [], alts := [], laidByText := true, laidKinds := [.data, .data, .data, .sentinel, .sentinel], laidTests := true, laidLooks := .later }
def HintFieldsUptoCardSaid : Prop := Claim7.holds Tryd.pinned (.plain (OpenSpec.upto hintFieldsSpec)) hintFieldsUptoCard

/-- THE SECOND FORM's CARD OF 'supergraphlaw07.SdlprintValues'. -/
def sdlprintValuesUptoCard : Claim7 := { stood := { row := sdlprintValuesUptoRow, standIns := [], harness := (true, "6158b4442f780bf845240918ab80e32989d466240fb3024456821a7c652aeb7d"), looks := true }, kinds := [], alts := [], laidByText := true, laidKinds := [.data, .data, .data], laidTests := true, laidLooks := .later }
def SdlprintValuesUptoCardSaid : Prop := Claim7.holds Tryd.pinned (.plain (OpenSpec.upto sdlprintValuesSpec)) sdlprintValuesUptoCard

/-- THE SECOND FORM's CARD OF 'supergraphlaw07.SdlprintDirectives'. -/
def sdlprintDirectivesUptoCard : Claim7 := { stood := { row := sdlprintDirectivesUptoRow, standIns := [], harness := (true, "6158b4442f780bf845240918ab80e32989d466240fb3024456821a7c652aeb7d"), looks := true }, kinds := [], alts := [], laidByText := true, laidKinds := [.data, .data, .data], laidTests := true, laidLooks := .later }
def SdlprintDirectivesUptoCardSaid : Prop := Claim7.holds Tryd.pinned (.plain (OpenSpec.upto sdlprintDirectivesSpec)) sdlprintDirectivesUptoCard

/-- THE SECOND FORM's CARD OF 'supergraphlaw07.SdlprintTexts'. -/
def sdlprintTextsUptoCard : Claim7 := { stood := { row := sdlprintTextsUptoRow, standIns := [], harness := (true, "6158b4442f780bf845240918ab80e32989d466240fb3024456821a7c652aeb7d"), looks := true }, kinds := [], alts := [], laidByText := true, laidKinds := [.data, .data, .data], laidTests := true, laidLooks := .later }
def SdlprintTextsUptoCardSaid : Prop := Claim7.holds Tryd.pinned (.plain (OpenSpec.upto sdlprintTextsSpec)) sdlprintTextsUptoCard

/-- THE SECOND FORM's CARD OF 'supergraphlaw07.SdlprintSames'. -/
def sdlprintSamesUptoCard : Claim7 := { stood := { row := sdlprintSamesUptoRow, standIns := [], harness := (true, "6158b4442f780bf845240918ab80e32989d466240fb3024456821a7c652aeb7d"), looks := true }, kinds := [], alts := [], laidByText := true, laidKinds := [.data, .data, .data], laidTests := true, laidLooks := .later }
def SdlprintSamesUptoCardSaid : Prop := Claim7.holds Tryd.pinned (.plain (OpenSpec.upto sdlprintSamesSpec)) sdlprintSamesUptoCard
end Rows
end Go.Proofs.YtohneabalakmeaaDoor
