/-
  DERIVED. GIVEN WITH THE SEED: THE CARDS: each row of YtmacnffbainepaaDoorRows.lean that lists a variable, with what it lists TIED to the program's text (the seventh form; the later family's looks); each row that meets fmt, with fmt's text TOLD by the authors' own Lean function (tested against real Go, not proved from fmt's source: count such statements apart). THE CARD IS WHAT COUNTS. Prove the row's statement (the work); the ties are given (YtmacnffbainepaaDoorTie.lean); close each card by the builder's one call (the guide's Derived/Test/ToyasCard.lean, 'card_holds'). Laid BY PROGRAM, IN A SANDBOX (cutbox-door.mjs). By AI agents, Wed Nov 11 2026. No macro, syntax, notation, axiom, sorry.
-/
import Derived.Test.YtmacnffbainepaaDoorRows
import GoSem.ClaimSeven
namespace Go.Proofs.YtmacnffbainepaaDoor
namespace Rows

/-- THE TIED CARD OF 'supergraphlaw41.DigestSums'. -/
def digestSumsCard : Claim7 := { stood := { row := digestSumsRow, standIns := [], harness := (true, "1ecb14fb6b328ca678c24e297c5ace392519f70a50002171af01768f89360f54"), looks := false }, kinds := [], alts := [], laidByText := true, laidKinds := [.data], laidTests := true, laidLooks := .later }
def DigestSumsCardSaid : Prop := Claim7.holds Tryd.pinned (.plain (OpenSpec.ofChange digestSumsSpec)) digestSumsCard

/-- THE TIED CARD OF 'supergraphlaw41.DigestLengths'. -/
def digestLengthsCard : Claim7 := { stood := { row := digestLengthsRow, standIns := [], harness := (true, "1ecb14fb6b328ca678c24e297c5ace392519f70a50002171af01768f89360f54"), looks := false }, kinds := [], alts := [], laidByText := true, laidKinds := [.data], laidTests := true, laidLooks := .later }
def DigestLengthsCardSaid : Prop := Claim7.holds Tryd.pinned (.plain (OpenSpec.ofChange digestLengthsSpec)) digestLengthsCard

/-- THE TIED CARD OF 'supergraphlaw41.DigestHex'. -/
def digestHexCard : Claim7 := { stood := { row := digestHexRow, standIns := [], harness := (true, "1ecb14fb6b328ca678c24e297c5ace392519f70a50002171af01768f89360f54"), looks := false }, kinds := [], alts := [], laidByText := true, laidKinds := [.data], laidTests := true, laidLooks := .later }
def DigestHexCardSaid : Prop := Claim7.holds Tryd.pinned (.plain (OpenSpec.ofChange digestHexSpec)) digestHexCard

/-- THE TIED CARD OF 'supergraphlaw41.DigestIds'. -/
def digestIdsCard : Claim7 := { stood := { row := digestIdsRow, standIns := [], harness := (true, "1ecb14fb6b328ca678c24e297c5ace392519f70a50002171af01768f89360f54"), looks := false }, kinds := [], alts := [], laidByText := true, laidKinds := [.data], laidTests := true, laidLooks := .later }
def DigestIdsCardSaid : Prop := Claim7.holds Tryd.pinned (.plain (OpenSpec.ofChange digestIdsSpec)) digestIdsCard

/-- THE SECOND FORM's CARD OF 'supergraphlaw41.DigestSums'. -/
def digestSumsUptoCard : Claim7 := { stood := { row := digestSumsUptoRow, standIns := [], harness := (true, "1ecb14fb6b328ca678c24e297c5ace392519f70a50002171af01768f89360f54"), looks := false }, kinds := [], alts := [], laidByText := true, laidKinds := [.data], laidTests := true, laidLooks := .later }
def DigestSumsUptoCardSaid : Prop := Claim7.holds Tryd.pinned (.plain (OpenSpec.upto digestSumsSpec)) digestSumsUptoCard

/-- THE SECOND FORM's CARD OF 'supergraphlaw41.DigestLengths'. -/
def digestLengthsUptoCard : Claim7 := { stood := { row := digestLengthsUptoRow, standIns := [], harness := (true, "1ecb14fb6b328ca678c24e297c5ace392519f70a50002171af01768f89360f54"), looks := false }, kinds := [], alts := [], laidByText := true, laidKinds := [.data], laidTests := true, laidLooks := .later }
def DigestLengthsUptoCardSaid : Prop := Claim7.holds Tryd.pinned (.plain (OpenSpec.upto digestLengthsSpec)) digestLengthsUptoCard

/-- THE SECOND FORM's CARD OF 'supergraphlaw41.DigestHex'. -/
def digestHexUptoCard : Claim7 := { stood := { row := digestHexUptoRow, standIns := [], harness := (true, "1ecb14fb6b328ca678c24e297c5ace392519f70a50002171af01768f89360f54"), looks := false }, kinds := [], alts := [], laidByText := true, laidKinds := [.data], laidTests := true, laidLooks := .later }
def DigestHexUptoCardSaid : Prop := Claim7.holds Tryd.pinned (.plain (OpenSpec.upto digestHexSpec)) digestHexUptoCard

/-- THE SECOND FORM's CARD OF 'supergraphlaw41.DigestIds'. -/
def digestIdsUptoCard : Claim7 := { stood := { row := digestIdsUptoRow, standIns := [], harness := (true, "1ecb14fb6b328ca678c24e297c5ace392519f70a50002171af01768f89360f54"), looks := false }, kinds := [], alts := [], laidByText := true, laidKinds := [.data], laidTests := true, laidLooks := .later }
def DigestIdsUptoCardSaid : Prop := Claim7.holds Tryd.pinned (.plain (OpenSpec.upto digestIdsSpec)) digestIdsUptoCard
end Rows
end Go.Proofs.YtmacnffbainepaaDoor
