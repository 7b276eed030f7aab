/- ComposeExplainExact: for every input, the law returns true and its arguments read as they did. Condition: the listed package variables hold what their initialisers lay (the row lists them). -/
import Derived.Test.YtdchiceeheiciaaGreatDoorQ26
namespace Go.Proofs.YtdchiceeheiciaaGreatDoor
open Go.ChangeShapes Go.WideShapes Go.ChangeAt Go.RowKit
attribute [local irreducible] wpList Calls Code.wp
/-- THE CARD -/
theorem cardComposeExplainExact : Rows.ComposeExplainExactCardSaid :=
  Claim7.holds_tied_plain_at .later [] _ _ _ _ saidComposeExplainExact (fun _ h => by cases h) (by as_aux_lemma => kernel_rfl) (fun _ h => by cases h) composeExplainExact_row_tie rfl ⟨rfl, rfl⟩ (by as_aux_lemma => kernel_rfl) rfl plainComposeExplainExact (by as_aux_lemma => kernel_rfl)
end Go.Proofs.YtdchiceeheiciaaGreatDoor
