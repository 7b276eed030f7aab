/- FetchtextQueries: for every input, the law returns true and its arguments read as they did. Condition: the listed package variables hold what their initialisers lay (the row lists them). -/
import Derived.Test.YtdlnnlglmifceaaGreatDoorV33
namespace Go.Proofs.YtdlnnlglmifceaaGreatDoor
open Go.ChangeShapes Go.WideShapes Go.ChangeAt Go.RowKit
attribute [local irreducible] wpList Calls Code.wp
/-- THE CARD -/
theorem cardFetchtextQueries : Rows.FetchtextQueriesCardSaid :=
  Claim7.holds_tied_plain_at .later [] _ _ _ _ zCf (fun _ h => by cases h) (by as_aux_lemma => kernel_rfl) (fun _ h => by cases h) fetchtextQueries_row_tie rfl ⟨rfl, rfl⟩ (by as_aux_lemma => kernel_rfl) rfl zCE (by as_aux_lemma => kernel_rfl)
end Go.Proofs.YtdlnnlglmifceaaGreatDoor
