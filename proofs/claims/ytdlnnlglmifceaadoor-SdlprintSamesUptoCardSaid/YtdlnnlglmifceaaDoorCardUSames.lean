/- SdlprintSames: for every input, the law returns true and its arguments read as they did. Conditions: the arguments hold at most 1048576 values and letters together; the listed package variables hold what their initialisers lay (the row lists them). -/
import Derived.Test.YtdlnnlglmifceaaDoorQ33
namespace Go.Proofs.YtdlnnlglmifceaaDoor
open Go.ChangeShapes Go.WideShapes Go.ChangeAt Go.RowKit
attribute [local irreducible] wpList Calls Code.wp
/-- THE CARD -/
theorem cardSdlprintSames : Rows.SdlprintSamesUptoCardSaid :=
  Claim7.holds_tied_plain_at .later [] _ _ _ _ zDU (fun _ h => by cases h) (by as_aux_lemma => kernel_rfl) (fun _ h => by cases h) sdlprintSamesUpto_row_tie rfl ⟨rfl, rfl⟩ (by as_aux_lemma => kernel_rfl) rfl zDD (by as_aux_lemma => kernel_rfl)
end Go.Proofs.YtdlnnlglmifceaaDoor
