/- ScriptLineExact: for every input, the law returns true and its arguments read as they did. Conditions: the arguments hold at most 1048576 values and letters together; the listed package variables hold what their initialisers lay (the row lists them). -/
import Derived.Test.YtdklhkdlndlgnaaGreatDoorQ33
namespace Go.Proofs.YtdklhkdlndlgnaaGreatDoor
open Go.ChangeShapes Go.WideShapes Go.ChangeAt Go.RowKit
attribute [local irreducible] wpList Calls Code.wp
/-- THE CARD -/
theorem cardScriptLineExact : Rows.ScriptLineExactUptoCardSaid :=
  Claim7.holds_tied_plain_at .later [] _ _ _ _ saidScriptLineExact (fun _ h => by cases h) (by as_aux_lemma => kernel_rfl) (fun _ h => by cases h) scriptLineExactUpto_row_tie rfl ⟨rfl, rfl⟩ (by as_aux_lemma => kernel_rfl) rfl plainScriptLineExact (by as_aux_lemma => kernel_rfl)
end Go.Proofs.YtdklhkdlndlgnaaGreatDoor
