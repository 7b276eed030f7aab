/- Parts of a proof, merged by a program (shake.py). -/
import Derived.Test.YthjiclhfhjdjpaaGreatDoorR2
set_option linter.unusedVariables false
set_option linter.unusedSimpArgs false
namespace Go.Proofs.YthjiclhfhjdjpaaGreatDoor
open Go.RowKit
attribute [local irreducible] wpList Calls Code.wp
variable {X : Cx} {nn : Nat} {st : Vst nn} {o : Oper} {K : Vst nn → Prop}
theorem k_endB_ret {P : Program} {rs : Array ResultVar} {r : V} {bs' : List Res} (h : retV P st rs.toList r ∧ haveB st 0 bs') : endKB P rs r bs' .ret st := h
end Go.Proofs.YthjiclhfhjdjpaaGreatDoor
