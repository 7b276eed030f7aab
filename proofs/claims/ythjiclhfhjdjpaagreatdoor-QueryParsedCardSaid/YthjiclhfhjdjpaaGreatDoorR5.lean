/- Parts of a proof, merged by a program (shake.py). -/
import Derived.Test.YthjiclhfhjdjpaaGreatDoorR4
set_option linter.unusedVariables false
set_option linter.unusedSimpArgs false
namespace Go.Proofs.YthjiclhfhjdjpaaGreatDoor
open Go.RowKit
attribute [local irreducible] wpList Calls Code.wp
section
variable {X : Cx} {nn : Nat} {st : Vst nn}
theorem k_cut_ret {st1 : Vst nn} {K : Exit → Vst nn → Prop} (h : K .ret st) : cutK X st1 K .ret st := h
theorem k_cut_exit {st1 : Vst nn} {K : Exit → Vst nn → Prop} {id : Nat} (h : K (.exit id) st) : cutK X st1 K (.exit id) st := h
end
end Go.Proofs.YthjiclhfhjdjpaaGreatDoor
