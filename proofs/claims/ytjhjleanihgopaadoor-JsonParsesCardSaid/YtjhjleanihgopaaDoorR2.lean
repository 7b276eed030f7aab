/- Parts of a proof, merged by a program (shake.py). -/
import Derived.Deep.Cut
import Derived.Test.YtjhjleanihgopaaDoorR1
set_option linter.unusedVariables false
set_option linter.unusedSimpArgs false
namespace Go.Proofs.YtjhjleanihgopaaDoor
open Go.RowKit
attribute [local irreducible] wpList Calls Code.wp
theorem tk_zero (s : ByteArray) : tk s 0 = [] := rfl
theorem bs_append (l m : List UInt8) : bs l ++ bs m = bs (l ++ m) := by
  unfold bs
  rw [ByteArray.mk_append_mk]
  try simp
end Go.Proofs.YtjhjleanihgopaaDoor
