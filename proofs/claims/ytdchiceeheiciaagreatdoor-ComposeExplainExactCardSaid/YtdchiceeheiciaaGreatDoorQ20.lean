/- Parts of a proof, merged by a program (shake.py). -/
import Derived.Deep.Cut
import Derived.Test.YtdchiceeheiciaaGreatDoorQ19
set_option linter.unusedVariables false
set_option linter.unusedSimpArgs false
namespace Go.Proofs.YtdchiceeheiciaaGreatDoor
open Go.RowKit
attribute [local irreducible] wpList Calls Code.wp
/-- a string, by its bytes -/
def bs (l : List UInt8) : ByteArray := ⟨l.toArray⟩
theorem bs_append (l m : List UInt8) : bs l ++ bs m = bs (l ++ m) := by
  unfold bs
  rw [ByteArray.mk_append_mk]
  try simp
theorem bs_size (l : List UInt8) : (bs l).size = l.length := by show l.toArray.size = _; simp
/-- a string comes back, and nothing that was there has turned -/
def St (l : List UInt8) (w : World) (e : Ending) (w' : World) : Prop := e = .returned (.string (bs l)) ∧ Below w.heap.size w w'
end Go.Proofs.YtdchiceeheiciaaGreatDoor
