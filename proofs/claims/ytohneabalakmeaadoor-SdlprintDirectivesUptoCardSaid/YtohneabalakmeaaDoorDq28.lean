/- Parts of a proof, merged by a program (shake.py). -/
import Derived.Test.YtohneabalakmeaaDoorProg
import Derived.KernelRfl
import Derived.Test.YtohneabalakmeaaDoorDq27
namespace Go.Proofs.YtohneabalakmeaaDoor
open Go.RowKit
attribute [local irreducible] wpList Calls Code.wp AW AWo OpOk seqK blockK scopeK loopK endK AC absLex Yld Sub
theorem lit_bs (a : Array UInt8) : (⟨a⟩ : ByteArray) = bs a.toList := by unfold bs; simp
/-- the text of a reference -/
def refB (n : List UInt8) : List D → List UInt8
  | [] => n
  | d :: ds => if d.n == 1 then refB n ds ++ [33] else [91] ++ refB n ds ++ [93]
theorem refB_length (n : List UInt8) : ∀ l, (refB n l).length ≤ n.length + 2 * l.length
  | [] => by simp [refB]
  | d :: ds => by
    have := refB_length n ds
    unfold refB
    split <;> simp <;> omega
end Go.Proofs.YtohneabalakmeaaDoor
