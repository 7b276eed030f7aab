/- Parts of a proof, merged by a program (shake.py). -/
import Derived.Test.YtjhjleanihgopaaDoorQ9
namespace Go.Proofs.YtjhjleanihgopaaDoor
open Go.RowKit
attribute [local irreducible] wpList Calls Code.wp
/-- the parts of a literal are data -/
def partsD (P : Program) (e : TypeId) (ea : Operand → V) : List (Nat × Operand) → Nat → List D → Prop
  | [], _, [] => True
  | (i, x) :: ps, j, d :: ds => i = j ∧ cellsOf (ea x) = some (cellsV P 12 e d) ∧ partsD P e ea ps (j + 1) ds
  | _, _, _ => False
/-- what a literal slice of type t needs of its program -/
def elemOk (P : Program) (t : TypeId) : Option (TypeId × Nat) :=
  match sliceOf P t with
  | some e => match P.info? e with
    | some i => match i.zero with
      | some z => if layB P 12 e && decide (0 < i.size) && z.cells.size == i.size then some (e, i.bytes) else none
      | none => none
    | none => none
  | none => none
end Go.Proofs.YtjhjleanihgopaaDoor
