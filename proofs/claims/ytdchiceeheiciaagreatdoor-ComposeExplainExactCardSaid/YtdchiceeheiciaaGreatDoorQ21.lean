/- Parts of a proof, merged by a program (shake.py). -/
import Derived.Laws.IdiomStrings
import Derived.Test.YtdchiceeheiciaaGreatDoorQ20
set_option linter.unusedVariables false
set_option linter.unusedSimpArgs false
namespace Go.Proofs.YtdchiceeheiciaaGreatDoor
open Go.RowKit
attribute [local irreducible] wpList Calls Code.wp
/-- string([]byte{..}) -/
theorem conv_new (w : World) (cs : Array Value) (l : List UInt8) (n : Nat) (hn : n = l.length) (hcs : cs = (Lib.byteCells l).toArray) :
    (convert 105 9 (.slice (some ⟨w.heap.size, 0, none⟩) n n)).run Tryz.prog (w.alloc (.cells cs 5)) = .ok (.string (bs l)) (w.alloc (.cells cs 5)) := by
  subst hn; subst hcs
  refine run_convert_bytes_back _ 105 9 5 _ _ l Tryz.underlying105 Tryz.underlying5 Tryz.underlying9 (fun j hj => ?_)
  rw [add_plain, Nat.zero_add, cell_of_row _ w.heap.size j _ 5 (0, 0) (heap_at rfl)]
  simp [Lib.byteCells, List.getElem?_eq_getElem hj]
end Go.Proofs.YtdchiceeheiciaaGreatDoor
