/- Parts of a proof, merged by a program (shake.py). -/
import Derived.Test.YtdklhkdlndlgnaaGreatDoorRows
import Derived.WalkKit
import Derived.WalkSpells
import Derived.WalkLawsBesides
import Derived.Deep.OwnRows
import Derived.Deep.LoopGhost
import Derived.Deep.QuietTactic
import Derived.BigQuiet
import Derived.Handy
import Derived.Lib.Hide
import Derived.Laws.BitsAllLaws
import Derived.Test.YtdklhkdlndlgnaaGreatDoorQ15
set_option linter.unusedVariables false
set_option linter.unusedSimpArgs false
namespace Go.Proofs.YtdklhkdlndlgnaaGreatDoor
open Go.RowKit
theorem heap_at {w : World} {o : Obj} {b : Nat} (hb : w.heap.size = b) : (w.alloc o).heap[b]? = some o := by subst hb; exact Deep.blk_alloc_new w o
end Go.Proofs.YtdklhkdlndlgnaaGreatDoor
