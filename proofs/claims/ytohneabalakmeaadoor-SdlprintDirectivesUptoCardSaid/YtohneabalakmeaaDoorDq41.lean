/- Parts of a proof, merged by a program (shake.py). -/
import Derived.Test.YtohneabalakmeaaDoorDq40
namespace Go.Proofs.YtohneabalakmeaaDoor
open Go.RowKit
attribute [local irreducible] wpList Calls Code.wp AW AWo OpOk seqK blockK scopeK loopK endK AC absLex Yld Sub
set_option maxRecDepth 100000 in
theorem val_items {k : Nat} {d : D} (h : Fits Tryd.prog (k + 1) 49 d) : (∀ i, i < (d.f 3).l.length → Fits Tryd.prog k 49 (gD (d.f 3).l i)) ∧ bulkL (d.f 3).l + 1 ≤ bulkD d ∧ (d.f 2).s.size + bulkL (d.f 3).l + bulkL (d.f 4).l + 6 ≤ bulkD d := by
  obtain ⟨x0, x1, x2, x3, x4, rfl, h3, -⟩ := fits49 h
  have hb : bulkD (D.obj [.int x0, .int x1, .str x2, .list x3, .list x4]) = x2.size + 5 + bulkL x3 + bulkL x4 + 1 := by simp [bulkD, bulkL]; omega
  refine ⟨fun i hi => ?_, ?_, ?_⟩
  · have hi : i < x3.length := hi
    have h4 := h3 i hi
    cases k with
    | zero => exact h4.elim
    | succ k => exact h4.up
  · show bulkL x3 + 1 ≤ _; omega
  · show x2.size + bulkL x3 + bulkL x4 + 6 ≤ _; omega
end Go.Proofs.YtohneabalakmeaaDoor
