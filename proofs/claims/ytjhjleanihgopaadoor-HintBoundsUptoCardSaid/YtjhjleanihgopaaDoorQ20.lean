/- Parts of a proof, merged by a program (shake.py). -/
import Derived.Test.YtjhjleanihgopaaDoorQ19
namespace Go.Proofs.YtjhjleanihgopaaDoor
open Go.RowKit
attribute [local irreducible] wpList Calls Code.wp
theorem ne_empty {s : ByteArray} (h : 0 < s.size) : s.toList.isEmpty = false ∧ ¬ s.toList = [] := by
  have h1 : 0 < s.toList.length := by rw [Lib.toList_data]; simpa using h
  cases hq : s.toList with
  | nil => rw [hq] at h1; simp at h1
  | cons c r => simp
theorem eq_empty {s : ByteArray} (h : s.size = 0) : s.toList.isEmpty = true ∧ s.toList = [] := by
  have h1 : s.toList.length = 0 := by rw [Lib.toList_data]; simpa using h
  have := List.eq_nil_of_length_eq_zero h1
  rw [this]; exact ⟨rfl, rfl⟩
end Go.Proofs.YtjhjleanihgopaaDoor
