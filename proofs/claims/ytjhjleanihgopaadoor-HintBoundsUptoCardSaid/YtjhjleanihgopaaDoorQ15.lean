/- Parts of a proof, merged by a program (shake.py). -/
import Derived.Lib.Strings
import Derived.Test.YtjhjleanihgopaaDoorQ14
namespace Go.Proofs.YtjhjleanihgopaaDoor
/-- the byte at an index of a string, as a number; 0 behind its end -/
def bV (s : ByteArray) (i : Nat) : Int := ((s.data.toList.getD i 0).toNat : Int)
theorem bV_range (s : ByteArray) (i : Nat) : 0 ≤ bV s i ∧ bV s i ≤ 255 := by
  unfold bV
  have := (s.data.toList.getD i 0).toNat_lt
  omega
theorem bV_at {s : ByteArray} {i : Nat} (h : i < s.size) : ((s[i]'h).toNat : Int) = bV s i := by
  unfold bV
  have h' : i < s.data.toList.length := by simpa using h
  rw [List.getD_eq_getElem?_getD, List.getElem?_eq_getElem h']
  rfl
def digB (v : Int) : Bool := decide (48 ≤ v ∧ v ≤ 57)
theorem digB_true {v : Int} (h : 48 ≤ v ∧ v ≤ 57) : digB v = true := decide_eq_true h
theorem digB_false {v : Int} (h : ¬ (48 ≤ v ∧ v ≤ 57)) : digB v = false := decide_eq_false h
end Go.Proofs.YtjhjleanihgopaaDoor
