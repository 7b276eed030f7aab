/- Parts of a proof, merged by a program (shake.py). -/
import Derived.Lib.Strings
import Derived.Test.YtdklhkdlndlgnaaGreatDoorQ14
set_option linter.unusedVariables false
set_option linter.unusedSimpArgs false
namespace Go.Proofs.YtdklhkdlndlgnaaGreatDoor
/-- the byte at an index of a string, as a number; 0 behind its end -/
def bV (s : ByteArray) (i : Nat) : Int := ((s.data.toList.getD i 0).toNat : Int)
theorem bV_range (s : ByteArray) (i : Nat) : 0 ≤ bV s i ∧ bV s i ≤ 255 := by
  unfold bV
  have := (s.data.toList.getD i 0).toNat_lt
  omega
theorem bV_at {s : ByteArray} {i : Nat} (h : i < s.size) : ((s[i]'h).toNat : Int) = bV s i := by
  unfold bV
  have h' : i < s.data.toList.length := by simpa using h
  rw [List.getD_eq_getElem?_getD, List.getElem?_eq_getElem h']
  rfl
def letB (v : Int) : Bool := decide (65 ≤ v ∧ v ≤ 90 ∨ 97 ≤ v ∧ v ≤ 122 ∨ v = 95)
def digB (v : Int) : Bool := decide (48 ≤ v ∧ v ≤ 57)
/-- whether a string is a name -/
def nameB (s : ByteArray) : Bool := decide (0 < s.size ∧ s.size ≤ 64 ∧ digB (bV s 0) = false ∧ ∀ i, i < s.size → (letB (bV s i) || digB (bV s i)) = true)
theorem nameB_no {s : ByteArray} (h : ¬ (0 < s.size ∧ s.size ≤ 64)) : nameB s = false := decide_eq_false fun h' => h ⟨h'.1, h'.2.1⟩
theorem nameB_dig {s : ByteArray} (h : digB (bV s 0) = true) : nameB s = false := decide_eq_false fun h' => by rw [h'.2.2.1] at h; cases h
theorem nameB_at {s : ByteArray} {i : Nat} (hi : i < s.size) (h : (letB (bV s i) || digB (bV s i)) = false) : nameB s = false := decide_eq_false fun h' => by rw [h'.2.2.2 i hi] at h; cases h
theorem nameB_yes {s : ByteArray} (h0 : 0 < s.size) (h1 : s.size ≤ 64) (h2 : digB (bV s 0) = false) (h3 : ∀ i, i < s.size → (letB (bV s i) || digB (bV s i)) = true) : nameB s = true := decide_eq_true ⟨h0, h1, h2, h3⟩
theorem letB_true {v : Int} (h : 65 ≤ v ∧ v ≤ 90 ∨ 97 ≤ v ∧ v ≤ 122 ∨ v = 95) : letB v = true := decide_eq_true h
theorem letB_false {v : Int} (h : ¬ (65 ≤ v ∧ v ≤ 90 ∨ 97 ≤ v ∧ v ≤ 122 ∨ v = 95)) : letB v = false := decide_eq_false h
theorem digB_true {v : Int} (h : 48 ≤ v ∧ v ≤ 57) : digB v = true := decide_eq_true h
theorem digB_false {v : Int} (h : ¬ (48 ≤ v ∧ v ≤ 57)) : digB v = false := decide_eq_false h
/-- where a byte lies -/
theorem nm_cases (v : Int) : v < 48 ∨ (48 ≤ v ∧ v ≤ 57) ∨ (58 ≤ v ∧ v ≤ 64) ∨ (65 ≤ v ∧ v ≤ 90) ∨ (91 ≤ v ∧ v ≤ 94) ∨ v = 95 ∨ v = 96 ∨ (97 ≤ v ∧ v ≤ 122) ∨ 123 ≤ v := by omega
end Go.Proofs.YtdklhkdlndlgnaaGreatDoor
