/- Parts of a proof, merged by a program (shake.py). -/
import Derived.Lib.AtoiAll
import Derived.Lib.ItoaNum
import Derived.Test.YtdklhkdlndlgnaaGreatDoorQ13
set_option linter.unusedVariables false
set_option linter.unusedSimpArgs false
namespace Go.Proofs.YtdklhkdlndlgnaaGreatDoor
def hexU (n : Nat) : UInt8 := UInt8.ofNat (if n < 10 then 48 + n else 87 + n)
/-- how a byte is written in a literal -/
def escU (c : UInt8) : List UInt8 :=
  if c = 34 then [92, 34] else if c = 92 then [92, 92] else if c = 10 then [92, 110] else if c = 13 then [92, 114] else if c = 9 then [92, 116]
  else if 32 ≤ c.toNat ∧ c.toNat ≤ 126 then [c] else [92, 117, 48, 48, hexU (c.toNat / 16), hexU (c.toNat % 16)]
def escL (l : List UInt8) : List UInt8 := l.flatMap escU
/-- the literal of a string -/
def quoteU (l : List UInt8) : List UInt8 := [34] ++ escL l ++ [34]
theorem escL_snoc (l : List UInt8) (c : UInt8) : escL (l ++ [c]) = escL l ++ escU c := by simp [escL]
theorem escU_length (c : UInt8) : (escU c).length ≤ 6 := by
  unfold escU
  repeat' split
  all_goals simp
theorem escL_length (l : List UInt8) : (escL l).length ≤ 6 * l.length := by
  induction l with
  | nil => simp [escL]
  | cons c l ih =>
    have := escU_length c
    have e : escL (c :: l) = escU c ++ escL l := by simp [escL]
    rw [e, List.length_append, List.length_cons]; omega
def digU (c : UInt8) : Bool := decide (48 ≤ c.toNat ∧ c.toNat ≤ 57)
/-- the number that decimal digits spell -/
def decV (n : Nat) (l : List UInt8) : Nat := l.foldl (fun n c => 10 * n + (c.toNat - 48)) n
/-- what follows a minus sign, or all -/
def magU (l : List UInt8) : List UInt8 := if l.head? = some 45 then l.tail else l
def numU (l : List UInt8) : Lib.NumEnd Int :=
  if magU l = [] ∨ (magU l).head? = some 48 ∧ 1 < l.length then Lib.NumEnd.syntax
  else if (magU l).all digU = false then Lib.NumEnd.syntax
  else if l.head? = some 45 then (if decV 0 (magU l) ≤ 9223372036854775808 then .ok (-(decV 0 (magU l) : Int)) else .range)
  else if decV 0 (magU l) < 9223372036854775808 then .ok (decV 0 (magU l)) else .range
end Go.Proofs.YtdklhkdlndlgnaaGreatDoor
namespace Go.Proofs.YtdklhkdlndlgnaaGreatDoor
theorem ofNat_digit {d : Nat} (h : d < 10) : (UInt8.ofNat (48 + d)).toNat = 48 + d := by
  rw [UInt8.toNat_ofNat']
  exact Nat.mod_eq_of_lt (by omega)
theorem dec_small {u : Nat} (h : u < 10) : Lib.decDigits u = [UInt8.ofNat (48 + u)] := by rw [Lib.decDigits, dif_pos h]
theorem dec_big {u : Nat} (h : ¬ u < 10) : Lib.decDigits u = Lib.decDigits (u / 10) ++ [UInt8.ofNat (48 + u % 10)] := by rw [Lib.decDigits, dif_neg h]
theorem dec_length : ∀ (k u : Nat), u < 10 ^ (k + 1) → (Lib.decDigits u).length ≤ k + 1
  | 0, u, h => by rw [dec_small (by simpa using h)]; simp
  | k + 1, u, h => by
    by_cases hs : u < 10
    · rw [dec_small hs]; simp
    · have := dec_length k (u / 10) (by rw [Nat.pow_succ] at h; omega)
      rw [dec_big hs, List.length_append, List.length_singleton]; omega
theorem dec_len {u : Nat} (h : u ≤ 9223372036854775808) : (Lib.decDigits u).length ≤ 20 := by
  have := dec_length 19 u (by omega)
  omega
end Go.Proofs.YtdklhkdlndlgnaaGreatDoor
