/- Parts of a proof, merged by a program (shake.py). -/
import Derived.Lib.AtoiAll
import Derived.Lib.ItoaNum
import Derived.Test.YtjhjleanihgopaaDoorQ13
namespace Go.Proofs.YtjhjleanihgopaaDoor
def digU (c : UInt8) : Bool := decide (48 ≤ c.toNat ∧ c.toNat ≤ 57)
/-- the number that decimal digits spell -/
def decV (n : Nat) (l : List UInt8) : Nat := l.foldl (fun n c => 10 * n + (c.toNat - 48)) n
theorem decV_nil (n : Nat) : decV n [] = n := by unfold decV; rw [List.foldl_nil]
theorem decV_cons (n : Nat) (c : UInt8) (r : List UInt8) : decV n (c :: r) = decV (10 * n + (c.toNat - 48)) r := by unfold decV; rw [List.foldl_cons]
/-- what follows a minus sign, or all -/
def magU (l : List UInt8) : List UInt8 := if l.head? = some 45 then l.tail else l
def numU (l : List UInt8) : Lib.NumEnd Int :=
  if magU l = [] ∨ (magU l).head? = some 48 ∧ 1 < l.length then Lib.NumEnd.syntax
  else if (magU l).all digU = false then Lib.NumEnd.syntax
  else if l.head? = some 45 then (if decV 0 (magU l) ≤ 9223372036854775808 then .ok (-(decV 0 (magU l) : Int)) else .range)
  else if decV 0 (magU l) < 9223372036854775808 then .ok (decV 0 (magU l)) else .range
theorem decV_ge : ∀ (l : List UInt8) (n : Nat), n ≤ decV n l
  | [], n => Nat.le_refl n
  | x :: l, n => by
    rw [decV_cons]
    have := decV_ge l (10 * n + (x.toNat - 48))
    omega
theorem parse_dec (l : List UInt8) (h : l.all digU = true) : ∀ acc, acc < 18446744073709551616 → Lib.parseUint10 acc l = if decV acc l < 18446744073709551616 then .ok (decV acc l) else .range := by
  induction l with
  | nil => intro acc ha; rw [Lib.parseUint10, decV_nil, if_pos ha]
  | cons c r ih =>
    intro acc ha
    rw [List.all_cons, Bool.and_eq_true] at h
    have hc : 48 ≤ c.toNat ∧ c.toNat ≤ 57 := by simpa [digU] using h.1
    have hge := decV_ge r (10 * acc + (c.toNat - 48))
    rw [Lib.parseUint10, if_pos hc, decV_cons]
    by_cases h1 : 1844674407370955162 ≤ acc
    · rw [if_pos h1, if_neg (by omega)]
    · rw [if_neg h1]
      by_cases h2 : 18446744073709551616 ≤ acc * 10 + (c.toNat - 48)
      · rw [if_pos h2, if_neg (by omega)]
      · rw [if_neg h2, ih h.2 _ (by omega), show acc * 10 + (c.toNat - 48) = 10 * acc + (c.toNat - 48) from by omega]
/-- Atoi of digits behind an optional minus sign -/
theorem atoi_num (l : List UInt8) (h0 : magU l ≠ []) (h : (magU l).all digU = true) :
    Lib.atoiAll l = if l.head? = some 45 then (if decV 0 (magU l) ≤ 9223372036854775808 then .ok (-(decV 0 (magU l) : Int)) else .range)
      else if decV 0 (magU l) < 9223372036854775808 then .ok (decV 0 (magU l)) else .range := by
  cases l with
  | nil => exact absurd rfl h0
  | cons c r =>
    by_cases hc : c = 45
    · subst hc
      have hm : magU (45 :: r) = r := rfl
      rw [hm] at h0 h ⊢
      have hp := parse_dec r h 0 (by omega)
      have e45 : UInt8.toNat 45 = 45 := rfl
      simp only [Lib.atoiAll, Lib.parseMag, e45, List.head?_cons]
      simp only [or_true, if_true]
      rw [if_neg h0, hp]
      by_cases h1 : decV 0 r < 18446744073709551616
      · rw [if_pos h1]
        simp only
        by_cases h2 : decV 0 r ≤ 9223372036854775808
        · simp [h2, show ¬ 9223372036854775808 < decV 0 r by omega]
        · simp [h2, show 9223372036854775808 < decV 0 r by omega]
      · rw [if_neg h1, if_neg (by omega)]
    · have hm : magU (c :: r) = c :: r := by
        unfold magU
        rw [List.head?_cons, if_neg (fun e => hc (Option.some.inj e))]
      rw [hm] at h0 h ⊢
      have hp := parse_dec (c :: r) h 0 (by omega)
      have hd : 48 ≤ c.toNat ∧ c.toNat ≤ 57 := by
        rw [List.all_cons, Bool.and_eq_true] at h
        simpa [digU] using h.1
      simp only [Lib.atoiAll, Lib.parseMag]
      rw [if_neg (show ¬ (c.toNat = 43 ∨ c.toNat = 45) by omega), if_neg h0, hp, List.head?_cons, if_neg (fun e => hc (Option.some.inj e))]
      by_cases h1 : decV 0 (c :: r) < 18446744073709551616
      · rw [if_pos h1]
        simp only
        by_cases h2 : decV 0 (c :: r) < 9223372036854775808
        · rw [if_neg (by omega), if_neg (by omega), if_neg (by omega), if_pos h2]
        · rw [if_pos ⟨by omega, by omega⟩, if_neg h2]
      · rw [if_neg h1, if_neg (by omega)]
end Go.Proofs.YtjhjleanihgopaaDoor
namespace Go.Proofs.YtjhjleanihgopaaDoor
theorem digU_iff {c : UInt8} : digU c = true ↔ 48 ≤ c.toNat ∧ c.toNat ≤ 57 := by simp [digU]
theorem dec_small {u : Nat} (h : u < 10) : Lib.decDigits u = [UInt8.ofNat (48 + u)] := by rw [Lib.decDigits, dif_pos h]
theorem dec_big {u : Nat} (h : ¬ u < 10) : Lib.decDigits u = Lib.decDigits (u / 10) ++ [UInt8.ofNat (48 + u % 10)] := by rw [Lib.decDigits, dif_neg h]
theorem dec_length : ∀ (k u : Nat), u < 10 ^ (k + 1) → (Lib.decDigits u).length ≤ k + 1
  | 0, u, h => by rw [dec_small (by simpa using h)]; simp
  | k + 1, u, h => by
    by_cases hs : u < 10
    · rw [dec_small hs]; simp
    · have := dec_length k (u / 10) (by rw [Nat.pow_succ] at h; omega)
      rw [dec_big hs, List.length_append, List.length_singleton]; omega
theorem dec_len {u : Nat} (h : u ≤ 9223372036854775808) : (Lib.decDigits u).length ≤ 20 := by
  have := dec_length 19 u (by omega)
  omega
end Go.Proofs.YtjhjleanihgopaaDoor
