/- Numerals: plain. -/
import Derived.Test.YtohneabalakmeaaDoorA
namespace Go.Proofs.YtohneabalakmeaaDoor
theorem head_append {l m : List UInt8} (h : l ≠ []) : (l ++ m).head? = l.head? := by
  cases l with
  | nil => exact absurd rfl h
  | cons c r => rfl
theorem digU_iff {c : UInt8} : digU c = true ↔ 48 ≤ c.toNat ∧ c.toNat ≤ 57 := by simp [digU]
theorem ofNat_digit {d : Nat} (h : d < 10) : (UInt8.ofNat (48 + d)).toNat = 48 + d := by
  rw [UInt8.toNat_ofNat']
  exact Nat.mod_eq_of_lt (by omega)
theorem digit_of {c : UInt8} (h : digU c = true) : UInt8.ofNat (48 + (c.toNat - 48)) = c := by
  have := digU_iff.1 h
  rw [show 48 + (c.toNat - 48) = c.toNat from by omega]
  simp
theorem dec_small {u : Nat} (h : u < 10) : Lib.decDigits u = [UInt8.ofNat (48 + u)] := by rw [Lib.decDigits, dif_pos h]
theorem dec_big {u : Nat} (h : ¬ u < 10) : Lib.decDigits u = Lib.decDigits (u / 10) ++ [UInt8.ofNat (48 + u % 10)] := by rw [Lib.decDigits, dif_neg h]
theorem dec_all (u : Nat) : (Lib.decDigits u).all digU = true := by
  induction u using Nat.strongRecOn with
  | ind u ih =>
    by_cases h : u < 10
    · rw [dec_small h, List.all_cons, List.all_nil, Bool.and_true, digU_iff, ofNat_digit h]; omega
    · rw [dec_big h, List.all_append, ih (u / 10) (by omega), Bool.true_and, List.all_cons, List.all_nil, Bool.and_true, digU_iff, ofNat_digit (Nat.mod_lt _ (by omega))]
      have := Nat.mod_lt u (show 10 > 0 by omega)
      omega
theorem dec_val (u : Nat) : decV 0 (Lib.decDigits u) = u := by
  induction u using Nat.strongRecOn with
  | ind u ih =>
    by_cases h : u < 10
    · rw [dec_small h, decV_cons, decV_nil, ofNat_digit h]; omega
    · rw [dec_big h, decV_snoc, ih (u / 10) (by omega), ofNat_digit (Nat.mod_lt _ (by omega))]; omega
theorem dec_ne (u : Nat) : Lib.decDigits u ≠ [] := by
  by_cases h : u < 10
  · rw [dec_small h]; simp
  · rw [dec_big h]; simp
theorem dec_head (u : Nat) (h0 : u ≠ 0) : (Lib.decDigits u).head? ≠ some 48 := by
  induction u using Nat.strongRecOn with
  | ind u ih =>
    by_cases h : u < 10
    · rw [dec_small h, List.head?_cons]
      intro e
      have e := congrArg UInt8.toNat (Option.some.inj e)
      rw [ofNat_digit h] at e
      have : UInt8.toNat 48 = 48 := rfl
      omega
    · rw [dec_big h, head_append (dec_ne _)]
      exact ih (u / 10) (by omega) (by omega)
theorem dec_one (u : Nat) (h : (Lib.decDigits u).head? = some 48) : Lib.decDigits u = [48] := by
  by_cases h0 : u = 0
  · subst h0; rw [dec_small (by omega)]; rfl
  · exact absurd h (dec_head u h0)
theorem dec_length : ∀ (k u : Nat), u < 10 ^ (k + 1) → (Lib.decDigits u).length ≤ k + 1
  | 0, u, h => by rw [dec_small (by simpa using h)]; simp
  | k + 1, u, h => by
    by_cases hs : u < 10
    · rw [dec_small hs]; simp
    · have := dec_length k (u / 10) (by rw [Nat.pow_succ] at h; omega)
      rw [dec_big hs, List.length_append, List.length_singleton]; omega
theorem dec_len {u : Nat} (h : u ≤ 9223372036854775808) : (Lib.decDigits u).length ≤ 20 := by
  have := dec_length 19 u (by omega)
  omega
theorem decV_pos {l : List UInt8} (hl : l ≠ []) (ha : l.all digU = true) (hh : l.head? ≠ some 48) : 1 ≤ decV 0 l := by
  cases l with
  | nil => exact absurd rfl hl
  | cons c r =>
    rw [List.all_cons, Bool.and_eq_true] at ha
    have hc := digU_iff.1 ha.1
    have hne : c.toNat ≠ 48 := fun e => hh (by rw [List.head?_cons]; congr 1; exact UInt8.toNat_inj.1 e)
    rw [decV_cons]
    have := decV_ge r (10 * 0 + (c.toNat - 48))
    omega
theorem dec_of : ∀ (n : Nat) (l : List UInt8), l.length = n → l ≠ [] → l.all digU = true → (l.head? = some 48 → l.length = 1) → Lib.decDigits (decV 0 l) = l
  | 0, l, hn, hl, _, _ => absurd (List.eq_nil_of_length_eq_zero hn) hl
  | n + 1, l, hn, hl, ha, hh => by
    obtain ⟨i, c, rfl⟩ : ∃ i c, l = i ++ [c] := ⟨l.dropLast, l.getLast hl, (List.dropLast_concat_getLast hl).symm⟩
    rw [List.all_append, Bool.and_eq_true, List.all_cons, List.all_nil, Bool.and_true] at ha
    have hc := digU_iff.1 ha.2
    rw [decV_snoc]
    by_cases hi : i = []
    · subst hi
      rw [decV_nil, dec_small (by omega), show 10 * 0 + (c.toNat - 48) = c.toNat - 48 from by omega, digit_of ha.2]; rfl
    · have hi1 : i.head? ≠ some 48 := fun e => by
        have := hh (by rw [head_append hi]; exact e)
        have h1 : 0 < i.length := List.length_pos_iff.2 hi
        rw [List.length_append, List.length_singleton] at this; omega
      have hp := decV_pos hi ha.1 hi1
      have hr := dec_of n i (by simp at hn; omega) hi ha.1 (fun e => absurd e hi1)
      rw [dec_big (by omega), show (10 * decV 0 i + (c.toNat - 48)) / 10 = decV 0 i from by omega, hr, show (10 * decV 0 i + (c.toNat - 48)) % 10 = c.toNat - 48 from by omega, digit_of ha.2]
theorem mag_neg (r : List UInt8) : magU (45 :: r) = r := rfl
theorem mag_pos {l : List UInt8} (h : l.head? ≠ some 45) : magU l = l := by unfold magU; rw [if_neg h]
theorem digits_no_minus {l : List UInt8} (h : l.all digU = true) : l.head? ≠ some 45 := by
  cases l with
  | nil => simp
  | cons c r =>
    rw [List.all_cons, Bool.and_eq_true] at h
    have := digU_iff.1 h.1
    intro e
    have e := congrArg UInt8.toNat (Option.some.inj e)
    have : UInt8.toNat 45 = 45 := rfl
    omega
/-- what is written is read as it was -/
theorem num_itoa (n : Int) (h0 : -9223372036854775808 ≤ n) (h1 : n ≤ 9223372036854775807) : numU (Lib.itoa n) = .ok n := by
  unfold Lib.itoa
  by_cases hn : n < 0
  · rw [if_pos hn]
    unfold numU
    rw [mag_neg, if_neg, if_neg (by rw [dec_all]; simp), List.head?_cons, if_pos rfl, dec_val, if_pos (by omega)]
    · congr 1; omega
    · rintro (h | h)
      · exact dec_ne _ h
      · exact dec_head _ (by omega) h.1
  · rw [if_neg hn]
    have hm := digits_no_minus (dec_all n.toNat)
    unfold numU
    rw [mag_pos hm, if_neg, if_neg (by rw [dec_all]; simp), if_neg hm, dec_val, if_pos (by omega)]
    · congr 1; omega
    · rintro (h | h)
      · exact dec_ne _ h
      · rw [dec_one _ h.1] at h; simp at h
/-- what is read is written as it was -/
theorem itoa_num {l : List UInt8} {a : Int} (h : numU l = .ok a) : Lib.itoa a = l ∧ -9223372036854775808 ≤ a ∧ a ≤ 9223372036854775807 := by
  unfold numU at h
  split at h
  · cases h
  · rename_i h0
    split at h
    · cases h
    · rename_i ha
      have ha : (magU l).all digU = true := by cases hq : (magU l).all digU <;> simp_all
      have hne : magU l ≠ [] := fun e => h0 (.inl e)
      by_cases hm : l.head? = some 45
      · rw [if_pos hm] at h
        split at h
        · rename_i hv
          injection h with h
          subst h
          obtain ⟨r, rfl⟩ : ∃ r, l = 45 :: r := by
            cases l with
            | nil => simp at hm
            | cons c r => exact ⟨r, by rw [Option.some.inj hm]⟩
          rw [mag_neg] at hne ha h0 hv ⊢
          have hlen : 1 < (45 :: r).length := by
            have : 0 < r.length := List.length_pos_iff.2 hne
            simp; omega
          have hh : r.head? ≠ some 48 := fun e => h0 (.inr ⟨e, hlen⟩)
          have hp := decV_pos hne ha hh
          refine ⟨?_, by omega, by omega⟩
          unfold Lib.itoa
          rw [if_pos (by omega), show (-(decV 0 r : Int)).natAbs = decV 0 r from by omega, dec_of _ r rfl hne ha (fun e => absurd e hh)]
        · cases h
      · rw [if_neg hm] at h
        rw [mag_pos hm] at hne ha h0 h
        split at h
        · rename_i hv
          injection h with h
          subst h
          refine ⟨?_, by omega, by omega⟩
          unfold Lib.itoa
          rw [if_neg (by omega), Int.toNat_natCast, dec_of _ l rfl hne ha (fun e => by
            have h1 : ¬ 1 < l.length := fun h1 => h0 (.inr ⟨e, h1⟩)
            have : 0 < l.length := List.length_pos_iff.2 hne
            omega)]
        · cases h
end Go.Proofs.YtohneabalakmeaaDoor
