/- The fetches of each depth, in the program's text. -/
import Derived.Test.YtkldeelhlbhlmaaH
namespace Go.Proofs.Ytkldeelhlbhlmaa
open Go.RowKit
attribute [local irreducible] wpList Calls Code.wp
theorem Blt.turn {w w' : World} {base b : Nat} {ws : List (List Int)} (h : Blt w base b ws) (hs : ∀ k, k < w.heap.size → w'.heap[k]? = w.heap[k]?) : Blt w' base b ws := by
  obtain ⟨v, xs, h1, h2, h3, h4, h5, h6⟩ := h
  refine ⟨v, xs, h1, (hs b (heap_lt h2)).trans h2, own_turn h3 (fun k hk => hs k (h3.lt k hk).2), h4, fun i hi => ?_, h6⟩
  obtain ⟨u, hu, ho, hbu, hne⟩ := h5 i hi
  exact ⟨u, hu, own_turn ho (fun k hk => hs k (ho.lt k hk).2), hbu, hne⟩
def wavesS (fs : List (Int × List Int)) (n : Nat) : Nat → List (List Int)
  | 0 => []
  | k + 1 => if 1 ≤ (gF fs k).1 ∧ (gF fs k).1 ≤ n then addTo (wavesS fs n k) k (gF fs k).1.toNat else wavesS fs n k
theorem padTo_length (ws : List (List Int)) (d : Nat) : (padTo ws d).length = max ws.length d := by
  unfold padTo; simp; omega
theorem gL_pad (ws : List (List Int)) (d i : Nat) : gL (padTo ws d) i = gL ws i := by
  unfold padTo
  simp only [gL, List.getD_eq_getElem?_getD]
  by_cases h : i < ws.length
  · rw [List.getElem?_append_left h]
  · rw [List.getElem?_append_right (by omega), List.getElem?_replicate, List.getElem?_eq_none (l := ws) (by omega)]
    split <;> rfl
theorem addTo_length (ws : List (List Int)) (k : Int) (d : Nat) : (addTo ws k d).length = max ws.length d := by
  unfold addTo; rw [List.length_set, padTo_length]
theorem gL_add (ws : List (List Int)) (k : Int) (d : Nat) (hd : 1 ≤ d) (i : Nat) : gL (addTo ws k d) i = if i = d - 1 then gL ws i ++ [k] else gL ws i := by
  unfold addTo
  have hl := padTo_length ws d
  by_cases h : i = d - 1
  · subst h
    rw [if_pos rfl]
    simp only [gL, List.getD_eq_getElem?_getD]
    rw [List.getElem?_set_self (by omega)]
    have := gL_pad ws d (d - 1)
    simp only [gL, List.getD_eq_getElem?_getD] at this
    simp [this]
  · rw [if_neg h, ← gL_pad ws d i]
    simp only [gL, List.getD_eq_getElem?_getD]
    rw [List.getElem?_set_ne (fun e => h e.symm)]
theorem wavesS_gL (fs : List (Int × List Int)) (n k i : Nat) (hi : i < n) : gL (wavesS fs n k) i = waveT fs ((i + 1 : Nat) : Int) k := by
  induction k with
  | zero => simp [wavesS, waveT, gL]
  | succ k ih =>
    rw [wavesS, waveT]
    by_cases hc : 1 ≤ (gF fs k).1 ∧ (gF fs k).1 ≤ n
    · rw [if_pos hc, gL_add _ _ _ (by omega), ih]
      by_cases hd : (gF fs k).1 = ((i + 1 : Nat) : Int)
      · rw [if_pos hd, if_pos (by omega)]
      · rw [if_neg hd, if_neg (by omega)]
    · rw [if_neg hc, ih, if_neg (by omega)]
theorem wavesS_length (fs : List (Int × List Int)) (n k : Nat) : ((wavesS fs n k).length : Int) = mostT fs n k := by
  induction k with
  | zero => simp [wavesS, mostT]
  | succ k ih =>
    have := mostT_range fs n k
    rw [wavesS, mostT]
    by_cases hc : 1 ≤ (gF fs k).1 ∧ (gF fs k).1 ≤ n
    · rw [if_pos hc, if_pos hc.2, addTo_length]; omega
    · rw [if_neg hc, ih]; split <;> omega
theorem wavesT_gL (fs : List (Int × List Int)) (d i : Nat) (hi : i < d) : gL (wavesT fs d) i = waveT fs ((i + 1 : Nat) : Int) fs.length := by
  induction d with
  | zero => omega
  | succ d ih =>
    rw [wavesT]
    by_cases h : i < d
    · rw [gL_left (by rw [wavesT_length]; exact h), ih h]
    · have e : i = (wavesT fs d).length := by rw [wavesT_length]; omega
      have e2 : i = d := by omega
      rw [e, gL_last, wavesT_length]
theorem waves_eq (fs : List (Int × List Int)) : wavesS fs fs.length fs.length = wavesI fs := by
  have hl := wavesS_length fs fs.length fs.length
  have hm := mostT_range fs fs.length fs.length
  have hl2 : (wavesI fs).length = (wavesS fs fs.length fs.length).length := by unfold wavesI; rw [wavesT_length]; omega
  apply List.ext_getElem hl2.symm
  intro i h1 h2
  have a := wavesS_gL fs fs.length fs.length i (by omega)
  have b := wavesT_gL fs (mostT fs fs.length fs.length).toNat i (by omega)
  have c : gL (wavesI fs) i = waveT fs ((i + 1 : Nat) : Int) fs.length := b
  rw [← c] at a
  simpa [gL, List.getElem?_eq_getElem h1, List.getElem?_eq_getElem h2] using a
theorem gL_none {ws : List (List Int)} {i : Nat} (h : ws.length ≤ i) : gL ws i = [] := by simp [gL, List.getElem?_eq_none h]
theorem wavesS_small (fs : List (Int × List Int)) (n k i : Nat) (hk : k ≤ 200) : (gL (wavesS fs n k) i).length ≤ 200 := by
  by_cases hi : i < n
  · rw [wavesS_gL fs n k i hi]
    exact Nat.le_trans (waveT_length _ _ _) hk
  · have h1 := wavesS_length fs n k
    have h2 := mostT_range fs n k
    rw [gL_none (by omega)]; simp
end Go.Proofs.Ytkldeelhlbhlmaa
