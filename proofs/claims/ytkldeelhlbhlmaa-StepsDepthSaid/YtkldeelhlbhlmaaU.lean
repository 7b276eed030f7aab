/- The steps of waves: their leaves, their depth: plain. -/
import Derived.Test.YtkldeelhlbhlmaaT
namespace Go.Proofs.Ytkldeelhlbhlmaa
open Go.RowKit
theorem leafs_leaf (i : Int) : leafs (leaf i) = [i] := by rw [leaf, leafs_eq, leafsL]; simp
theorem leafsL_leaves (l : List Int) : leafsL (leaves l) = l := by
  induction l with
  | nil => show leafsL [] = []; rw [leafsL]
  | cons x l ih =>
    show leafsL (leaf x :: leaves l) = _
    rw [leafsL, ih, leafs_leaf]; rfl
theorem leafsL_one (t : Tree) : leafsL [t] = leafs t := by rw [leafsL, leafsL, List.append_nil]
theorem leafsL_waveN (l : List Int) : leafsL (waveN l) = l := by
  unfold waveN
  split
  · rename_i h; rw [leafsL, List.eq_nil_of_length_eq_zero h]
  · split
    · rename_i h
      obtain ⟨x, rfl⟩ := List.length_eq_one_iff.1 h
      rw [leafsL_one, leafs_leaf]; rfl
    · rw [leafsL_one, leafs_eq, leafsL_leaves]; simp
theorem leafs_treeOf (ts : List Tree) : leafs (treeOf ts) = leafsL ts := by
  unfold treeOf
  split
  · rename_i h; rw [List.eq_nil_of_length_eq_zero h, leafs_eq]; simp
  · split
    · rename_i h
      obtain ⟨x, rfl⟩ := List.length_eq_one_iff.1 h
      rw [leafsL_one]; rfl
    · rw [leafs_eq]; simp
theorem gL_take {ws : List (List Int)} {k : Nat} (h : k < ws.length) : ws.take (k + 1) = ws.take k ++ [gL ws k] := by
  rw [List.take_succ_eq_append_getElem h]; simp [gL, List.getElem?_eq_getElem h]
theorem leafsL_stepsT (ws : List (List Int)) : ∀ k, k ≤ ws.length → leafsL (stepsT ws k) = (ws.take k).flatten
  | 0, _ => by rw [stepsT, leafsL]; simp
  | k + 1, h => by rw [stepsT, leafsL_append, leafsL_stepsT ws k (by omega), leafsL_waveN, gL_take (by omega)]; simp
theorem leafs_treeI (ws : List (List Int)) : leafs (treeI ws) = ws.flatten := by
  unfold treeI
  rw [leafs_treeOf, leafsL_stepsT ws _ (Nat.le_refl _), List.take_length]
/-- whether a fetch is considered -/
def Cons (fs : List (Int × List Int)) (n : Int) (i : Nat) : Prop := 1 ≤ (gF fs i).1 ∧ (gF fs i).1 ≤ n
theorem count_waveT (fs : List (Int × List Int)) (d : Int) (j : Nat) : ∀ k, (waveT fs d k).count (j : Int) = if j < k ∧ (gF fs j).1 = d then 1 else 0
  | 0 => by simp [waveT]
  | k + 1 => by
    rw [waveT]
    have ih := count_waveT fs d j k
    by_cases hd : (gF fs k).1 = d
    · rw [if_pos hd, List.count_append, ih]
      by_cases hj : j = k
      · subst hj; simp [hd]
      · have e : ¬ (k : Int) = (j : Int) := by omega
        by_cases hl : j < k
        · simp [e, show j < k + 1 by omega, hl]
        · simp [e, show ¬ j < k + 1 by omega, hl]
    · rw [if_neg hd, ih]
      by_cases hj : j = k
      · subst hj; simp [hd]
      · by_cases hl : j < k
        · simp [show j < k + 1 by omega, hl]
        · simp [show ¬ j < k + 1 by omega, hl]
theorem count_wavesT (fs : List (Int × List Int)) (j : Nat) (hj : j < fs.length) : ∀ d, (wavesT fs d).flatten.count (j : Int) = if 1 ≤ (gF fs j).1 ∧ (gF fs j).1 ≤ (d : Int) then 1 else 0
  | 0 => by
    have : ¬ (1 ≤ (gF fs j).1 ∧ (gF fs j).1 ≤ ((0 : Nat) : Int)) := by omega
    rw [if_neg this]; simp [wavesT]
  | d + 1 => by
    rw [wavesT, List.flatten_append, List.count_append, count_wavesT fs j hj d, List.flatten_cons, List.flatten_nil, List.append_nil, count_waveT]
    by_cases h1 : 1 ≤ (gF fs j).1 ∧ (gF fs j).1 ≤ (d : Int)
    · rw [if_pos h1, if_neg (by omega), if_pos (by omega)]
    · rw [if_neg h1]
      by_cases h2 : (gF fs j).1 = ((d + 1 : Nat) : Int)
      · rw [if_pos ⟨hj, h2⟩, if_pos (by omega)]
      · rw [if_neg (by omega), if_neg (by omega)]
theorem mostT_ge (fs : List (Int × List Int)) (n : Nat) (j : Nat) (h : (gF fs j).1 ≤ n) : ∀ k, j < k → (gF fs j).1 ≤ mostT fs n k
  | 0, hk => by omega
  | k + 1, hk => by
    rw [mostT]
    by_cases hj : j = k
    · subst hj; rw [if_pos h]; omega
    · have := mostT_ge fs n j h k (by omega)
      split <;> omega
theorem count_waves (fs : List (Int × List Int)) (j : Nat) (hj : j < fs.length) : (wavesI fs).flatten.count (j : Int) = if 1 ≤ (gF fs j).1 ∧ (gF fs j).1 ≤ (fs.length : Int) then 1 else 0 := by
  unfold wavesI
  rw [count_wavesT fs j hj]
  have h1 := mostT_range fs fs.length fs.length
  by_cases h : 1 ≤ (gF fs j).1 ∧ (gF fs j).1 ≤ (fs.length : Int)
  · have := mostT_ge fs fs.length j h.2 fs.length hj
    rw [if_pos h, if_pos (by omega)]
  · rw [if_neg h, if_neg (by omega)]
theorem waveT_range (fs : List (Int × List Int)) (d : Int) : ∀ k, ∀ x ∈ waveT fs d k, 0 ≤ x ∧ x < k
  | 0, x, h => by simp [waveT] at h
  | k + 1, x, h => by
    rw [waveT] at h
    have ih := waveT_range fs d k x
    split at h
    · rcases List.mem_append.1 h with h | h
      · have := ih h; omega
      · simp at h; omega
    · have := ih h; omega
theorem wavesT_range (fs : List (Int × List Int)) : ∀ d, ∀ x ∈ (wavesT fs d).flatten, 0 ≤ x ∧ x < fs.length
  | 0, x, h => by simp [wavesT] at h
  | d + 1, x, h => by
    rw [wavesT, List.flatten_append, List.flatten_cons, List.flatten_nil, List.append_nil] at h
    rcases List.mem_append.1 h with h | h
    · exact wavesT_range fs d x h
    · exact waveT_range fs _ _ x h
theorem wavesT_flat_length (fs : List (Int × List Int)) : ∀ d, (wavesT fs d).flatten.length ≤ d * fs.length
  | 0 => by simp [wavesT]
  | d + 1 => by
    rw [wavesT, List.flatten_append, List.flatten_cons, List.flatten_nil, List.append_nil, List.length_append, Nat.succ_mul]
    have := wavesT_flat_length fs d
    have := waveT_length fs ((d + 1 : Nat) : Int) fs.length
    omega
theorem waves_cok (fs : List (Int × List Int)) (hn : fs.length ≤ 200) : Cok fs.length (fun _ => 0) (leafs (treeI (wavesI fs))) := by
  rw [leafs_treeI]
  refine ⟨fun j => ⟨Int.le_refl _, ?_⟩, fun x hx => wavesT_range fs _ x hx⟩
  have h1 := wavesT_flat_length fs (mostT fs fs.length fs.length).toNat
  have h2 := mostT_range fs fs.length fs.length
  have h3 : (mostT fs fs.length fs.length).toNat * fs.length ≤ 200 * 200 := Nat.mul_le_mul (by omega) hn
  unfold wavesI
  show (0 : Int) + _ ≤ _
  omega
/-! ### depth -/
theorem depth_leaf (i : Int) : depthI (leaf i) = 1 := by rw [leaf, depthI_eq]; simp
theorem maxF_leaves : ∀ (l : List Int) (a : Int), 0 ≤ a → maxF a (leaves l) = if l.length = 0 then a else max a 1
  | [], a, _ => by show maxF a [] = _; rw [maxF]; simp
  | x :: l, a, h => by
    show maxF a (leaf x :: leaves l) = _
    rw [maxF, depth_leaf, maxF_leaves l _ (by omega)]
    simp
    try (split <;> omega)
theorem depth_waveN (l : List Int) : ∀ t ∈ waveN l, depthI t = 1 := by
  intro t ht
  unfold waveN at ht
  split at ht
  · simp at ht
  · split at ht
    · simp at ht; subst ht; exact depth_leaf _
    · simp at ht; subst ht; rw [depthI_eq, maxF_leaves _ _ (by omega)]
      rename_i h _
      rw [if_neg h]; simp
      omega
theorem depth_stepsT (ws : List (List Int)) : ∀ k, ∀ t ∈ stepsT ws k, depthI t = 1
  | 0, t, h => by simp [stepsT] at h
  | k + 1, t, h => by
    rw [stepsT] at h
    rcases List.mem_append.1 h with h | h
    · exact depth_stepsT ws k t h
    · exact depth_waveN _ t h
theorem sumF_ones : ∀ (l : List Tree) (a : Int), 0 ≤ a → a + l.length ≤ 1099511627776 → (∀ t ∈ l, depthI t = 1) → sumF a l = a + l.length
  | [], a, _, _, _ => by rw [sumF]; simp
  | t :: l, a, h0, h1, h => by
    simp only [List.length_cons] at h1 ⊢
    have hw : wrap64 (a + 1) = a + 1 := wrap_in ⟨by omega, by omega⟩
    rw [sumF, h t (by simp), hw, sumF_ones l (a + 1) (by omega) (by omega) (fun t ht => h t (by simp [ht]))]
    omega
/-- how many waves are not empty -/
def fillT (ws : List (List Int)) (k : Nat) : Nat := (stepsT ws k).length
theorem fillT_succ (ws : List (List Int)) (k : Nat) : fillT ws (k + 1) = if 0 < (gL ws k).length then fillT ws k + 1 else fillT ws k := by
  unfold fillT
  rw [stepsT, List.length_append]
  unfold waveN
  split
  · rename_i h; rw [if_neg (show ¬ 0 < (gL ws k).length by omega)]; simp
  · rename_i h; rw [if_pos (show 0 < (gL ws k).length by omega)]; split <;> simp
theorem depth_treeI (ws : List (List Int)) (h : ws.length ≤ 200) : depthI (treeI ws) = (fillT ws ws.length : Nat) := by
  have hl := stepsT_length ws ws.length
  have hd := depth_stepsT ws ws.length
  unfold treeI fillT
  generalize stepsT ws ws.length = ts at *
  unfold treeOf
  split
  · rename_i h; rw [depthI_eq, h]; simp
  · split
    · rename_i h
      obtain ⟨x, rfl⟩ := List.length_eq_one_iff.1 h
      have := hd x (by simp)
      simpa [gT] using this
    · rw [depthI_eq]
      rw [if_neg (show ¬ (2 : Int) = 1 by omega), if_pos rfl, sumF_ones ts 0 (by omega) (by omega) hd]; omega
theorem treeI_small (ws : List (List Int)) (h1 : ws.length ≤ 200) (h2 : ∀ i, (gL ws i).length ≤ 200) : (treeI ws).list.length ≤ 200 := by
  have hw : ∀ k, ∀ t ∈ stepsT ws k, t.list.length ≤ 200 := by
    intro k
    induction k with
    | zero => intro t h; simp [stepsT] at h
    | succ k ih =>
      intro t h
      rw [stepsT] at h
      rcases List.mem_append.1 h with h | h
      · exact ih t h
      · unfold waveN at h
        split at h
        · simp at h
        · split at h
          · simp at h; subst h; simp [leaf, Tree.list]
          · simp at h; subst h; simp [leaves, Tree.list]; exact h2 k
  have hl := stepsT_length ws ws.length
  have hw := hw ws.length
  unfold treeI
  generalize stepsT ws ws.length = ts at *
  unfold treeOf
  split
  · simp [Tree.list]
  · split
    · rename_i h
      obtain ⟨x, rfl⟩ := List.length_eq_one_iff.1 h
      have := hw x (by simp)
      simpa [gT] using this
    · simp only [Tree.list]; omega
end Go.Proofs.Ytkldeelhlbhlmaa
