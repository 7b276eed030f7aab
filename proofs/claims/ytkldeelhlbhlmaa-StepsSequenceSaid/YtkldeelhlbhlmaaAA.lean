/- Depths that are those of the dependencies: plain. -/
import Derived.Test.YtkldeelhlbhlmaaV
namespace Go.Proofs.Ytkldeelhlbhlmaa
open Go.RowKit
/-- the greatest depth of the first k fetches of l -/
def dmax (fs : List (Int × List Int)) (l : List Int) : Nat → Int
  | 0 => 0
  | k + 1 => max (dmax fs l k) (gF fs (gI l k).toNat).1
/-- the first k numbers of l are indices below i -/
def InTo (l : List Int) (i k : Nat) : Prop := ∀ q, q < k → 0 ≤ gI l q ∧ gI l q < i
/-- the first m depths are those of the dependencies -/
def SeqTo (fs : List (Int × List Int)) (m : Nat) : Prop := ∀ i, i < m → InTo (gF fs i).2 i (gF fs i).2.length ∧ (gF fs i).1 = dmax fs (gF fs i).2 (gF fs i).2.length + 1
/-- the greatest of the first m depths -/
def mostD (fs : List (Int × List Int)) : Nat → Int
  | 0 => 0
  | m + 1 => max (mostD fs m) (gF fs m).1
theorem dmax_range {fs : List (Int × List Int)} {l : List Int} {i : Nat} (h : ∀ j, j < i → 1 ≤ (gF fs j).1 ∧ (gF fs j).1 ≤ i) : ∀ k, InTo l i k → 0 ≤ dmax fs l k ∧ dmax fs l k ≤ i
  | 0, _ => by simp [dmax]
  | k + 1, hk => by
    have ih := dmax_range h k (fun q hq => hk q (by omega))
    have h1 := hk k (by omega)
    have h2 := h (gI l k).toNat (by omega)
    rw [dmax]; omega
theorem SeqTo.le {fs : List (Int × List Int)} {m i : Nat} (h : SeqTo fs m) (hi : i ≤ m) : SeqTo fs i := fun j hj => h j (by omega)
theorem seq_range {fs : List (Int × List Int)} : ∀ (n m : Nat), m ≤ n → SeqTo fs m → ∀ j, j < m → 1 ≤ (gF fs j).1 ∧ (gF fs j).1 ≤ j + 1
  | 0, m, hm, h, j, hj => by omega
  | n + 1, m, hm, h, j, hj => by
    have ih := seq_range n j (by omega) (h.le (by omega))
    have h1 := h j hj
    have h2 := dmax_range (fs := fs) (i := j) (fun q hq => by have := ih q hq; omega) _ h1.1
    omega
theorem SeqTo.snoc {fs : List (Int × List Int)} {m : Nat} (h : SeqTo fs m) (h1 : InTo (gF fs m).2 m (gF fs m).2.length) (h2 : (gF fs m).1 = dmax fs (gF fs m).2 (gF fs m).2.length + 1) : SeqTo fs (m + 1) := fun i hi => by
  by_cases e : i = m
  · subst e; exact ⟨h1, h2⟩
  · exact h i (by omega)
theorem seq_dmax {fs : List (Int × List Int)} {m k : Nat} {l : List Int} (h : SeqTo fs m) (hk : InTo l m k) : 0 ≤ dmax fs l k ∧ dmax fs l k ≤ m :=
  dmax_range (fun j hj => by have := seq_range m m (Nat.le_refl _) h j hj; omega) k hk
theorem mostD_range {fs : List (Int × List Int)} : ∀ {m : Nat}, SeqTo fs m → 0 ≤ mostD fs m ∧ mostD fs m ≤ m
  | 0, _ => by simp [mostD]
  | m + 1, h => by
    have ih := mostD_range (h.le (show m ≤ m + 1 by omega))
    have := seq_range (m + 1) (m + 1) (Nat.le_refl _) h m (by omega)
    rw [mostD]; omega
/-! ### the times -/
theorem beg_seq {fs : List (Int × List Int)} {T l : List Int} {i : Nat} (hT : T.length = i) (hv : ∀ j, j < i → gI T j = (gF fs j).1) : ∀ k, InTo l i k → beg T l k = dmax fs l k
  | 0, _ => rfl
  | k + 1, hk => by
    have h1 := hk k (by omega)
    rw [beg_yes (x := gI l k) (n := i) rfl (by rw [hT]) h1.1 h1.2, beg_seq hT hv k (fun q hq => hk q (by omega)), dmax, hv _ (by omega)]
theorem gI_ones (n j : Nat) (h : j < n) : gI (List.replicate n 1) j = 1 := by simp [gI, h]
theorem time_seq {fs : List (Int × List Int)} {n : Nat} (hn : n ≤ 200) : ∀ i, i ≤ n → SeqTo fs i → ∀ j, j < i → gI (timeT fs (List.replicate n 1) i) j = (gF fs j).1
  | 0, _, _, j, hj => by omega
  | i + 1, hi, h, j, hj => by
    have ih := time_seq hn i (by omega) (h.le (by omega))
    have hs := h i (by omega)
    have hd := seq_dmax (h.le (show i ≤ i + 1 by omega)) hs.1
    rw [timeT, gI_snoc, timeT_length]
    by_cases e : j = i
    · subst e
      rw [if_pos rfl, beg_seq (timeT_length _ _ _) ih _ hs.1, fin, if_pos (by simp; omega), gI_ones _ _ (by omega), hs.2]
      have : min (max (1 : Int) 0) 1099511627776 = 1 := by decide
      rw [this]
      exact wrap_in ⟨by omega, by omega⟩
    · rw [if_neg e]; exact ih j (by omega)
theorem timeI_seq {fs : List (Int × List Int)} (hn : fs.length ≤ 200) (h : SeqTo fs fs.length) : timeI fs (List.replicate fs.length 1) = fs.map (·.1) := by
  apply eq_of_gI
  · unfold timeI; rw [timeT_length]; simp
  · intro j hj
    unfold timeI at hj ⊢
    rw [timeT_length] at hj
    rw [time_seq hn _ (Nat.le_refl _) h j hj]
    simp [gI, gF, List.getElem?_eq_getElem hj]
/-! ### the depth of the tree -/
theorem mostT_seq {fs : List (Int × List Int)} {n : Nat} : ∀ m, m ≤ n → SeqTo fs m → mostT fs n m = mostD fs m
  | 0, _, _ => rfl
  | m + 1, hm, h => by
    have := seq_range (m + 1) (m + 1) (Nat.le_refl _) h m (by omega)
    rw [mostT, mostD, if_pos (by omega), mostT_seq m (by omega) (h.le (by omega))]
/-- a greatest depth is taken -/
theorem dmax_taken {fs : List (Int × List Int)} {l : List Int} {i : Nat} : ∀ k, InTo l i k → 1 ≤ dmax fs l k → ∃ j, j < i ∧ (gF fs j).1 = dmax fs l k
  | 0, _, h => by simp [dmax] at h
  | k + 1, hk, h => by
    have h1 := hk k (by omega)
    rw [dmax] at h ⊢
    by_cases hc : (gF fs (gI l k).toNat).1 ≤ dmax fs l k
    · obtain ⟨j, hj, e⟩ := dmax_taken (fs := fs) k (fun q hq => hk q (by omega)) (by omega)
      exact ⟨j, hj, by omega⟩
    · exact ⟨(gI l k).toNat, by omega, by omega⟩
theorem depth_taken {fs : List (Int × List Int)} {m : Nat} (h : SeqTo fs m) : ∀ (d : Nat) (i : Nat), i < m → (gF fs i).1 = (d : Int) + 1 → ∀ e : Nat, e ≤ d → ∃ j, j < m ∧ (gF fs j).1 = (e : Int) + 1
  | 0, i, hi, hd, e, he => ⟨i, hi, by omega⟩
  | d + 1, i, hi, hd, e, he => by
    by_cases e1 : e = d + 1
    · subst e1; exact ⟨i, hi, hd⟩
    · have hs := h i hi
      obtain ⟨j, hj, e2⟩ := dmax_taken (fs := fs) (l := (gF fs i).2) (i := i) _ hs.1 (by omega)
      exact depth_taken h d j (by omega) (by omega) e (by omega)
theorem mostD_taken {fs : List (Int × List Int)} : ∀ m, 1 ≤ mostD fs m → ∃ i, i < m ∧ (gF fs i).1 = mostD fs m
  | 0, h => by simp [mostD] at h
  | m + 1, h => by
    rw [mostD] at h ⊢
    by_cases hc : (gF fs m).1 ≤ mostD fs m
    · obtain ⟨i, hi, e⟩ := mostD_taken (fs := fs) m (by omega)
      exact ⟨i, by omega, by omega⟩
    · exact ⟨m, by omega, by omega⟩
theorem waveT_has {fs : List (Int × List Int)} {d : Int} : ∀ k j, j < k → (gF fs j).1 = d → 0 < (waveT fs d k).length
  | 0, j, h, _ => by omega
  | k + 1, j, h, e => by
    rw [waveT]
    by_cases hk : (gF fs k).1 = d
    · rw [if_pos hk]; simp
    · rw [if_neg hk]
      have : j ≠ k := fun e2 => hk (by rw [← e2]; exact e)
      exact waveT_has k j (by omega) e
theorem fill_full {ws : List (List Int)} : ∀ k, (∀ i, i < k → 0 < (gL ws i).length) → fillT ws k = k
  | 0, _ => by unfold fillT; rfl
  | k + 1, h => by rw [fillT_succ, if_pos (h k (by omega)), fill_full k (fun i hi => h i (by omega))]
theorem seq_depth {fs : List (Int × List Int)} (hn : fs.length ≤ 200) (h : SeqTo fs fs.length) : depthI (treeI (wavesI fs)) = mostD fs fs.length := by
  have hw := waves_small fs hn
  rw [depth_treeI _ hw.1]
  have hm := mostT_seq (n := fs.length) fs.length (Nat.le_refl _) h
  have hr := mostD_range h
  have hl : (wavesI fs).length = (mostD fs fs.length).toNat := by unfold wavesI; rw [wavesT_length, hm]
  rw [fill_full, hl]
  · omega
  · intro i hi
    rw [hl] at hi
    obtain ⟨i0, h0, e0⟩ := mostD_taken (fs := fs) fs.length (by omega)
    obtain ⟨j, hj, e⟩ := depth_taken h ((mostD fs fs.length).toNat - 1) i0 h0 (by omega) i (by omega)
    have : gL (wavesI fs) i = waveT fs ((i + 1 : Nat) : Int) fs.length := by
      unfold wavesI
      exact wavesT_gL fs _ i (by rw [hm]; exact hi)
    rw [this]
    exact waveT_has _ j hj (by omega)
end Go.Proofs.Ytkldeelhlbhlmaa
