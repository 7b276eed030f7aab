/- Parts of a proof, merged by a program (shake.py). -/
import Derived.Test.YtjhjleanihgopaaDoorQ30
namespace Go.Proofs.YtjhjleanihgopaaDoor
theorem unqF_len : ∀ (k : Nat) (l : List UInt8), ((unqF k l).getD []).length ≤ l.length := by
  intro k
  induction k with
  | zero => intro l; cases l <;> simp [unqF]
  | succ k ih =>
    intro l
    cases l with
    | nil => simp [unqF]
    | cons c r =>
      show ((stpU (unqF k) c r).getD []).length ≤ _
      have hm : ∀ (q : List UInt8) (x : UInt8), q.length ≤ r.length → (((unqF k q).map (x :: ·)).getD []).length ≤ (c :: r).length := fun q x hq => by
        have := ih q
        cases hx : unqF k q with
        | none => simp
        | some u => rw [hx] at this; simp at this ⊢; omega
      unfold stpU
      by_cases h1 : c.toNat < 32 ∨ 126 < c.toNat ∨ c = 34
      · rw [if_pos h1]; simp
      rw [if_neg h1]
      by_cases h2 : c ≠ 92
      · rw [if_pos h2]; exact hm r c (Nat.le_refl _)
      rw [if_neg h2]
      cases r with
      | nil => simp
      | cons d q =>
        dsimp only
        cases simU d with
        | some x => exact hm q x (by simp)
        | none =>
          dsimp only
          by_cases h3 : d ≠ 117 ∨ q.length < 4
          · rw [if_pos h3]; simp
          rw [if_neg h3]
          cases codeFrom 0 (q.take 4) with
          | none => simp
          | some n =>
            dsimp only
            by_cases h4 : n ≤ 255
            · rw [if_pos h4]; exact hm (q.drop 4) _ (by simp; omega)
            · rw [if_neg h4]; simp
theorem unquote_len (l : List UInt8) (h : 2 ≤ l.length) : ((unquoteU l).getD []).length + 2 ≤ l.length := by
  unfold unquoteU
  split
  · have := unqF_len ((l.drop 1).take (l.length - 2)).length ((l.drop 1).take (l.length - 2))
    have h2 : ((l.drop 1).take (l.length - 2)).length ≤ l.length - 2 := by rw [List.length_take]; omega
    have h3 : ((unqU ((l.drop 1).take (l.length - 2))).getD []).length ≤ ((l.drop 1).take (l.length - 2)).length := this
    omega
  · simpa using h
theorem readJ_len {r q : List UInt8} : (readJ r q).length = r.length - q.length := by unfold readJ; rw [List.length_take]; omega
theorem str_len {r : List UInt8} {y : List UInt8 × List UInt8} (h : strJ r = .ok y) : y.1.length + y.2.length + 2 ≤ r.length := by
  unfold strJ at h
  obtain ⟨a, h1, h⟩ := bind_ok h
  obtain ⟨q, h2, h⟩ := bind_ok h
  have e1 := (takeJ_suffix h1).2
  have e2 := (bodyJ_suffix h2).2
  cases h
  have h3 : 2 ≤ (readJ r q).length := by rw [readJ_len]; omega
  have h4 := unquote_len (readJ r q) h3
  rw [readJ_len] at h4 h3
  show ((unquoteU (readJ r q)).getD []).length + q.length + 2 ≤ r.length
  omega
theorem word_len' : ∀ (w r q : List UInt8), wordJ w r = .ok q → q.length + w.length = r.length
  | [], r, q, h => by cases h; rfl
  | c :: w, r, q, h => by
    obtain ⟨a, h1, h2⟩ := bind_ok h
    obtain ⟨c', rfl, _⟩ := takeJ_ok h1
    have := word_len' w a q h2
    simp only [List.length_cons]; omega
theorem word_len {w r q : List UInt8} (h : wordJ w r = .ok q) : q.length + w.length = r.length := word_len' w r q h
theorem num_in {r : List UInt8} {y : Int × List UInt8} (h : numJ r = .ok y) : -9223372036854775808 ≤ y.1 ∧ y.1 ≤ 9223372036854775807 := by
  unfold numJ at h
  obtain ⟨a, h1, h⟩ := bind_ok h
  dsimp only at h
  generalize hq : (if (if r.head? = some 45 then r.tail else r).head? = some 48 then a else a.dropWhile digU) = q at h
  cases hn : numU (readJ r q) with
  | ok n => rw [hn] at h; cases h; exact (itoa_num hn).2
  | _ => rw [hn] at h; cases h
def wtJ : Nat → D → Nat
  | 0, _ => 0
  | k + 1, d => 1 + (d.f 2).s.size + ((d.f 4).l.map fun x => 1 + x.s.size).sum + ((d.f 3).l.map fun x => wtJ k x).sum
structure Gd (k : Nat) (d : D) : Prop where
  every : everyB k d = true
  strs : strsJ k d = d
  ints : intsJ k d
theorem range_gD (g : D → Nat) (l : List D) : (List.range l.length).map (fun i => g (gD l i)) = l.map g := by
  apply List.ext_getElem
  · simp
  · intro i h1 h2
    have : i < l.length := by simpa using h2
    simp [gD_get this]
theorem sum_gD (g : D → Nat) (l : List D) : sumN (fun i => g (gD l i)) l.length = (l.map g).sum := by
  unfold sumN; rw [range_gD]
theorem range_gD2 (g : D → D) (l : List D) (h : ∀ d ∈ l, g d = d) : (List.range l.length).map (fun i => g (gD l i)) = l := by
  apply List.ext_getElem
  · simp
  · intro i h1 h2
    have : i < l.length := h2
    simp only [List.getElem_map, List.getElem_range]
    rw [h _ (gD_mem this), gD_get this]
def kwU (us : List (List UInt8)) : Nat := (us.map fun u => 1 + u.length).sum
theorem strs_keys (kd n : Int) (t : List UInt8) (its : List D) (us : List (List UInt8)) : strsL (vD kd n t its (keysD us)) = us := by
  show (us.map fun s => D.str ⟨s.toArray⟩).map (fun x => x.s.data.toList) = us
  rw [List.map_map]
  exact List.map_id' us
theorem kw_keys (us : List (List UInt8)) : ((keysD us).map fun x => 1 + x.s.size).sum = kwU us := by
  unfold keysD kwU
  rw [List.map_map]; rfl
theorem node_got {k : Nat} {kd n : Int} {t : List UInt8} {its : List D} {us : List (List UInt8)} (hits : ∀ d ∈ its, Gd k d) (hk : kd ≠ 4) (hn : -9223372036854775808 ≤ n ∧ n ≤ 9223372036854775807) (hb : nodeB (vD kd n t its (keysD us)) = true) :
    Gd (k + 1) (vD kd n t its (keysD us)) ∧ sizeJ (k + 1) (vD kd n t its (keysD us)) = 1 + (its.map (sizeJ k)).sum ∧ wtJ (k + 1) (vD kd n t its (keysD us)) = 1 + t.length + kwU us + (its.map (wtJ k)).sum := by
  refine ⟨⟨?_, ?_, hn, fun i hi => (hits _ (gD_mem hi)).ints⟩, ?_, ?_⟩
  · unfold everyB
    rw [hb, Bool.true_and, List.all_eq_true]
    intro i hi
    have : i < its.length := List.mem_range.1 hi
    exact (hits _ (gD_mem this)).every
  · show vD (if kd = 4 then 3 else kd) n t ((List.range its.length).map fun i => strsJ k (gD its i)) (keysD (strsL (vD kd n t its (keysD us)))) = _
    rw [if_neg hk, strs_keys, range_gD2 (strsJ k) its fun d hd => (hits d hd).strs]
  · show 1 + sumN (fun i => sizeJ k (gD its i)) its.length = _
    rw [sum_gD]
  · show 1 + t.length + ((keysD us).map fun x => 1 + x.s.size).sum + (its.map fun x => wtJ k x).sum = _
    rw [kw_keys]
def Vg (k m : Nat) (r : List UInt8) (y : D × Nat × List UInt8) : Prop := Gd k y.1 ∧ y.2.1 = m + sizeJ k y.1 ∧ wtJ k y.1 + y.2.2.length ≤ r.length
theorem items_got {k : Nat} {f : Nat → List UInt8 → Except JE (D × Nat × List UInt8)} (hf : ∀ m r y, f m r = .ok y → Vg k m r y) : ∀ (j m : Nat) (r : List UInt8) (l : List D) (y : List D × Nat × List UInt8), itemsJ f j m r l = .ok y → (∀ d ∈ l, Gd k d) →
    (∀ d ∈ y.1, Gd k d) ∧ y.2.1 + (l.map (sizeJ k)).sum = m + (y.1.map (sizeJ k)).sum ∧ (y.1.map (wtJ k)).sum + y.2.2.length + 1 ≤ r.length + (l.map (wtJ k)).sum
  | 0, m, r, l, y, h, _ => by cases h
  | j + 1, m, r, l, y, h, hl => by
    unfold itemsJ at h
    obtain ⟨a, h1, h⟩ := bind_ok h
    obtain ⟨g1, g2, g3⟩ := hf m r a h1
    have hl' : ∀ d ∈ l ++ [a.1], Gd k d := fun d hd => by
      rcases List.mem_append.1 hd with hd | hd
      · exact hl d hd
      · rw [List.mem_singleton.1 hd]; exact g1
    have hsp := (spc_suffix a.2.2).length_le
    cases hs : spc a.2.2 with
    | nil => rw [hs] at h; cases h
    | cons c q =>
      rw [hs] at h hsp
      dsimp only at h
      simp only [List.length_cons] at hsp
      by_cases c1 : c = 44
      · rw [if_pos c1] at h
        obtain ⟨i1, i2, i3⟩ := items_got hf j a.2.1 q (l ++ [a.1]) y h hl'
        simp only [List.map_append, List.sum_append, List.map_cons, List.map_nil, List.sum_cons, List.sum_nil] at i2 i3
        exact ⟨i1, by omega, by omega⟩
      rw [if_neg c1] at h
      by_cases c2 : c = 93
      · rw [if_pos c2] at h
        cases h
        refine ⟨hl', ?_, ?_⟩
        · simp only [List.map_append, List.sum_append, List.map_cons, List.map_nil, List.sum_cons, List.sum_nil]; omega
        · simp only [List.map_append, List.sum_append, List.map_cons, List.map_nil, List.sum_cons, List.sum_nil]; omega
      · rw [if_neg c2] at h; cases h
theorem fields_got {k : Nat} {f : Nat → List UInt8 → Except JE (D × Nat × List UInt8)} (hf : ∀ m r y, f m r = .ok y → Vg k m r y) : ∀ (j m : Nat) (r : List UInt8) (ks : List (List UInt8)) (l : List D) (y : List (List UInt8) × List D × Nat × List UInt8), fieldsJ f j m r ks l = .ok y → (∀ d ∈ l, Gd k d) → ks.Nodup → ks.length = l.length →
    (∀ d ∈ y.2.1, Gd k d) ∧ y.1.Nodup ∧ y.1.length = y.2.1.length ∧ y.2.2.1 + (l.map (sizeJ k)).sum = m + (y.2.1.map (sizeJ k)).sum ∧ kwU y.1 + (y.2.1.map (wtJ k)).sum + y.2.2.2.length + 1 ≤ r.length + kwU ks + (l.map (wtJ k)).sum
  | 0, m, r, ks, l, y, h, _, _, _ => by cases h
  | j + 1, m, r, ks, l, y, h, hl, hd, hkl => by
    unfold fieldsJ at h
    obtain ⟨b, h0, h⟩ := bind_ok h
    have hb := str_len h0
    have hsp0 := (spc_suffix r).length_le
    by_cases hk : b.1 ∈ ks
    · rw [if_pos hk] at h; cases h
    rw [if_neg hk] at h
    obtain ⟨r2, h1, h⟩ := bind_ok h
    have ht := (takeJ_suffix h1).2
    have hsp1 := (spc_suffix b.2).length_le
    obtain ⟨a, h2, h⟩ := bind_ok h
    obtain ⟨g1, g2, g3⟩ := hf m r2 a h2
    have hl' : ∀ d ∈ l ++ [a.1], Gd k d := fun d hd => by
      rcases List.mem_append.1 hd with hd | hd
      · exact hl d hd
      · rw [List.mem_singleton.1 hd]; exact g1
    have hd' : (ks ++ [b.1]).Nodup := by
      rw [List.nodup_append]
      refine ⟨hd, by simp, ?_⟩
      intro x hx y hy e
      rw [List.mem_singleton.1 hy] at e
      rw [e] at hx
      exact hk hx
    have hkw : kwU (ks ++ [b.1]) = kwU ks + (1 + b.1.length) := by simp [kwU]
    have hsp := (spc_suffix a.2.2).length_le
    cases hs : spc a.2.2 with
    | nil => rw [hs] at h; cases h
    | cons c q =>
      rw [hs] at h hsp
      dsimp only at h
      simp only [List.length_cons] at hsp
      by_cases c1 : c = 44
      · rw [if_pos c1] at h
        obtain ⟨i1, i2, i3, i4, i5⟩ := fields_got hf j a.2.1 q (ks ++ [b.1]) (l ++ [a.1]) y h hl' hd' (by simp [hkl])
        simp only [List.map_append, List.sum_append, List.map_cons, List.map_nil, List.sum_cons, List.sum_nil] at i4 i5
        rw [hkw] at i5
        exact ⟨i1, i2, i3, by omega, by omega⟩
      rw [if_neg c1] at h
      by_cases c2 : c = 125
      · rw [if_pos c2] at h
        cases h
        refine ⟨hl', hd', by simp [hkl], ?_, ?_⟩
        · simp only [List.map_append, List.sum_append, List.map_cons, List.map_nil, List.sum_cons, List.sum_nil]; omega
        · simp only [List.map_append, List.sum_append, List.map_cons, List.map_nil, List.sum_cons, List.sum_nil]
          rw [hkw]; omega
      · rw [if_neg c2] at h; cases h
theorem r_zero : -9223372036854775808 ≤ (0 : Int) ∧ (0 : Int) ≤ 9223372036854775807 := by decide
theorem node_simple (t : List UInt8) (kd n : Int) (h : (kd = 0 ∧ n = 0 ∧ t = []) ∨ (kd = 1 ∧ (n = 0 ∨ n = 1) ∧ t = []) ∨ (kd = 2 ∧ t = []) ∨ (kd = 3 ∧ n = 0)) : nodeB (vD kd n t [] (keysD [])) = true := by
  show (((kd == 1 || kd == 2 || n == 0) && (kd == 3 || kd == 4 || t == []) && (kd == 6 || (0 : Nat) == 0) && (kd == 6 || kd == 5 || (0 : Nat) == 0) && decide (0 ≤ kd ∧ kd ≤ 6) && (!(kd == 1) || n == 0 || n == 1) && (!(kd == 4) || _) && (!(kd == 6) || _)) = true)
  rcases h with ⟨rfl, rfl, rfl⟩ | ⟨rfl, h, rfl⟩ | ⟨rfl, rfl⟩ | ⟨rfl, rfl⟩
  · rfl
  · rcases h with rfl | rfl <;> rfl
  · simp
  · simp
theorem node_list (its : List D) : nodeB (vD 5 0 [] its (keysD [])) = true := by
  show (((5 : Int) == 1 || (5 : Int) == 2 || (0 : Int) == 0) && ((5 : Int) == 3 || (5 : Int) == 4 || ([] : List UInt8) == []) && ((5 : Int) == 6 || (0 : Nat) == 0) && ((5 : Int) == 6 || (5 : Int) == 5 || its.length == 0) && decide (0 ≤ (5 : Int) ∧ (5 : Int) ≤ 6) && (!((5 : Int) == 1) || (0 : Int) == 0 || (0 : Int) == 1) && (!((5 : Int) == 4) || _) && (!((5 : Int) == 6) || _)) = true
  simp
theorem node_obj (its : List D) (us : List (List UInt8)) (hn : us.Nodup) (hl : us.length = its.length) : nodeB (vD 6 0 [] its (keysD us)) = true := by
  show (((6 : Int) == 1 || (6 : Int) == 2 || (0 : Int) == 0) && ((6 : Int) == 3 || (6 : Int) == 4 || ([] : List UInt8) == []) && ((6 : Int) == 6 || (keysD us).length == 0) && ((6 : Int) == 6 || (6 : Int) == 5 || its.length == 0) && decide (0 ≤ (6 : Int) ∧ (6 : Int) ≤ 6) && (!((6 : Int) == 1) || (0 : Int) == 0 || (0 : Int) == 1) && (!((6 : Int) == 4) || _) && (!((6 : Int) == 6) || ((keysD us).length == its.length && decide (strsL (vD 6 0 [] its (keysD us))).Nodup))) = true
  rw [strs_keys]
  have : (keysD us).length = its.length := by unfold keysD; rw [List.length_map]; exact hl
  rw [this]
  simp [hn]
theorem value_got : ∀ (k m : Nat) (r : List UInt8) (y : D × Nat × List UInt8), valueJ k m r = .ok y → Vg k m r y
  | 0, m, r, y, h => by
    unfold valueJ at h
    split at h
    · cases h
    · split at h <;> cases h
  | k + 1, m, r, y, h => by
    unfold valueJ at h
    have hsp := (spc_suffix r).length_le
    have leaf : ∀ (kd n : Int) (t q : List UInt8), ((kd = 0 ∧ n = 0 ∧ t = []) ∨ (kd = 1 ∧ (n = 0 ∨ n = 1) ∧ t = []) ∨ (kd = 2 ∧ t = []) ∨ (kd = 3 ∧ n = 0)) → (-9223372036854775808 ≤ n ∧ n ≤ 9223372036854775807) → 1 + t.length + q.length ≤ r.length → Vg (k + 1) m r (vD kd n t [] [], m + 1, q) := fun kd n t q hk hn hl => by
      obtain ⟨g1, g2, g3⟩ := node_got (k := k) (kd := kd) (n := n) (t := t) (its := []) (us := []) (fun d hd => by cases hd) (by omega) hn (node_simple t kd n hk)
      refine ⟨g1, ?_, ?_⟩
      · show m + 1 = m + sizeJ (k + 1) (vD kd n t [] (keysD []))
        rw [g2]; rfl
      · show wtJ (k + 1) (vD kd n t [] (keysD [])) + q.length ≤ r.length
        rw [g3]
        show 1 + t.length + 0 + 0 + q.length ≤ r.length
        omega
    cases hs : spc r with
    | nil => rw [hs] at h; cases h
    | cons c q =>
      rw [hs] at h hsp
      dsimp only at h
      simp only [List.length_cons] at hsp
      by_cases h1 : beginsJ c = false
      · rw [if_pos h1] at h; cases h
      rw [if_neg h1] at h
      by_cases h2 : 4096 < m + 1
      · rw [if_pos h2] at h; cases h
      rw [if_neg h2] at h
      by_cases h3 : c = 110
      · rw [if_pos h3] at h
        obtain ⟨a, ha, h⟩ := bind_ok h
        cases h
        have := word_len ha
        simp only [List.length_cons, List.length_nil] at this
        exact leaf 0 0 [] a (.inl ⟨rfl, rfl, rfl⟩) r_zero (by simp; omega)
      rw [if_neg h3] at h
      by_cases h4 : c = 116
      · rw [if_pos h4] at h
        obtain ⟨a, ha, h⟩ := bind_ok h
        cases h
        have := word_len ha
        simp only [List.length_cons, List.length_nil] at this
        exact leaf 1 1 [] a (.inr (.inl ⟨rfl, .inr rfl, rfl⟩)) (by decide) (by simp; omega)
      rw [if_neg h4] at h
      by_cases h5 : c = 102
      · rw [if_pos h5] at h
        obtain ⟨a, ha, h⟩ := bind_ok h
        cases h
        have := word_len ha
        simp only [List.length_cons, List.length_nil] at this
        exact leaf 1 0 [] a (.inr (.inl ⟨rfl, .inl rfl, rfl⟩)) r_zero (by simp; omega)
      rw [if_neg h5] at h
      by_cases h6 : c = 34
      · rw [if_pos h6] at h
        obtain ⟨a, ha, h⟩ := bind_ok h
        cases h
        have := str_len ha
        simp only [List.length_cons] at this
        exact leaf 3 0 a.1 a.2 (.inr (.inr (.inr ⟨rfl, rfl⟩))) r_zero (by omega)
      rw [if_neg h6] at h
      have hsq : (spc q).length ≤ q.length := (spc_suffix q).length_le
      have rest : ∀ (kd : Int) (its : List D) (us : List (List UInt8)) (n2 : Nat) (q2 : List UInt8), kd ≠ 4 → (∀ d ∈ its, Gd k d) → nodeB (vD kd 0 [] its (keysD us)) = true → n2 = m + 1 + (its.map (sizeJ k)).sum → kwU us + (its.map (wtJ k)).sum + q2.length ≤ q.length → Vg (k + 1) m r (vD kd 0 [] its (keysD us), n2, q2) := fun kd its us n2 q2 h4 hi hb hn hl => by
        obtain ⟨g1, g2, g3⟩ := node_got (k := k) (kd := kd) (n := 0) (t := []) (its := its) (us := us) hi h4 r_zero hb
        refine ⟨g1, ?_, ?_⟩
        · show n2 = m + sizeJ (k + 1) (vD kd 0 [] its (keysD us))
          rw [g2]; omega
        · show wtJ (k + 1) (vD kd 0 [] its (keysD us)) + q2.length ≤ r.length
          rw [g3]
          show 1 + 0 + kwU us + (its.map (wtJ k)).sum + q2.length ≤ r.length
          omega
      by_cases h7 : c = 91
      · rw [if_pos h7] at h
        by_cases hh : (spc q).head? = some 93
        · rw [if_pos hh] at h
          cases h
          exact rest 5 [] [] (m + 1) _ (by decide) (fun d hd => by cases hd) (node_list []) rfl (by
            show 0 + 0 + (spc q).tail.length ≤ q.length
            rw [List.length_tail]; omega)
        · rw [if_neg hh] at h
          obtain ⟨a, ha, h⟩ := bind_ok h
          cases h
          obtain ⟨i1, i2, i3⟩ := items_got (value_got k) _ _ _ _ _ ha (fun d hd => by cases hd)
          simp only [List.map_nil, List.sum_nil] at i2 i3
          exact rest 5 a.1 [] a.2.1 _ (by decide) i1 (node_list a.1) (by omega) (by
            show 0 + _ + _ ≤ _
            omega)
      rw [if_neg h7] at h
      by_cases h8 : c = 123
      · rw [if_pos h8] at h
        by_cases hh : (spc q).head? = some 125
        · rw [if_pos hh] at h
          cases h
          exact rest 6 [] [] (m + 1) _ (by decide) (fun d hd => by cases hd) (node_obj [] [] List.nodup_nil rfl) rfl (by
            show 0 + 0 + (spc q).tail.length ≤ q.length
            rw [List.length_tail]; omega)
        · rw [if_neg hh] at h
          obtain ⟨a, ha, h⟩ := bind_ok h
          cases h
          obtain ⟨i1, i2, i3, i4, i5⟩ := fields_got (value_got k) _ _ _ _ _ _ ha (fun d hd => by cases hd) List.nodup_nil rfl
          simp only [List.map_nil, List.sum_nil, kwU] at i4 i5
          exact rest 6 a.2.1 a.1 a.2.2.1 _ (by decide) i1 (node_obj a.2.1 a.1 i2 i3) (by omega) (by unfold kwU; omega)
      rw [if_neg h8] at h
      obtain ⟨a, ha, h⟩ := bind_ok h
      cases h
      have hq := (numJ_suffix ha).2
      simp only [List.length_cons] at hq
      exact leaf 2 a.1 [] a.2 (.inr (.inr (.inl ⟨rfl, rfl⟩))) (num_in ha) (by simp; omega)
theorem parse_got {s : List UInt8} {d : D} (h : parseJ s = .ok d) : Gd 24 d ∧ sizeJ 24 d ≤ 4096 ∧ wtJ 24 d ≤ s.length := by
  unfold parseJ at h
  obtain ⟨a, ha, h⟩ := bind_ok h
  obtain ⟨g1, g2, g3⟩ := value_got 24 0 s a ha
  have g4 := (value_part 24 0 s a ha).2.2.2
  cases hs : spc a.2.2 with
  | nil => rw [hs] at h; cases h; exact ⟨g1, by omega, by omega⟩
  | cons c q => rw [hs] at h; cases h
theorem parse_again {s : List UInt8} {d : D} (h : parseJ s = .ok d) : parseJ (wrJ 24 d) = .ok d := by
  obtain ⟨g, g2, _⟩ := parse_got h
  have := parse_write g.every g.ints g2
  rw [g.strs] at this
  exact this
theorem every_ok : ∀ {k : Nat} {d : D}, everyB k d = true → okJ k d = true
  | 0, _, h => by cases h
  | k + 1, d, h => by
    unfold everyB at h
    rw [Bool.and_eq_true] at h
    have hn := nodeB_ok h.1
    unfold okJ
    rw [decide_eq_true (show 0 ≤ (d.f 0).n ∧ (d.f 0).n ≤ 6 ∧ ((d.f 0).n = 6 → (d.f 4).l.length = (d.f 3).l.length) from ⟨hn.kind.1, hn.kind.2, fun h6 => (hn.obj h6).1⟩), Bool.true_and, Bool.or_eq_true]
    right
    have h2 := h.2
    rw [List.all_eq_true] at h2 ⊢
    exact fun i hi => every_ok (h2 i hi)
def Er {α : Type} (n : Nat) : Except JE α → Prop
  | .ok _ => True
  | .error (l, e) => l ≤ n ∧ e ≠ 0
theorem Er.bind {α β : Type} {n : Nat} {x : Except JE α} {f : α → Except JE β} (h : Er n x) (hf : ∀ a, x = .ok a → Er n (f a)) : Er n (x.bind f) := by
  cases x with
  | error e => exact h
  | ok a => exact hf a rfl
theorem Er.mono {α : Type} {n n' : Nat} {x : Except JE α} (h : Er n x) (hn : n ≤ n') : Er n' x := by
  cases x with
  | error e => exact ⟨Nat.le_trans h.1 hn, h.2⟩
  | ok a => trivial
theorem er_take (p : UInt8 → Bool) (r : List UInt8) : Er r.length (takeJ p r) := by
  cases r with
  | nil => exact ⟨Nat.le_refl _, by decide⟩
  | cons c r =>
    by_cases h : p c = true
    · rw [takeJ, if_pos h]; trivial
    · rw [takeJ, if_neg h]; exact ⟨Nat.le_refl _, by decide⟩
theorem er_word : ∀ (w r : List UInt8), Er r.length (wordJ w r)
  | [], r => trivial
  | c :: w, r => (er_take _ r).bind fun a ha => (er_word w a).mono (Nat.le_of_lt (takeJ_suffix ha).2)
theorem er_esc (r : List UInt8) : Er r.length (escJ r) := by
  cases r with
  | nil => exact ⟨Nat.le_refl _, by decide⟩
  | cons d r =>
    show Er _ (if simJ d then .ok r else if d == 117 then _ else .error (r.length + 1, 3))
    by_cases h1 : simJ d = true
    · rw [if_pos h1]; trivial
    rw [if_neg h1]
    by_cases h2 : (d == 117) = true
    · rw [if_pos h2]
      refine Er.mono (n := r.length) ?_ (by simp)
      refine (er_take _ r).bind fun a ha => ?_
      have h1 := (takeJ_suffix ha).2
      refine Er.mono (n := a.length) ?_ (by omega)
      refine (er_take _ a).bind fun b hb => ?_
      have h2 := (takeJ_suffix hb).2
      refine Er.mono (n := b.length) ?_ (by omega)
      refine (er_take _ b).bind fun c hc => ?_
      have h3 := (takeJ_suffix hc).2
      exact (er_take _ c).mono (by omega)
    · rw [if_neg h2]; exact ⟨Nat.le_refl _, by decide⟩
theorem er_body : ∀ (n : Nat) (r : List UInt8), Er r.length (bodyJ n r)
  | 0, r => ⟨Nat.le_refl _, by decide⟩
  | n + 1, [] => ⟨Nat.le_refl _, by decide⟩
  | n + 1, c :: r => by
    unfold bodyJ
    split
    · exact ⟨Nat.le_refl _, by decide⟩
    split
    · trivial
    split
    · refine Er.mono (n := r.length) ((er_esc r).bind fun a ha => ?_) (by simp)
      exact (er_body n a).mono (Nat.le_of_lt (escJ_suffix ha).2)
    · exact (er_body n r).mono (by simp)
theorem er_str (r : List UInt8) : Er r.length (strJ r) := by
  unfold strJ
  refine (er_take _ r).bind fun a ha => ?_
  have h1 := (takeJ_suffix ha).2
  exact Er.mono (n := a.length) ((er_body _ a).bind fun b hb => trivial) (by omega)
theorem er_num (r : List UInt8) : Er r.length (numJ r) := by
  unfold numJ
  dsimp only
  refine Er.bind ((er_take _ _).mono (by split <;> simp)) fun a ha => ?_
  generalize (if (if r.head? = some 45 then r.tail else r).head? = some 48 then a else a.dropWhile digU) = q
  cases numOk (numU (readJ r q)) with
  | some n => trivial
  | none => exact ⟨Nat.le_refl _, by decide⟩
theorem er_items {f : Nat → List UInt8 → Except JE (D × Nat × List UInt8)} (hp : PartJ f) (hf : ∀ m r, Er r.length (f m r)) : ∀ (j m : Nat) (r : List UInt8) (l : List D), Er r.length (itemsJ f j m r l)
  | 0, m, r, l => ⟨Nat.le_refl _, by decide⟩
  | j + 1, m, r, l => by
    unfold itemsJ
    refine (hf m r).bind fun a ha => ?_
    have h1 := (hp m r a ha).2.1
    have h2 := (spc_suffix a.2.2).length_le
    cases hs : spc a.2.2 with
    | nil => exact ⟨Nat.zero_le _, by decide⟩
    | cons c q =>
      rw [hs] at h2
      simp only [List.length_cons] at h2
      dsimp only
      split
      · exact (er_items hp hf j a.2.1 q _).mono (by omega)
      split
      · trivial
      · exact ⟨by omega, by decide⟩
theorem er_fields {f : Nat → List UInt8 → Except JE (D × Nat × List UInt8)} (hp : PartJ f) (hf : ∀ m r, Er r.length (f m r)) : ∀ (j m : Nat) (r : List UInt8) (ks : List (List UInt8)) (l : List D), Er r.length (fieldsJ f j m r ks l)
  | 0, m, r, ks, l => ⟨Nat.le_refl _, by decide⟩
  | j + 1, m, r, ks, l => by
    unfold fieldsJ
    have h0 := (spc_suffix r).length_le
    refine Er.bind ((er_str (spc r)).mono h0) fun b hb => ?_
    have h1 := (strJ_suffix hb).2
    split
    · exact ⟨h0, by decide⟩
    have h2 := (spc_suffix b.2).length_le
    refine Er.bind ((er_take _ (spc b.2)).mono (by omega)) fun c hc => ?_
    have h3 := (takeJ_suffix hc).2
    refine Er.bind ((hf m c).mono (by omega)) fun a ha => ?_
    have h4 := (hp m c a ha).2.1
    have h5 := (spc_suffix a.2.2).length_le
    cases hs : spc a.2.2 with
    | nil => exact ⟨Nat.zero_le _, by decide⟩
    | cons c q =>
      rw [hs] at h5
      simp only [List.length_cons] at h5
      dsimp only
      split
      · exact (er_fields hp hf j a.2.1 q _ _).mono (by omega)
      split
      · trivial
      · exact ⟨by omega, by decide⟩
theorem er_value : ∀ (k m : Nat) (r : List UInt8), Er r.length (valueJ k m r)
  | 0, m, r => by
    unfold valueJ
    have h0 := (spc_suffix r).length_le
    cases hs : spc r with
    | nil => exact ⟨Nat.zero_le _, by decide⟩
    | cons c q =>
      rw [hs] at h0
      simp only [List.length_cons] at h0
      dsimp only
      split
      · exact ⟨h0, by decide⟩
      · exact ⟨h0, by decide⟩
  | k + 1, m, r => by
    unfold valueJ
    have h0 := (spc_suffix r).length_le
    cases hs : spc r with
    | nil => exact ⟨Nat.zero_le _, by decide⟩
    | cons c q =>
      rw [hs] at h0
      have h0' := h0
      simp only [List.length_cons] at h0
      dsimp only
      have hsq : (spc q).length ≤ q.length := (spc_suffix q).length_le
      split
      · exact ⟨h0, by decide⟩
      split
      · exact ⟨h0, by decide⟩
      split
      · exact Er.mono ((er_word _ _).bind fun a _ => trivial) h0'
      split
      · exact Er.mono ((er_word _ _).bind fun a _ => trivial) h0'
      split
      · exact Er.mono ((er_word _ _).bind fun a _ => trivial) h0'
      split
      · exact Er.mono ((er_str _).bind fun a _ => trivial) h0'
      split
      · split
        · trivial
        · exact Er.mono ((er_items (value_part k) (er_value k) _ _ _ _).bind fun a _ => trivial) (by omega)
      split
      · split
        · trivial
        · exact Er.mono ((er_fields (value_part k) (er_value k) _ _ _ _ _).bind fun a _ => trivial) (by omega)
      · exact Er.mono ((er_num _).bind fun a _ => trivial) h0'
theorem er_parse (s : List UInt8) : Er s.length (parseJ s) := by
  unfold parseJ
  refine (er_value 24 0 s).bind fun a ha => ?_
  have h1 := (value_part 24 0 s a ha).2.1
  have h5 := (spc_suffix a.2.2).length_le
  cases hs : spc a.2.2 with
  | nil => trivial
  | cons c q =>
    rw [hs] at h5
    simp only [List.length_cons] at h5
    exact ⟨by omega, by decide⟩
end Go.Proofs.YtjhjleanihgopaaDoor
namespace Go.Proofs.YtjhjleanihgopaaDoor
open Go.RowKit
attribute [local irreducible] wpList Calls Code.wp
section
variable {X : Cx} {nn : Nat} {st : Vst nn} {o : Oper} {ops : Array Oper} {l : List Oper} {dst : Option Tmp} {KK : Vst nn → Prop}
set_option maxRecDepth 100000 in
theorem s_max {k : IntKind} {a b : Int} {x y : Operand} {ts : Array TypeId} (hg : o.guard = none) (ho : o.op = .call { callee := .builtin .max, args := #[x, y], argTypes := ts }) (hd : o.dst = dst) (hx : ev st x = .c (.int k a)) (hy : ev st y = .c (.int k b)) (hK : AWo X ops l (st.put dst (.c (.int k (if a < b then b else a)))) KK) : AWo X ops (o :: l) st KK := by
  refine awo_cons hg ?_
  intro s w a' hI N Q hN
  have r1 := hI.ev x
  have r2 := hI.ev y
  rw [hx, rel] at r1
  rw [hy, rel] at r2
  have h1 : (execOp a'.eval o).run X.P w = .ok (.value (.int k (if a < b then b else a))) w := by
    simp [execOp, ho, resolve, invoke, builtin, Builtin.max_, Builtin.max2, r1.1, r2.1]
  unfold Oper.wp
  rw [h1, Oper.upon_value]
  refine hN _ _ _ _ (hI.put o.dst ?_) (by rw [hd]; exact hK)
  rw [rel]
  refine ⟨rfl, ?_⟩
  split
  · exact r2.2
  · exact r1.2
end
attribute [local irreducible] AW AWo OpOk seqK blockK scopeK loopK endK endKB AC ACB absLex absLexG Yld YldG Sub
/-- no deeper than k -/
def Dp : Nat → D → Prop
  | 0, _ => False
  | k + 1, d => ∀ i, i < (d.f 3).l.length → Dp k (gD (d.f 3).l i)
set_option maxRecDepth 100000 in
theorem every_dp : ∀ {k : Nat} {d : D}, everyB k d = true → Dp k d
  | 0, _, h => by cases h
  | k + 1, d, h => by
    unfold everyB at h
    rw [Bool.and_eq_true, List.all_eq_true] at h
    exact fun i hi => every_dp (h.2 i (List.mem_range.2 hi))
set_option maxRecDepth 100000 in
theorem sumN_le {g : Nat → Nat} : ∀ {i n : Nat}, i ≤ n → sumN g i ≤ sumN g n
  | i, 0, h => by rw [show i = 0 by omega]; exact Nat.le_refl _
  | i, n + 1, h => by
    by_cases e : i = n + 1
    · rw [e]; exact Nat.le_refl _
    · rw [sumN_succ]; exact Nat.le_trans (sumN_le (show i ≤ n by omega)) (Nat.le_add_right _ _)
set_option maxRecDepth 100000 in
theorem sumN_mono {g g' : Nat → Nat} : ∀ {n : Nat}, (∀ i, i < n → g i ≤ g' i) → sumN g n ≤ sumN g' n
  | 0, _ => Nat.le_refl _
  | n + 1, h => by
    have := sumN_mono (n := n) fun i hi => h i (by omega)
    have := h n (by omega)
    rw [sumN_succ, sumN_succ]; omega
def kwD (l : List D) : Nat := (l.map fun x => 1 + x.s.size).sum
set_option maxRecDepth 100000 in
theorem wt_eq (k : Nat) (d : D) : wtJ (k + 1) d = 1 + (d.f 2).s.size + kwD (d.f 4).l + sumN (fun i => wtJ k (gD (d.f 3).l i)) (d.f 3).l.length := by
  show 1 + (d.f 2).s.size + kwD (d.f 4).l + ((d.f 3).l.map fun x => wtJ k x).sum = _
  rw [sum_gD]
set_option maxRecDepth 100000 in
theorem wt_pos : ∀ {k : Nat} {d : D}, Dp k d → 1 ≤ wtJ k d
  | 0, _, h => h.elim
  | k + 1, d, h => by rw [wt_eq]; omega
set_option maxRecDepth 100000 in
theorem kw_len (l : List D) : l.length ≤ kwD l := by
  unfold kwD
  induction l with
  | nil => simp
  | cons x l ih => simp only [List.map_cons, List.sum_cons, List.length_cons]; omega
set_option maxRecDepth 100000 in
theorem sumN_pos {g : Nat → Nat} : ∀ {n : Nat}, (∀ i, i < n → 1 ≤ g i) → n ≤ sumN g n
  | 0, _ => Nat.zero_le _
  | n + 1, h => by
    have := sumN_pos (n := n) fun i hi => h i (by omega)
    have := h n (by omega)
    rw [sumN_succ]; omega
structure WtIn (k : Nat) (d : D) (B : Nat) : Prop where
  text : (d.f 2).s.size + 1 ≤ B
  keys : (d.f 4).l.length + 1 ≤ B
  items : (d.f 3).l.length + 1 ≤ B
  at_ : ∀ i, i < (d.f 3).l.length → wtJ k (gD (d.f 3).l i) ≤ B
  key : ∀ i, i < (d.f 4).l.length → (gD (d.f 4).l i).s.size ≤ B
set_option maxRecDepth 100000 in
theorem le_sumL {l : List Nat} {a : Nat} (h : a ∈ l) : a ≤ l.sum := by
  induction l with
  | nil => cases h
  | cons b l ih =>
    rw [List.sum_cons]
    rcases List.mem_cons.1 h with rfl | h
    · omega
    · have := ih h; omega
set_option maxRecDepth 100000 in
theorem kw_at {l : List D} {i : Nat} (h : i < l.length) : (gD l i).s.size ≤ kwD l := by
  unfold kwD
  have h1 : 1 + (gD l i).s.size ≤ (l.map fun x => 1 + x.s.size).sum := le_sumL (List.mem_map_of_mem (gD_mem h))
  omega
set_option maxRecDepth 100000 in
theorem wt_in {k : Nat} {d : D} (h : Dp (k + 1) d) {B : Nat} (hB : wtJ (k + 1) d ≤ B) : WtIn k d B := by
  rw [wt_eq] at hB
  have h1 := kw_len (d.f 4).l
  have h2 : (d.f 3).l.length ≤ sumN (fun i => wtJ k (gD (d.f 3).l i)) (d.f 3).l.length := sumN_pos fun i hi => wt_pos (h i hi)
  refine ⟨by omega, by omega, by omega, fun i hi => ?_, fun i hi => by have := kw_at hi; omega⟩
  have h3 := sumN_le (g := fun i => wtJ k (gD (d.f 3).l i)) (show i + 1 ≤ (d.f 3).l.length from hi)
  rw [sumN_succ] at h3
  omega
set_option maxRecDepth 100000 in
theorem size_wt : ∀ {k : Nat} {d : D}, Dp k d → sizeJ k d ≤ wtJ k d
  | 0, _, h => h.elim
  | k + 1, d, h => by
    rw [wt_eq]
    have := sumN_mono (g := fun i => sizeJ k (gD (d.f 3).l i)) (g' := fun i => wtJ k (gD (d.f 3).l i)) (n := (d.f 3).l.length) fun i hi => size_wt (h i hi)
    show 1 + sumN (fun i => sizeJ k (gD (d.f 3).l i)) (d.f 3).l.length ≤ _
    omega
noncomputable def HSz (l : List D) (n i : Nat) : Vst 19 := stS 19 [(3, .c (.int .i64 (n : Int))), (7, .sl 39 l), (8, .c (.int .i64 (l.length : Int))), (9, .c (.int .i64 (i : Int)))] []
set_option maxRecDepth 100000 in
theorem lt_b {i n : Nat} (h : decide ((i : Int) < (n : Int)) = true) : i < n := by simpa using h
set_option maxRecDepth 100000 in
theorem ge_b {i n : Nat} (h : decide ((i : Int) < (n : Int)) = false) : n ≤ i := by simpa using h
set_option maxRecDepth 100000 in
theorem ixn_ok {i n : Nat} (h : i < n) : 0 ≤ (i : Int) ∧ (i : Int) < (n : Int) := ⟨by omega, by omega⟩
set_option maxRecDepth 100000 in
theorem size_ac : ∀ (k : Nat) (d : D), Dp k d → wtJ k d ≤ 1000000000 → AC EN5 Tryd.prog 44 [.agg (cellsV Tryd.prog 12 39 d)] (.c (.int .i64 (sizeJ k d : Int)))
  | 0, _, h, _ => h.elim
  | k + 1, d, h, hw => by
    have hin := wt_in h hw
    have hl := hin.items
    have ih := fun i (hi : i < (d.f 3).l.length) => size_ac k (gD (d.f 3).l i) (h i hi) (hin.at_ i hi)
    have hsw := size_wt h
    have hs : sizeJ (k + 1) d = 1 + sumN (fun i => sizeJ k (gD (d.f 3).l i)) (d.f 3).l.length := rfl
    refine ac_enter 19 Tryd.func44 rfl rfl rfl rfl ?_
    intro s w he
    repeat' (first
    | refine aw_seq ?_
    | refine aw_region ?_
    | refine awo_nil ?_
    | refine k_seq ?_
    | refine k_block ?_
    | refine k_scope ?_
    | refine aw_block ?_
    | refine aw_skip ?_
    | refine aw_label ?_
    | refine aw_scope ?_
    | (apply s_val rfl
       · conv => lhs; whnf
       · conv => lhs; whnf; arg 2; whnf)
    | (apply s_call rfl
       · conv => lhs; whnf
       · conv => lhs; whnf
       · first | fail)
    | (apply s_box rfl rfl rfl rfl
       · conv => lhs; whnf; arg 1; whnf
       · rfl)
    | (apply s_alloc rfl rfl rfl rfl
       · conv => lhs; whnf; arg 1; whnf
       · rfl)
    | (apply s_store rfl rfl rfl
       · conv => lhs; whnf
       · conv => lhs; whnf; arg 1; whnf
       · conv => lhs; whnf; arg 1; whnf
       · exact ⟨by kernel_rfl, by kernel_rfl⟩
       · rfl)
    | (apply aw_cond_t
       · conv => lhs; whnf; arg 1; arg 1; whnf)
    | (apply aw_cond_f
       · conv => lhs; whnf; arg 1; arg 1; whnf)
    | (refine aw_cond (by conv => lhs; whnf) ?_ ?_ <;> intro hb)
    | refine aw_ret ?_
    | refine aw_exit ?_
    | refine k_seq_exit ?_
    | refine k_seq_ret ?_
    | refine k_block_ret ?_
    | refine k_block_hit rfl ?_
    | refine k_block_miss rfl ?_
    | refine k_scope_exit ?_
    | refine k_scope_ret ?_
    | refine k_loop_exit ?_
    | refine k_loop_ret ?_
    | refine k_end ?_
    | refine k_end_ret ?_
    | (refine ⟨_, by conv => lhs; whnf; arg 2; whnf, ?_⟩; conv => rhs; whnf)
    | exact trivial
    | intro hg)
    refine aw_loop (fun j st => ∃ i, i + j = (d.f 3).l.length ∧ Sub (cx EN5 Tryd.prog s w he) st (HSz (d.f 3).l (1 + sumN (fun i => sizeJ k (gD (d.f 3).l i)) i) i)) (d.f 3).l.length ⟨0, by omega, ?_⟩ ?_
    · exact Sub.live ⟨rfl, rfl, rfl, rfl, trivial⟩ trivial
    · rintro j st ⟨i, hij, hs2⟩
      refine aw_sub hs2 ?_
      clear hs2
      have ih2 := fun (h : decide ((i : Int) < ((d.f 3).l.length : Int)) = true) => ih i (lt_b h)
      have hle := fun (h : i < (d.f 3).l.length) => sumN_le (g := fun i => sizeJ k (gD (d.f 3).l i)) (show i + 1 ≤ (d.f 3).l.length from h)
      simp only [sumN_succ] at hle
      have hss := sumN_succ (fun i => sizeJ k (gD (d.f 3).l i)) i
      repeat' (first
    | refine aw_seq ?_
    | refine aw_region ?_
    | refine awo_nil ?_
    | refine k_seq ?_
    | refine k_block ?_
    | refine k_scope ?_
    | refine aw_block ?_
    | refine aw_skip ?_
    | refine aw_label ?_
    | refine aw_scope ?_
    | (apply s_val rfl
       · conv => lhs; whnf
       · conv => lhs; whnf; arg 2; whnf)
    | (apply s_call rfl
       · conv => lhs; whnf
       · conv => lhs; whnf
       · first | exact ih2 (by assumption))
    | (apply s_box rfl rfl rfl rfl
       · conv => lhs; whnf; arg 1; whnf
       · rfl)
    | (apply s_alloc rfl rfl rfl rfl
       · conv => lhs; whnf; arg 1; whnf
       · rfl)
    | (apply s_store rfl rfl rfl
       · conv => lhs; whnf
       · conv => lhs; whnf; arg 1; whnf
       · conv => lhs; whnf; arg 1; whnf
       · exact ⟨by kernel_rfl, by kernel_rfl⟩
       · rfl)
    | (apply aw_cond_t
       · conv => lhs; whnf; arg 1; arg 1; whnf)
    | (apply aw_cond_f
       · conv => lhs; whnf; arg 1; arg 1; whnf)
    | (refine aw_cond (by conv => lhs; whnf) ?_ ?_ <;> intro hb)
    | refine aw_ret ?_
    | refine aw_exit ?_
    | refine k_seq_exit ?_
    | refine k_seq_ret ?_
    | refine k_block_ret ?_
    | refine k_block_hit rfl ?_
    | refine k_block_miss rfl ?_
    | refine k_scope_exit ?_
    | refine k_scope_ret ?_
    | refine k_loop_exit ?_
    | refine k_loop_ret ?_
    | refine k_end ?_
    | refine k_end_ret ?_
    | (refine ⟨_, by conv => lhs; whnf; arg 2; whnf, ?_⟩; conv => rhs; whnf)
    | exact trivial
    | intro hg)
      all_goals
        first
          | (have g := lt_b (by assumption)
             have g1 := hle g
             first
               | (refine k_loop_next (j' := j - 1) (by omega) ⟨i + 1, by omega, Sub.live ⟨?_, rfl, rfl, rfl, trivial⟩ trivial⟩
                  refine congrArg (fun n => V.c (.int .i64 n)) (?_ : ((1 + sumN (fun i => sizeJ k (gD (d.f 3).l i)) i : Nat) : Int) + (sizeJ k (gD (d.f 3).l i) : Int) = ((1 + sumN (fun i => sizeJ k (gD (d.f 3).l i)) (i + 1) : Nat) : Int))
                  simp only [sumN_succ]
                  omega)
               | (refine i64_in2 ?_; omega)
               | (refine ixn_ok ?_; exact g))
          | (have g := ge_b (by assumption)
             rw [hs, show i = (d.f 3).l.length by omega])
noncomputable def HDp (l : List D) (n i : Nat) : Vst 20 := stS 20 [(3, .c (.int .i64 (n : Int))), (7, .sl 39 l), (8, .c (.int .i64 (l.length : Int))), (9, .c (.int .i64 (i : Int)))] []
set_option maxRecDepth 100000 in
theorem maxN_le {g : Nat → Nat} {B : Nat} : ∀ {n : Nat}, (∀ i, i < n → g i ≤ B) → maxN g n ≤ B
  | 0, _ => Nat.zero_le _
  | n + 1, h => by
    rw [maxN_succ]
    exact Nat.max_le.2 ⟨maxN_le fun i hi => h i (by omega), h n (by omega)⟩
set_option maxRecDepth 100000 in
theorem depth_wt : ∀ {k : Nat} {d : D}, Dp k d → depthJ k d ≤ wtJ k d
  | 0, _, h => h.elim
  | k + 1, d, h => by
    rw [wt_eq]
    have h1 : maxN (fun i => depthJ k (gD (d.f 3).l i)) (d.f 3).l.length ≤ sumN (fun i => wtJ k (gD (d.f 3).l i)) (d.f 3).l.length := maxN_le fun i hi => by
      have h2 := depth_wt (h i hi)
      have h3 := sumN_le (g := fun i => wtJ k (gD (d.f 3).l i)) (show i + 1 ≤ (d.f 3).l.length from hi)
      rw [sumN_succ] at h3
      exact Nat.le_trans h2 (Nat.le_trans (Nat.le_add_left _ _) h3)
    show maxN (fun i => depthJ k (gD (d.f 3).l i)) (d.f 3).l.length + 1 ≤ _
    omega
set_option maxRecDepth 100000 in
theorem max_i (a b : Nat) : (if (a : Int) < (b : Int) then (b : Int) else (a : Int)) = ((max a b : Nat) : Int) := by
  split <;> omega
set_option maxRecDepth 100000 in
theorem depth_ac : ∀ (k : Nat) (d : D), Dp k d → wtJ k d ≤ 1000000000 → AC EN5 Tryd.prog 45 [.agg (cellsV Tryd.prog 12 39 d)] (.c (.int .i64 (depthJ k d : Int)))
  | 0, _, h, _ => h.elim
  | k + 1, d, h, hw => by
    have hin := wt_in h hw
    have hl := hin.items
    have ih := fun i (hi : i < (d.f 3).l.length) => depth_ac k (gD (d.f 3).l i) (h i hi) (hin.at_ i hi)
    have hsw := depth_wt h
    have hs : depthJ (k + 1) d = maxN (fun i => depthJ k (gD (d.f 3).l i)) (d.f 3).l.length + 1 := rfl
    refine ac_enter 20 Tryd.func45 rfl rfl rfl rfl ?_
    intro s w he
    repeat' (first
    | refine aw_seq ?_
    | refine aw_region ?_
    | refine awo_nil ?_
    | refine k_seq ?_
    | refine k_block ?_
    | refine k_scope ?_
    | refine aw_block ?_
    | refine aw_skip ?_
    | refine aw_label ?_
    | refine aw_scope ?_
    | (apply s_val rfl
       · conv => lhs; whnf
       · conv => lhs; whnf; arg 2; whnf)
    | (apply s_call rfl
       · conv => lhs; whnf
       · conv => lhs; whnf
       · first | fail)
    | (apply s_box rfl rfl rfl rfl
       · conv => lhs; whnf; arg 1; whnf
       · rfl)
    | (apply s_alloc rfl rfl rfl rfl
       · conv => lhs; whnf; arg 1; whnf
       · rfl)
    | (apply s_store rfl rfl rfl
       · conv => lhs; whnf
       · conv => lhs; whnf; arg 1; whnf
       · conv => lhs; whnf; arg 1; whnf
       · exact ⟨by kernel_rfl, by kernel_rfl⟩
       · rfl)
    | (apply aw_cond_t
       · conv => lhs; whnf; arg 1; arg 1; whnf)
    | (apply aw_cond_f
       · conv => lhs; whnf; arg 1; arg 1; whnf)
    | (refine aw_cond (by conv => lhs; whnf) ?_ ?_ <;> intro hb)
    | refine aw_ret ?_
    | refine aw_exit ?_
    | refine k_seq_exit ?_
    | refine k_seq_ret ?_
    | refine k_block_ret ?_
    | refine k_block_hit rfl ?_
    | refine k_block_miss rfl ?_
    | refine k_scope_exit ?_
    | refine k_scope_ret ?_
    | refine k_loop_exit ?_
    | refine k_loop_ret ?_
    | refine k_end ?_
    | refine k_end_ret ?_
    | (refine ⟨_, by conv => lhs; whnf; arg 2; whnf, ?_⟩; conv => rhs; whnf)
    | exact trivial
    | intro hg)
    refine aw_loop (fun j st => ∃ i, i + j = (d.f 3).l.length ∧ Sub (cx EN5 Tryd.prog s w he) st (HDp (d.f 3).l (maxN (fun i => depthJ k (gD (d.f 3).l i)) i) i)) (d.f 3).l.length ⟨0, by omega, ?_⟩ ?_
    · exact Sub.live ⟨rfl, rfl, rfl, rfl, trivial⟩ trivial
    · rintro j st ⟨i, hij, hs2⟩
      refine aw_sub hs2 ?_
      clear hs2
      have ih2 := fun (h : decide ((i : Int) < ((d.f 3).l.length : Int)) = true) => ih i (lt_b h)
      repeat' (first
    | (apply s_max rfl rfl rfl
       · conv => lhs; whnf; arg 1; whnf
       · conv => lhs; whnf; arg 1; whnf)
    | refine aw_seq ?_
    | refine aw_region ?_
    | refine awo_nil ?_
    | refine k_seq ?_
    | refine k_block ?_
    | refine k_scope ?_
    | refine aw_block ?_
    | refine aw_skip ?_
    | refine aw_label ?_
    | refine aw_scope ?_
    | (apply s_val rfl
       · conv => lhs; whnf
       · conv => lhs; whnf; arg 2; whnf)
    | (apply s_call rfl
       · conv => lhs; whnf
       · conv => lhs; whnf
       · first | exact ih2 (by assumption))
    | (apply s_box rfl rfl rfl rfl
       · conv => lhs; whnf; arg 1; whnf
       · rfl)
    | (apply s_alloc rfl rfl rfl rfl
       · conv => lhs; whnf; arg 1; whnf
       · rfl)
    | (apply s_store rfl rfl rfl
       · conv => lhs; whnf
       · conv => lhs; whnf; arg 1; whnf
       · conv => lhs; whnf; arg 1; whnf
       · exact ⟨by kernel_rfl, by kernel_rfl⟩
       · rfl)
    | (apply aw_cond_t
       · conv => lhs; whnf; arg 1; arg 1; whnf)
    | (apply aw_cond_f
       · conv => lhs; whnf; arg 1; arg 1; whnf)
    | (refine aw_cond (by conv => lhs; whnf) ?_ ?_ <;> intro hb)
    | refine aw_ret ?_
    | refine aw_exit ?_
    | refine k_seq_exit ?_
    | refine k_seq_ret ?_
    | refine k_block_ret ?_
    | refine k_block_hit rfl ?_
    | refine k_block_miss rfl ?_
    | refine k_scope_exit ?_
    | refine k_scope_ret ?_
    | refine k_loop_exit ?_
    | refine k_loop_ret ?_
    | refine k_end ?_
    | refine k_end_ret ?_
    | (refine ⟨_, by conv => lhs; whnf; arg 2; whnf, ?_⟩; conv => rhs; whnf)
    | exact trivial
    | intro hg)
      all_goals
        first
          | (have g := lt_b (by assumption)
             first
               | (refine k_loop_next (j' := j - 1) (by omega) ⟨i + 1, by omega, Sub.live ⟨?_, rfl, rfl, rfl, trivial⟩ trivial⟩
                  refine congrArg (fun n => V.c (.int .i64 n)) (?_ : (if ((maxN (fun i => depthJ k (gD (d.f 3).l i)) i : Nat) : Int) < (depthJ k (gD (d.f 3).l i) : Int) then (depthJ k (gD (d.f 3).l i) : Int) else ((maxN (fun i => depthJ k (gD (d.f 3).l i)) i : Nat) : Int)) = ((maxN (fun i => depthJ k (gD (d.f 3).l i)) (i + 1) : Nat) : Int))
                  rw [max_i, maxN_succ])
               | (refine i64_in2 ?_; omega)
               | (refine ixn_ok ?_; exact g))
          | (have g := ge_b (by assumption)
             have e : i = (d.f 3).l.length := by omega
             subst e
             first
               | exact i64_in2 (by omega)
               | rfl)
def wKeys : List D → Nat → Nat
  | [], n => n
  | x :: l, n => if n ≤ 3000 then wKeys l (n + (1 + x.s.size)) else n
def wItems (g : D → Nat) : List D → Nat → Nat
  | [], n => n
  | x :: l, n => if n ≤ 3000 then wItems g l (n + g x) else n
def wF : Nat → D → Nat
  | 0, _ => 0
  | k + 1, d => wItems (wF k) (d.f 3).l (wKeys (d.f 4).l (1 + (d.f 2).s.size))
set_option maxRecDepth 100000 in
theorem wItems_ge (g : D → Nat) : ∀ (l : List D) (n : Nat), n ≤ wItems g l n
  | [], n => Nat.le_refl _
  | x :: l, n => by
    unfold wItems
    split
    · exact Nat.le_trans (Nat.le_add_right _ _) (wItems_ge g l _)
    · exact Nat.le_refl _
set_option maxRecDepth 100000 in
theorem wItems_le (g : D → Nat) : ∀ (l : List D) (n : Nat), wItems g l n ≤ n + (l.map g).sum
  | [], n => Nat.le_refl _
  | x :: l, n => by
    unfold wItems
    rw [List.map_cons, List.sum_cons]
    split
    · have := wItems_le g l (n + g x); omega
    · omega
set_option maxRecDepth 100000 in
theorem wItems_eq (g : D → Nat) : ∀ (l : List D) (n : Nat), wItems g l n ≤ 3000 → wItems g l n = n + (l.map g).sum
  | [], n, _ => rfl
  | x :: l, n, h => by
    have h0 := Nat.le_trans (wItems_ge g (x :: l) n) h
    unfold wItems at h ⊢
    rw [if_pos h0] at h ⊢
    rw [wItems_eq g l _ h, List.map_cons, List.sum_cons]
    omega
set_option maxRecDepth 100000 in
theorem wKeys_items : ∀ (l : List D) (n : Nat), wKeys l n = wItems (fun x => 1 + x.s.size) l n
  | [], n => rfl
  | x :: l, n => by
    unfold wKeys wItems
    rw [wKeys_items l]
set_option maxRecDepth 100000 in
theorem map_le {g g' : D → Nat} : ∀ {l : List D}, (∀ i, i < l.length → g (gD l i) ≤ g' (gD l i)) → (l.map g).sum ≤ (l.map g').sum := by
  intro l h
  rw [← sum_gD, ← sum_gD]
  exact sumN_mono h
set_option maxRecDepth 100000 in
theorem wF_le : ∀ {k : Nat} {d : D}, wF k d ≤ wtJ k d
  | 0, _ => Nat.le_refl _
  | k + 1, d => by
    have h1 := wItems_le (wF k) (d.f 3).l (wKeys (d.f 4).l (1 + (d.f 2).s.size))
    have h2 := wItems_le (fun x => 1 + x.s.size) (d.f 4).l (1 + (d.f 2).s.size)
    have h3 : ((d.f 3).l.map (wF k)).sum ≤ ((d.f 3).l.map fun x => wtJ k x).sum := map_le fun i _ => wF_le
    rw [← wKeys_items] at h2
    show wItems (wF k) (d.f 3).l (wKeys (d.f 4).l (1 + (d.f 2).s.size)) ≤ 1 + (d.f 2).s.size + ((d.f 4).l.map fun x => 1 + x.s.size).sum + ((d.f 3).l.map fun x => wtJ k x).sum
    omega
set_option maxRecDepth 100000 in
theorem map_sum_at {g : D → Nat} {l : List D} {x : D} (h : x ∈ l) : g x ≤ (l.map g).sum := by
  induction l with
  | nil => cases h
  | cons y l ih =>
    rw [List.map_cons, List.sum_cons]
    rcases List.mem_cons.1 h with rfl | h
    · omega
    · have := ih h; omega
set_option maxRecDepth 100000 in
theorem wF_eq : ∀ {k : Nat} {d : D}, wF k d ≤ 3000 → wF k d = wtJ k d
  | 0, _, _ => rfl
  | k + 1, d, h => by
    have h : wItems (wF k) (d.f 3).l (wKeys (d.f 4).l (1 + (d.f 2).s.size)) ≤ 3000 := h
    have h1 := wItems_eq (wF k) (d.f 3).l _ h
    have h0 := Nat.le_trans (wItems_ge _ _ _) h
    rw [wKeys_items] at h0
    have h2 := wItems_eq (fun x => 1 + x.s.size) (d.f 4).l (1 + (d.f 2).s.size) h0
    rw [← wKeys_items] at h2
    have h3 : (d.f 3).l.map (wF k) = (d.f 3).l.map fun x => wtJ k x := List.map_congr_left fun x hx => wF_eq (by
      have := map_sum_at (g := wF k) hx
      omega)
    show wItems (wF k) (d.f 3).l (wKeys (d.f 4).l (1 + (d.f 2).s.size)) = 1 + (d.f 2).s.size + ((d.f 4).l.map fun x => 1 + x.s.size).sum + ((d.f 3).l.map fun x => wtJ k x).sum
    rw [h1, h2, h3]
set_option maxRecDepth 100000 in
theorem wF_small {k : Nat} {d : D} : wF k d ≤ 3000 ↔ wtJ k d ≤ 3000 := ⟨fun h => by rw [← wF_eq h]; exact h, fun h => Nat.le_trans wF_le h⟩
set_option maxRecDepth 100000 in
theorem gl_t {i n : Nat} (h : (decide ((i : Int) < (n : Int)) == true) = true) : i < n := by simpa using h
set_option maxRecDepth 100000 in
theorem gl_f {i n : Nat} (h : (decide ((i : Int) < (n : Int)) == true) = false) : n ≤ i := by simpa using h
set_option maxRecDepth 100000 in
theorem drop_gD {l : List D} {i : Nat} (h : i < l.length) : l.drop i = gD l i :: l.drop (i + 1) := by
  rw [List.drop_eq_getElem_cons h, gD_get h]
noncomputable def HWk (d : D) (n i : Nat) : Vst 55 := stS 55 [(1, .c (.int .i64 3000)), (2, .bx 2 0), (5, .c (.int .i64 (n : Int))), (6, .c (.int .i64 (i : Int)))] [(2, .box 39 (cellsV Tryd.prog 12 39 d))]
noncomputable def HWi (d : D) (n i : Nat) : Vst 55 := stS 55 [(1, .c (.int .i64 3000)), (2, .bx 2 0), (5, .c (.int .i64 (n : Int))), (7, .c (.int .i64 (i : Int)))] [(2, .box 39 (cellsV Tryd.prog 12 39 d))]
set_option maxRecDepth 100000 in
theorem weight_ac : ∀ (k : Nat) (d : D), Dp k d → wtJ k d ≤ 1000000000 → AC EN5 Tryd.prog 33 [.agg (cellsV Tryd.prog 12 39 d), .c (.int .i64 3000)] (.c (.int .i64 (wF k d : Int)))
  | 0, _, h, _ => h.elim
  | k + 1, d, h, hw => by
    have hin := wt_in h hw
    have hl := hin.items
    have hk := hin.keys
    have ht := hin.text
    have ih := fun i (hi : i < (d.f 3).l.length) => weight_ac k (gD (d.f 3).l i) (h i hi) (hin.at_ i hi)
    have hs : wF (k + 1) d = wItems (wF k) (d.f 3).l (wKeys (d.f 4).l (1 + (d.f 2).s.size)) := rfl
    have htot : 1 + (d.f 2).s.size + ((d.f 4).l.map fun x => 1 + x.s.size).sum + ((d.f 3).l.map fun x => wtJ k x).sum ≤ 1000000000 := hw
    refine ac_enter 55 Tryd.func33 rfl rfl rfl rfl ?_
    intro s w he
    have c0 : 1 + (d.f 2).s.size ≤ wKeys (d.f 4).l (1 + (d.f 2).s.size) := by rw [wKeys_items]; exact wItems_ge _ _ _
    have c1 : wKeys (d.f 4).l (1 + (d.f 2).s.size) ≤ 1 + (d.f 2).s.size + ((d.f 4).l.map fun x => 1 + x.s.size).sum := by rw [wKeys_items]; exact wItems_le _ _ _
    repeat' (first
    | apply aw_cutAt 6 (stS 55 [(1, .c (.int .i64 3000)), (2, .bx 2 0), (5, .c (.int .i64 (wKeys (d.f 4).l (1 + (d.f 2).s.size) : Int)))] [(2, .box 39 (cellsV Tryd.prog 12 39 d))]) rfl
    | refine k_cut_ret ?_
    | refine k_cut_exit ?_
    | refine k_cut ?_
    | refine aw_seq ?_
    | refine aw_region ?_
    | refine awo_nil ?_
    | refine k_seq ?_
    | refine k_block ?_
    | refine k_scope ?_
    | refine aw_block ?_
    | refine aw_skip ?_
    | refine aw_label ?_
    | refine aw_scope ?_
    | (apply s_pick_t rfl rfl
       · conv => lhs; whnf
       · conv => lhs; whnf
       · first | exact bT1 (by assumption) | exact bT2 (by assumption))
    | (apply s_pick_f rfl rfl
       · conv => lhs; whnf
       · conv => lhs; whnf
       · first | exact bF1 (by assumption) | exact bF2 (by assumption))
    | (apply s_val rfl
       · conv => lhs; whnf
       · conv => lhs; whnf; arg 2; whnf)
    | (apply s_call rfl
       · conv => lhs; whnf
       · conv => lhs; whnf
       · first | fail)
    | (apply s_box rfl rfl rfl rfl
       · conv => lhs; whnf; arg 1; whnf
       · rfl)
    | (apply s_wanted_val rfl
       · conv => lhs; whnf
       · conv => lhs; whnf
       · first | rfl | assumption
       · conv => lhs; whnf; arg 2; whnf)
    | (apply s_wanted_call rfl
       · conv => lhs; whnf
       · conv => lhs; whnf
       · first | rfl | assumption
       · conv => lhs; whnf
       · first | fail)
    | (apply s_skip rfl
       · conv => lhs; whnf
       · conv => lhs; whnf
       · first | rfl | assumption)
    | (apply s_guard_val rfl
       · conv => lhs; whnf
       · conv => lhs; whnf
       · conv => lhs; whnf; arg 2; whnf)
    | (apply s_guard_call rfl
       · conv => lhs; whnf
       · conv => lhs; whnf
       · conv => lhs; whnf
       · first | fail)
    | (apply aw_cond_t
       · conv => lhs; whnf; arg 1; arg 1; whnf)
    | (apply aw_cond_f
       · conv => lhs; whnf; arg 1; arg 1; whnf)
    | (refine aw_cond (by conv => lhs; whnf) ?_ ?_ <;> intro hb)
    | refine aw_ret ?_
    | refine aw_exit ?_
    | refine k_seq_exit ?_
    | refine k_seq_ret ?_
    | refine k_block_ret ?_
    | refine k_block_hit rfl ?_
    | refine k_block_miss rfl ?_
    | refine k_scope_exit ?_
    | refine k_scope_ret ?_
    | refine k_loop_exit ?_
    | refine k_loop_ret ?_
    | refine k_end ?_
    | refine k_end_ret ?_
    | (refine ⟨_, by conv => lhs; whnf; arg 2; whnf, ?_⟩; conv => rhs; whnf)
    | exact trivial
    | intro hg)
    · refine aw_loop (fun j st => ∃ i n, i + j = (d.f 4).l.length ∧ wKeys ((d.f 4).l.drop i) n = wKeys (d.f 4).l (1 + (d.f 2).s.size) ∧ n + (((d.f 4).l.drop i).map fun x => 1 + x.s.size).sum ≤ 1 + (d.f 2).s.size + ((d.f 4).l.map fun x => 1 + x.s.size).sum ∧ Sub (cx EN5 Tryd.prog s w he) st (HWk d n i)) (d.f 4).l.length ⟨0, 1 + (d.f 2).s.size, by omega, rfl, Nat.le_refl _, ?_⟩ ?_
      · exact Sub.live ⟨rfl, rfl, rfl, rfl, trivial⟩ ⟨rfl, trivial⟩
      · rintro j st ⟨i, n, hij, hn, hbd, hs2⟩
        refine aw_sub hs2 ?_
        clear hs2
        have hdr := fun (h : i < (d.f 4).l.length) => drop_gD h
        have hdz := fun (h : (d.f 4).l.length ≤ i) => List.drop_eq_nil_of_le h
        repeat' (first
    | refine k_cut_ret ?_
    | refine k_cut_exit ?_
    | refine k_cut ?_
    | refine aw_seq ?_
    | refine aw_region ?_
    | refine awo_nil ?_
    | refine k_seq ?_
    | refine k_block ?_
    | refine k_scope ?_
    | refine aw_block ?_
    | refine aw_skip ?_
    | refine aw_label ?_
    | refine aw_scope ?_
    | (apply s_pick_t rfl rfl
       · conv => lhs; whnf
       · conv => lhs; whnf
       · first | exact bT1 (by assumption) | exact bT2 (by assumption))
    | (apply s_pick_f rfl rfl
       · conv => lhs; whnf
       · conv => lhs; whnf
       · first | exact bF1 (by assumption) | exact bF2 (by assumption))
    | (apply s_val rfl
       · conv => lhs; whnf
       · conv => lhs; whnf; arg 2; whnf)
    | (apply s_call rfl
       · conv => lhs; whnf
       · conv => lhs; whnf
       · first | fail)
    | (apply s_box rfl rfl rfl rfl
       · conv => lhs; whnf; arg 1; whnf
       · rfl)
    | (apply s_wanted_val rfl
       · conv => lhs; whnf
       · conv => lhs; whnf
       · first | rfl | assumption
       · conv => lhs; whnf; arg 2; whnf)
    | (apply s_wanted_call rfl
       · conv => lhs; whnf
       · conv => lhs; whnf
       · first | rfl | assumption
       · conv => lhs; whnf
       · first | fail)
    | (apply s_skip rfl
       · conv => lhs; whnf
       · conv => lhs; whnf
       · first | rfl | assumption)
    | (apply s_guard_val rfl
       · conv => lhs; whnf
       · conv => lhs; whnf
       · conv => lhs; whnf; arg 2; whnf)
    | (apply s_guard_call rfl
       · conv => lhs; whnf
       · conv => lhs; whnf
       · conv => lhs; whnf
       · first | fail)
    | (apply aw_cond_t
       · conv => lhs; whnf; arg 1; arg 1; whnf)
    | (apply aw_cond_f
       · conv => lhs; whnf; arg 1; arg 1; whnf)
    | (refine aw_cond (by conv => lhs; whnf) ?_ ?_ <;> intro hb)
    | refine aw_ret ?_
    | refine aw_exit ?_
    | refine k_seq_exit ?_
    | refine k_seq_ret ?_
    | refine k_block_ret ?_
    | refine k_block_hit rfl ?_
    | refine k_block_miss rfl ?_
    | refine k_scope_exit ?_
    | refine k_scope_ret ?_
    | refine k_loop_exit ?_
    | refine k_loop_ret ?_
    | refine k_end ?_
    | refine k_end_ret ?_
    | (refine ⟨_, by conv => lhs; whnf; arg 2; whnf, ?_⟩; conv => rhs; whnf)
    | exact trivial
    | intro hg)
        all_goals try (exact (show Tryd.prog.underlying 9 = some TypeDesc.string by kernel_rfl))
        all_goals
          first
            | (have g : i < (d.f 4).l.length := gl_t (by assumption)
               rw [hdr g] at hn hbd
               simp only [List.map_cons, List.sum_cons] at hbd
               first
                 | (have g2 : decide ((n : Int) ≤ 3000) = true := by assumption
                    have g2 : n ≤ 3000 := by have := of_decide_eq_true g2; omega
                    rw [wKeys, if_pos g2] at hn
                    first
                      | (refine k_loop_next (j' := j - 1) (by omega) ⟨i + 1, n + (1 + (gD (d.f 4).l i).s.size), by omega, hn, by omega, Sub.live ⟨rfl, rfl, ?_, rfl, trivial⟩ ⟨rfl, trivial⟩⟩
                         show V.c (.int .i64 ((n : Int) + 1 + ((gD (d.f 4).l i).s.size : Int))) = V.c (.int .i64 ((n + (1 + (gD (d.f 4).l i).s.size) : Nat) : Int))
                         congr 2
                         omega)
                      | (refine i64_in2 ?_
                         show _ ≤ (n : Int) + 1 + ((gD (d.f 4).l i).s.size : Int) ∧ (n : Int) + 1 + ((gD (d.f 4).l i).s.size : Int) ≤ _
                         omega)
                      | exact i64_in2 (by omega)
                      | (refine ixn_ok ?_; exact g))
                 | (have g2 : decide ((n : Int) ≤ 3000) = false := by assumption
                    have g2 : ¬ n ≤ 3000 := fun h => by have := of_decide_eq_false g2; omega
                    rw [wKeys, if_neg g2] at hn
                    subst hn
                    exact Sub.live ⟨rfl, rfl, rfl, trivial⟩ ⟨rfl, trivial⟩))
            | (have g : (d.f 4).l.length ≤ i := gl_f (by assumption)
               rw [hdz g] at hn
               have hn : n = wKeys (d.f 4).l (1 + (d.f 2).s.size) := hn
               subst hn
               exact Sub.live ⟨rfl, rfl, rfl, trivial⟩ ⟨rfl, trivial⟩)
    · refine aw_loop (fun j st => ∃ i n, i + j = (d.f 3).l.length ∧ wItems (wF k) ((d.f 3).l.drop i) n = wF (k + 1) d ∧ n + (((d.f 3).l.drop i).map fun x => wtJ k x).sum ≤ 1000000000 ∧ Sub (cx EN5 Tryd.prog s w he) st (HWi d n i)) (d.f 3).l.length ⟨0, wKeys (d.f 4).l (1 + (d.f 2).s.size), by omega, rfl, by rw [List.drop_zero]; omega, ?_⟩ ?_
      · exact Sub.live ⟨rfl, rfl, rfl, rfl, trivial⟩ ⟨rfl, trivial⟩
      · rintro j st ⟨i, n, hij, hn, hbd, hs2⟩
        refine aw_sub hs2 ?_
        clear hs2
        have hdr := fun (h : i < (d.f 3).l.length) => drop_gD h
        have hdz := fun (h : (d.f 3).l.length ≤ i) => List.drop_eq_nil_of_le h
        have ih2 := fun (h : (decide ((i : Int) < ((d.f 3).l.length : Int)) == true) = true) => ih i (gl_t h)
        repeat' (first
    | refine aw_seq ?_
    | refine aw_region ?_
    | refine awo_nil ?_
    | refine k_seq ?_
    | refine k_block ?_
    | refine k_scope ?_
    | refine aw_block ?_
    | refine aw_skip ?_
    | refine aw_label ?_
    | refine aw_scope ?_
    | (apply s_pick_t rfl rfl
       · conv => lhs; whnf
       · conv => lhs; whnf
       · first | exact bT1 (by assumption) | exact bT2 (by assumption))
    | (apply s_pick_f rfl rfl
       · conv => lhs; whnf
       · conv => lhs; whnf
       · first | exact bF1 (by assumption) | exact bF2 (by assumption))
    | (apply s_val rfl
       · conv => lhs; whnf
       · conv => lhs; whnf; arg 2; whnf)
    | (apply s_call rfl
       · conv => lhs; whnf
       · conv => lhs; whnf
       · first | exact ih2 (by assumption))
    | (apply s_box rfl rfl rfl rfl
       · conv => lhs; whnf; arg 1; whnf
       · rfl)
    | (apply s_wanted_val rfl
       · conv => lhs; whnf
       · conv => lhs; whnf
       · first | rfl | assumption
       · conv => lhs; whnf; arg 2; whnf)
    | (apply s_wanted_call rfl
       · conv => lhs; whnf
       · conv => lhs; whnf
       · first | rfl | assumption
       · conv => lhs; whnf
       · first | exact ih2 (by assumption))
    | (apply s_skip rfl
       · conv => lhs; whnf
       · conv => lhs; whnf
       · first | rfl | assumption)
    | (apply s_guard_val rfl
       · conv => lhs; whnf
       · conv => lhs; whnf
       · conv => lhs; whnf; arg 2; whnf)
    | (apply s_guard_call rfl
       · conv => lhs; whnf
       · conv => lhs; whnf
       · conv => lhs; whnf
       · first | exact ih2 (by assumption))
    | (apply aw_cond_t
       · conv => lhs; whnf; arg 1; arg 1; whnf)
    | (apply aw_cond_f
       · conv => lhs; whnf; arg 1; arg 1; whnf)
    | (refine aw_cond (by conv => lhs; whnf) ?_ ?_ <;> intro hb)
    | refine aw_ret ?_
    | refine aw_exit ?_
    | refine k_seq_exit ?_
    | refine k_seq_ret ?_
    | refine k_block_ret ?_
    | refine k_block_hit rfl ?_
    | refine k_block_miss rfl ?_
    | refine k_scope_exit ?_
    | refine k_scope_ret ?_
    | refine k_loop_exit ?_
    | refine k_loop_ret ?_
    | refine k_end ?_
    | refine k_end_ret ?_
    | (refine ⟨_, by conv => lhs; whnf; arg 2; whnf, ?_⟩; conv => rhs; whnf)
    | exact trivial
    | intro hg)
        all_goals
          first
            | (have g : i < (d.f 3).l.length := gl_t (by assumption)
               rw [hdr g] at hn hbd
               simp only [List.map_cons, List.sum_cons] at hbd
               have hle := wF_le (k := k) (d := gD (d.f 3).l i)
               first
                 | (have g2 : decide ((n : Int) ≤ 3000) = true := by assumption
                    have g2 : n ≤ 3000 := by have := of_decide_eq_true g2; omega
                    rw [wItems, if_pos g2] at hn
                    first
                      | exact k_loop_next (j' := j - 1) (by omega) ⟨i + 1, n + wF k (gD (d.f 3).l i), by omega, hn, by omega, Sub.live ⟨rfl, rfl, rfl, rfl, trivial⟩ ⟨rfl, trivial⟩⟩
                      | exact i64_in2 (by omega)
                      | exact ixn_ok g)
                 | (have g2 : decide ((n : Int) ≤ 3000) = false := by assumption
                    have g2 : ¬ n ≤ 3000 := fun h => by have := of_decide_eq_false g2; omega
                    rw [wItems, if_neg g2] at hn
                    rw [hn]))
            | (have g : (d.f 3).l.length ≤ i := gl_f (by assumption)
               rw [hdz g] at hn
               have hn : n = wF (k + 1) d := hn
               rw [hn])
    · refine i64_in2 ?_
      show _ ≤ 1 + ((d.f 2).s.size : Int) ∧ 1 + ((d.f 2).s.size : Int) ≤ _
      omega
    · exact (show Tryd.prog.underlying 9 = some TypeDesc.string by kernel_rfl)
set_option maxRecDepth 100000 in
theorem large3_ac (k : Nat) (d : D) (h : Dp k d) (hw : wtJ k d ≤ 1000000000) : AC EN5 Tryd.prog 16 [.agg (cellsV Tryd.prog 12 39 d)] (.c (.bool (decide (3000 < wtJ k d)))) := by
  have ih := weight_ac k d h hw
  refine ac_enter 6 Tryd.func16 rfl rfl rfl rfl ?_
  intro s w he
  repeat' (first
    | refine aw_seq ?_
    | refine aw_region ?_
    | refine awo_nil ?_
    | refine k_seq ?_
    | refine k_block ?_
    | refine k_scope ?_
    | refine aw_block ?_
    | refine aw_skip ?_
    | refine aw_label ?_
    | refine aw_scope ?_
    | (apply s_val rfl
       · conv => lhs; whnf
       · conv => lhs; whnf; arg 2; whnf)
    | (apply s_call rfl
       · conv => lhs; whnf
       · conv => lhs; whnf
       · first | exact ih)
    | (apply s_box rfl rfl rfl rfl
       · conv => lhs; whnf; arg 1; whnf
       · rfl)
    | (apply aw_cond_t
       · conv => lhs; whnf; arg 1; arg 1; whnf)
    | (apply aw_cond_f
       · conv => lhs; whnf; arg 1; arg 1; whnf)
    | (refine aw_cond (by conv => lhs; whnf) ?_ ?_ <;> intro hb)
    | refine aw_ret ?_
    | refine aw_exit ?_
    | refine k_seq_exit ?_
    | refine k_seq_ret ?_
    | refine k_block_ret ?_
    | refine k_block_hit rfl ?_
    | refine k_block_miss rfl ?_
    | refine k_scope_exit ?_
    | refine k_scope_ret ?_
    | refine k_loop_exit ?_
    | refine k_loop_ret ?_
    | refine k_end ?_
    | refine k_end_ret ?_
    | (refine ⟨_, by conv => lhs; whnf; arg 2; whnf, ?_⟩; conv => rhs; whnf)
    | exact trivial
    | intro hg)
  refine congrArg (fun b => V.c (.bool b)) ?_
  have hsm := wF_small (k := k) (d := d)
  by_cases h3 : wtJ k d ≤ 3000
  · rw [decide_eq_false (by omega), decide_eq_false (by have := hsm.2 h3; omega)]
  · rw [decide_eq_true (by omega), decide_eq_true (by have : ¬ wF k d ≤ 3000 := fun h => h3 (hsm.1 h); omega)]
noncomputable def HEk (d : D) (i : Nat) : Vst 81 := stS 81 [(2, .bx 2 0), (3, .bx 3 0), (5, .c (.int .i64 (i : Int)))] [(2, .box 39 (cellsV Tryd.prog 12 39 d)), (3, .box 39 (cellsV Tryd.prog 12 39 d))]
noncomputable def HEi (d : D) (i : Nat) : Vst 81 := stS 81 [(2, .bx 2 0), (3, .bx 3 0), (6, .c (.int .i64 (i : Int)))] [(2, .box 39 (cellsV Tryd.prog 12 39 d)), (3, .box 39 (cellsV Tryd.prog 12 39 d))]
set_option maxRecDepth 100000 in
theorem equal_ac : ∀ (k : Nat) (d : D), Dp k d → wtJ k d ≤ 1000000000 → AC EN5 Tryd.prog 22 [.agg (cellsV Tryd.prog 12 39 d), .agg (cellsV Tryd.prog 12 39 d)] (.c (.bool true))
  | 0, _, h, _ => h.elim
  | k + 1, d, h, hw => by
    have hin := wt_in h hw
    have hl := hin.items
    have hk := hin.keys
    have ih := fun i (hi : i < (d.f 3).l.length) => equal_ac k (gD (d.f 3).l i) (h i hi) (hin.at_ i hi)
    refine ac_enter 81 Tryd.func22 rfl rfl rfl rfl ?_
    intro s w he
    repeat' (first
    | apply aw_cutAt 8 (stS 81 [(2, .bx 2 0), (3, .bx 3 0)] [(2, .box 39 (cellsV Tryd.prog 12 39 d)), (3, .box 39 (cellsV Tryd.prog 12 39 d))]) rfl
    | refine k_cut_ret ?_
    | refine k_cut_exit ?_
    | refine k_cut ?_
    | refine aw_seq ?_
    | refine aw_region ?_
    | refine awo_nil ?_
    | refine k_seq ?_
    | refine k_block ?_
    | refine k_scope ?_
    | refine aw_block ?_
    | refine aw_skip ?_
    | refine aw_label ?_
    | refine aw_scope ?_
    | (apply s_pick_t rfl rfl
       · conv => lhs; whnf
       · conv => lhs; whnf
       · first | exact bT1 (by assumption) | exact bT2 (by assumption))
    | (apply s_pick_f rfl rfl
       · conv => lhs; whnf
       · conv => lhs; whnf
       · first | exact bF1 (by assumption) | exact bF2 (by assumption))
    | (apply s_val rfl
       · conv => lhs; whnf
       · conv => lhs; whnf; arg 2; whnf)
    | (apply s_call rfl
       · conv => lhs; whnf
       · conv => lhs; whnf
       · first | fail)
    | (apply s_box rfl rfl rfl rfl
       · conv => lhs; whnf; arg 1; whnf
       · rfl)
    | (apply s_wanted_val rfl
       · conv => lhs; whnf
       · conv => lhs; whnf
       · first | rfl | assumption
       · conv => lhs; whnf; arg 2; whnf)
    | (apply s_wanted_call rfl
       · conv => lhs; whnf
       · conv => lhs; whnf
       · first | rfl | assumption
       · conv => lhs; whnf
       · first | fail)
    | (apply s_skip rfl
       · conv => lhs; whnf
       · conv => lhs; whnf
       · first | rfl | assumption)
    | (apply s_guard_val rfl
       · conv => lhs; whnf
       · conv => lhs; whnf
       · conv => lhs; whnf; arg 2; whnf)
    | (apply s_guard_call rfl
       · conv => lhs; whnf
       · conv => lhs; whnf
       · conv => lhs; whnf
       · first | fail)
    | (apply aw_draw (by kernel_rfl) (by kernel_rfl))
    | apply y_nil
    | (apply y_pick_t rfl rfl
       · conv => lhs; whnf
       · conv => lhs; whnf
       · first | exact bT1 (by assumption) | exact bT2 (by assumption))
    | (apply y_pick_f rfl rfl
       · conv => lhs; whnf
       · conv => lhs; whnf
       · first | exact bF1 (by assumption) | exact bF2 (by assumption))
    | (apply y_val rfl
       · conv => lhs; whnf
       · conv => lhs; whnf; arg 2; whnf)
    | (apply y_call rfl
       · conv => lhs; whnf
       · conv => lhs; whnf
       · first | fail)
    | (apply y_wanted_val rfl
       · conv => lhs; whnf
       · conv => lhs; whnf
       · first | rfl | assumption
       · conv => lhs; whnf; arg 2; whnf)
    | (apply y_wanted_call rfl
       · conv => lhs; whnf
       · conv => lhs; whnf
       · first | rfl | assumption
       · conv => lhs; whnf
       · first | fail)
    | (apply y_skip rfl
       · conv => lhs; whnf
       · conv => lhs; whnf
       · first | rfl | assumption)
    | (apply y_guard_val rfl
       · conv => lhs; whnf
       · conv => lhs; whnf
       · conv => lhs; whnf; arg 2; whnf)
    | (apply y_guard_call rfl
       · conv => lhs; whnf
       · conv => lhs; whnf
       · conv => lhs; whnf
       · first | fail)
    | exact apartB_none
    | exact apartB_nil
    | exact all_nil
    | (show List.all _ _ = true; rfl)
    | (show apartB _ _ = true; rfl)
    | exact ([] : List Nat)
    | exact (1000000 : Nat)
    | (apply aw_cond_t
       · conv => lhs; whnf; arg 1; arg 1; whnf)
    | (apply aw_cond_f
       · conv => lhs; whnf; arg 1; arg 1; whnf)
    | (refine aw_cond (by conv => lhs; whnf) ?_ ?_ <;> intro hb)
    | refine aw_ret ?_
    | refine aw_exit ?_
    | refine k_seq_exit ?_
    | refine k_seq_ret ?_
    | refine k_block_ret ?_
    | refine k_block_hit rfl ?_
    | refine k_block_miss rfl ?_
    | refine k_scope_exit ?_
    | refine k_scope_ret ?_
    | refine k_loop_exit ?_
    | refine k_loop_ret ?_
    | refine k_end ?_
    | refine k_end_ret ?_
    | (refine ⟨_, by conv => lhs; whnf; arg 2; whnf, ?_⟩; conv => rhs; whnf)
    | exact trivial
    | intro hg)
    rotate_left 1
    · refine aw_loop (fun j st => ∃ i, i + j = (d.f 4).l.length ∧ Sub (cx EN5 Tryd.prog s w he) st (HEk d i)) (d.f 4).l.length ⟨0, by omega, ?_⟩ ?_
      · exact Sub.live ⟨rfl, rfl, rfl, trivial⟩ ⟨rfl, rfl, trivial⟩
      · rintro j st ⟨i, hij, hs2⟩
        refine aw_sub hs2 ?_
        clear hs2
        repeat' (first
    | refine k_cut_ret ?_
    | refine k_cut_exit ?_
    | refine k_cut ?_
    | refine aw_seq ?_
    | refine aw_region ?_
    | refine awo_nil ?_
    | refine k_seq ?_
    | refine k_block ?_
    | refine k_scope ?_
    | refine aw_block ?_
    | refine aw_skip ?_
    | refine aw_label ?_
    | refine aw_scope ?_
    | (apply s_pick_t rfl rfl
       · conv => lhs; whnf
       · conv => lhs; whnf
       · first | exact bT1 (by assumption) | exact bT2 (by assumption))
    | (apply s_pick_f rfl rfl
       · conv => lhs; whnf
       · conv => lhs; whnf
       · first | exact bF1 (by assumption) | exact bF2 (by assumption))
    | (apply s_val rfl
       · conv => lhs; whnf
       · conv => lhs; whnf; arg 2; whnf)
    | (apply s_call rfl
       · conv => lhs; whnf
       · conv => lhs; whnf
       · first | fail)
    | (apply s_box rfl rfl rfl rfl
       · conv => lhs; whnf; arg 1; whnf
       · rfl)
    | (apply s_wanted_val rfl
       · conv => lhs; whnf
       · conv => lhs; whnf
       · first | rfl | assumption
       · conv => lhs; whnf; arg 2; whnf)
    | (apply s_wanted_call rfl
       · conv => lhs; whnf
       · conv => lhs; whnf
       · first | rfl | assumption
       · conv => lhs; whnf
       · first | fail)
    | (apply s_skip rfl
       · conv => lhs; whnf
       · conv => lhs; whnf
       · first | rfl | assumption)
    | (apply s_guard_val rfl
       · conv => lhs; whnf
       · conv => lhs; whnf
       · conv => lhs; whnf; arg 2; whnf)
    | (apply s_guard_call rfl
       · conv => lhs; whnf
       · conv => lhs; whnf
       · conv => lhs; whnf
       · first | fail)
    | (apply aw_draw (by kernel_rfl) (by kernel_rfl))
    | apply y_nil
    | (apply y_pick_t rfl rfl
       · conv => lhs; whnf
       · conv => lhs; whnf
       · first | exact bT1 (by assumption) | exact bT2 (by assumption))
    | (apply y_pick_f rfl rfl
       · conv => lhs; whnf
       · conv => lhs; whnf
       · first | exact bF1 (by assumption) | exact bF2 (by assumption))
    | (apply y_val rfl
       · conv => lhs; whnf
       · conv => lhs; whnf; arg 2; whnf)
    | (apply y_call rfl
       · conv => lhs; whnf
       · conv => lhs; whnf
       · first | fail)
    | (apply y_wanted_val rfl
       · conv => lhs; whnf
       · conv => lhs; whnf
       · first | rfl | assumption
       · conv => lhs; whnf; arg 2; whnf)
    | (apply y_wanted_call rfl
       · conv => lhs; whnf
       · conv => lhs; whnf
       · first | rfl | assumption
       · conv => lhs; whnf
       · first | fail)
    | (apply y_skip rfl
       · conv => lhs; whnf
       · conv => lhs; whnf
       · first | rfl | assumption)
    | (apply y_guard_val rfl
       · conv => lhs; whnf
       · conv => lhs; whnf
       · conv => lhs; whnf; arg 2; whnf)
    | (apply y_guard_call rfl
       · conv => lhs; whnf
       · conv => lhs; whnf
       · conv => lhs; whnf
       · first | fail)
    | exact apartB_none
    | exact apartB_nil
    | exact all_nil
    | (show List.all _ _ = true; rfl)
    | (show apartB _ _ = true; rfl)
    | exact ([] : List Nat)
    | exact (1000000 : Nat)
    | (apply aw_cond_t
       · conv => lhs; whnf; arg 1; arg 1; whnf)
    | (apply aw_cond_f
       · conv => lhs; whnf; arg 1; arg 1; whnf)
    | (refine aw_cond (by conv => lhs; whnf) ?_ ?_ <;> intro hb)
    | refine aw_ret ?_
    | refine aw_exit ?_
    | refine k_seq_exit ?_
    | refine k_seq_ret ?_
    | refine k_block_ret ?_
    | refine k_block_hit rfl ?_
    | refine k_block_miss rfl ?_
    | refine k_scope_exit ?_
    | refine k_scope_ret ?_
    | refine k_loop_exit ?_
    | refine k_loop_ret ?_
    | refine k_end ?_
    | refine k_end_ret ?_
    | (refine ⟨_, by conv => lhs; whnf; arg 2; whnf, ?_⟩; conv => rhs; whnf)
    | exact trivial
    | intro hg)
        all_goals
          first
            | (have g : i < (d.f 4).l.length := lt_b (by assumption)
               first
                 | exact k_loop_next (j' := j - 1) (by omega) ⟨i + 1, by omega, Sub.live ⟨rfl, rfl, rfl, trivial⟩ ⟨rfl, rfl, trivial⟩⟩
                 | exact i64_in2 (by omega)
                 | exact ixn_ok g
                 | (exfalso; simp at *))
            | exact Sub.live ⟨rfl, rfl, trivial⟩ ⟨rfl, rfl, trivial⟩
    · refine aw_loop (fun j st => ∃ i, i + j = (d.f 3).l.length ∧ Sub (cx EN5 Tryd.prog s w he) st (HEi d i)) (d.f 3).l.length ⟨0, by omega, ?_⟩ ?_
      · exact Sub.live ⟨rfl, rfl, rfl, trivial⟩ ⟨rfl, rfl, trivial⟩
      · rintro j st ⟨i, hij, hs2⟩
        refine aw_sub hs2 ?_
        clear hs2
        have ih2 := fun (h : decide ((i : Int) < ((d.f 3).l.length : Int)) = true) => ih i (lt_b h)
        repeat' (first
    | refine aw_seq ?_
    | refine aw_region ?_
    | refine awo_nil ?_
    | refine k_seq ?_
    | refine k_block ?_
    | refine k_scope ?_
    | refine aw_block ?_
    | refine aw_skip ?_
    | refine aw_label ?_
    | refine aw_scope ?_
    | (apply s_pick_t rfl rfl
       · conv => lhs; whnf
       · conv => lhs; whnf
       · first | exact bT1 (by assumption) | exact bT2 (by assumption))
    | (apply s_pick_f rfl rfl
       · conv => lhs; whnf
       · conv => lhs; whnf
       · first | exact bF1 (by assumption) | exact bF2 (by assumption))
    | (apply s_val rfl
       · conv => lhs; whnf
       · conv => lhs; whnf; arg 2; whnf)
    | (apply s_call rfl
       · conv => lhs; whnf
       · conv => lhs; whnf
       · first | exact ih2 (by assumption))
    | (apply s_box rfl rfl rfl rfl
       · conv => lhs; whnf; arg 1; whnf
       · rfl)
    | (apply s_wanted_val rfl
       · conv => lhs; whnf
       · conv => lhs; whnf
       · first | rfl | assumption
       · conv => lhs; whnf; arg 2; whnf)
    | (apply s_wanted_call rfl
       · conv => lhs; whnf
       · conv => lhs; whnf
       · first | rfl | assumption
       · conv => lhs; whnf
       · first | exact ih2 (by assumption))
    | (apply s_skip rfl
       · conv => lhs; whnf
       · conv => lhs; whnf
       · first | rfl | assumption)
    | (apply s_guard_val rfl
       · conv => lhs; whnf
       · conv => lhs; whnf
       · conv => lhs; whnf; arg 2; whnf)
    | (apply s_guard_call rfl
       · conv => lhs; whnf
       · conv => lhs; whnf
       · conv => lhs; whnf
       · first | exact ih2 (by assumption))
    | (apply aw_draw (by kernel_rfl) (by kernel_rfl))
    | apply y_nil
    | (apply y_pick_t rfl rfl
       · conv => lhs; whnf
       · conv => lhs; whnf
       · first | exact bT1 (by assumption) | exact bT2 (by assumption))
    | (apply y_pick_f rfl rfl
       · conv => lhs; whnf
       · conv => lhs; whnf
       · first | exact bF1 (by assumption) | exact bF2 (by assumption))
    | (apply y_val rfl
       · conv => lhs; whnf
       · conv => lhs; whnf; arg 2; whnf)
    | (apply y_call rfl
       · conv => lhs; whnf
       · conv => lhs; whnf
       · first | exact ih2 (by assumption))
    | (apply y_wanted_val rfl
       · conv => lhs; whnf
       · conv => lhs; whnf
       · first | rfl | assumption
       · conv => lhs; whnf; arg 2; whnf)
    | (apply y_wanted_call rfl
       · conv => lhs; whnf
       · conv => lhs; whnf
       · first | rfl | assumption
       · conv => lhs; whnf
       · first | exact ih2 (by assumption))
    | (apply y_skip rfl
       · conv => lhs; whnf
       · conv => lhs; whnf
       · first | rfl | assumption)
    | (apply y_guard_val rfl
       · conv => lhs; whnf
       · conv => lhs; whnf
       · conv => lhs; whnf; arg 2; whnf)
    | (apply y_guard_call rfl
       · conv => lhs; whnf
       · conv => lhs; whnf
       · conv => lhs; whnf
       · first | exact ih2 (by assumption))
    | exact apartB_none
    | exact apartB_nil
    | exact all_nil
    | (show List.all _ _ = true; rfl)
    | (show apartB _ _ = true; rfl)
    | exact ([] : List Nat)
    | exact (1000000 : Nat)
    | (apply aw_cond_t
       · conv => lhs; whnf; arg 1; arg 1; whnf)
    | (apply aw_cond_f
       · conv => lhs; whnf; arg 1; arg 1; whnf)
    | (refine aw_cond (by conv => lhs; whnf) ?_ ?_ <;> intro hb)
    | refine aw_ret ?_
    | refine aw_exit ?_
    | refine k_seq_exit ?_
    | refine k_seq_ret ?_
    | refine k_block_ret ?_
    | refine k_block_hit rfl ?_
    | refine k_block_miss rfl ?_
    | refine k_scope_exit ?_
    | refine k_scope_ret ?_
    | refine k_loop_exit ?_
    | refine k_loop_ret ?_
    | refine k_end ?_
    | refine k_end_ret ?_
    | (refine ⟨_, by conv => lhs; whnf; arg 2; whnf, ?_⟩; conv => rhs; whnf)
    | exact trivial
    | intro hg)
        all_goals
          (have g : i < (d.f 3).l.length := lt_b (by assumption)
           first
             | exact k_loop_next (j' := j - 1) (by omega) ⟨i + 1, by omega, Sub.live ⟨rfl, rfl, rfl, trivial⟩ ⟨rfl, rfl, trivial⟩⟩
             | exact i64_in2 (by omega)
             | exact ixn_ok g)
    all_goals
      exfalso
      simp at *
end Go.Proofs.YtjhjleanihgopaaDoor
