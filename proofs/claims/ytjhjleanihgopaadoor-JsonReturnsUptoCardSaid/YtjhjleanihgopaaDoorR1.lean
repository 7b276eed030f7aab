/- Parts of a proof, merged by a program (shake.py). -/
import Derived.Test.YtjhjleanihgopaaDoorQ35
set_option linter.unusedVariables false
set_option linter.unusedSimpArgs false
namespace Go.Proofs.YtjhjleanihgopaaDoor
/-- the text of a right value is read as the value, with strings for enumeration values -/
theorem parse_write {d : D} (h : everyB 24 d = true) (hi : intsJ 24 d) (hs : sizeJ 24 d ≤ 4096) : parseJ (wrJ 24 d) = .ok (strsJ 24 d) := by
  have := value_write 24 d 0 [] h hi (by omega) (fun c q e => by cases e)
  rw [List.append_nil] at this
  unfold parseJ
  rw [this]
  rfl
end Go.Proofs.YtjhjleanihgopaaDoor
namespace Go.Proofs.YtjhjleanihgopaaDoor
theorem unqF_len : ∀ (k : Nat) (l : List UInt8), ((unqF k l).getD []).length ≤ l.length := by
  intro k
  induction k with
  | zero => intro l; cases l <;> simp [unqF]
  | succ k ih =>
    intro l
    cases l with
    | nil => simp [unqF]
    | cons c r =>
      show ((stpU (unqF k) c r).getD []).length ≤ _
      have hm : ∀ (q : List UInt8) (x : UInt8), q.length ≤ r.length → (((unqF k q).map (x :: ·)).getD []).length ≤ (c :: r).length := fun q x hq => by
        have := ih q
        cases hx : unqF k q with
        | none => simp
        | some u => rw [hx] at this; simp at this ⊢; omega
      unfold stpU
      by_cases h1 : c.toNat < 32 ∨ 126 < c.toNat ∨ c = 34
      · rw [if_pos h1]; simp
      rw [if_neg h1]
      by_cases h2 : c ≠ 92
      · rw [if_pos h2]; exact hm r c (Nat.le_refl _)
      rw [if_neg h2]
      cases r with
      | nil => simp
      | cons d q =>
        dsimp only
        cases simU d with
        | some x => exact hm q x (by simp)
        | none =>
          dsimp only
          by_cases h3 : d ≠ 117 ∨ q.length < 4
          · rw [if_pos h3]; simp
          rw [if_neg h3]
          cases codeFrom 0 (q.take 4) with
          | none => simp
          | some n =>
            dsimp only
            by_cases h4 : n ≤ 255
            · rw [if_pos h4]; exact hm (q.drop 4) _ (by simp; omega)
            · rw [if_neg h4]; simp
theorem unquote_len (l : List UInt8) (h : 2 ≤ l.length) : ((unquoteU l).getD []).length + 2 ≤ l.length := by
  unfold unquoteU
  split
  · have := unqF_len ((l.drop 1).take (l.length - 2)).length ((l.drop 1).take (l.length - 2))
    have h2 : ((l.drop 1).take (l.length - 2)).length ≤ l.length - 2 := by rw [List.length_take]; omega
    have h3 : ((unqU ((l.drop 1).take (l.length - 2))).getD []).length ≤ ((l.drop 1).take (l.length - 2)).length := this
    omega
  · simpa using h
theorem readJ_len {r q : List UInt8} : (readJ r q).length = r.length - q.length := by unfold readJ; rw [List.length_take]; omega
theorem str_len {r : List UInt8} {y : List UInt8 × List UInt8} (h : strJ r = .ok y) : y.1.length + y.2.length + 2 ≤ r.length := by
  unfold strJ at h
  obtain ⟨a, h1, h⟩ := bind_ok h
  obtain ⟨q, h2, h⟩ := bind_ok h
  have e1 := (takeJ_suffix h1).2
  have e2 := (bodyJ_suffix h2).2
  cases h
  have h3 : 2 ≤ (readJ r q).length := by rw [readJ_len]; omega
  have h4 := unquote_len (readJ r q) h3
  rw [readJ_len] at h4 h3
  show ((unquoteU (readJ r q)).getD []).length + q.length + 2 ≤ r.length
  omega
theorem word_len' : ∀ (w r q : List UInt8), wordJ w r = .ok q → q.length + w.length = r.length
  | [], r, q, h => by cases h; rfl
  | c :: w, r, q, h => by
    obtain ⟨a, h1, h2⟩ := bind_ok h
    obtain ⟨c', rfl, _⟩ := takeJ_ok h1
    have := word_len' w a q h2
    simp only [List.length_cons]; omega
theorem word_len {w r q : List UInt8} (h : wordJ w r = .ok q) : q.length + w.length = r.length := word_len' w r q h
theorem num_in {r : List UInt8} {y : Int × List UInt8} (h : numJ r = .ok y) : -9223372036854775808 ≤ y.1 ∧ y.1 ≤ 9223372036854775807 := by
  unfold numJ at h
  obtain ⟨a, h1, h⟩ := bind_ok h
  dsimp only at h
  generalize hq : (if (if r.head? = some 45 then r.tail else r).head? = some 48 then a else a.dropWhile digU) = q at h
  cases hn : numU (readJ r q) with
  | ok n => rw [hn] at h; cases h; exact (itoa_num hn).2
  | _ => rw [hn] at h; cases h
theorem range_gD2 (g : D → D) (l : List D) (h : ∀ d ∈ l, g d = d) : (List.range l.length).map (fun i => g (gD l i)) = l := by
  apply List.ext_getElem
  · simp
  · intro i h1 h2
    have : i < l.length := h2
    simp only [List.getElem_map, List.getElem_range]
    rw [h _ (gD_mem this), gD_get this]
def kwU (us : List (List UInt8)) : Nat := (us.map fun u => 1 + u.length).sum
theorem strs_keys (kd n : Int) (t : List UInt8) (its : List D) (us : List (List UInt8)) : strsL (vD kd n t its (keysD us)) = us := by
  show (us.map fun s => D.str ⟨s.toArray⟩).map (fun x => x.s.data.toList) = us
  rw [List.map_map]
  exact List.map_id' us
theorem kw_keys (us : List (List UInt8)) : ((keysD us).map fun x => 1 + x.s.size).sum = kwU us := by
  unfold keysD kwU
  rw [List.map_map]; rfl
theorem node_got {k : Nat} {kd n : Int} {t : List UInt8} {its : List D} {us : List (List UInt8)} (hits : ∀ d ∈ its, Gd k d) (hk : kd ≠ 4) (hn : -9223372036854775808 ≤ n ∧ n ≤ 9223372036854775807) (hb : nodeB (vD kd n t its (keysD us)) = true) :
    Gd (k + 1) (vD kd n t its (keysD us)) ∧ sizeJ (k + 1) (vD kd n t its (keysD us)) = 1 + (its.map (sizeJ k)).sum ∧ wtJ (k + 1) (vD kd n t its (keysD us)) = 1 + t.length + kwU us + (its.map (wtJ k)).sum := by
  refine ⟨⟨?_, ?_, hn, fun i hi => (hits _ (gD_mem hi)).ints⟩, ?_, ?_⟩
  · unfold everyB
    rw [hb, Bool.true_and, List.all_eq_true]
    intro i hi
    have : i < its.length := List.mem_range.1 hi
    exact (hits _ (gD_mem this)).every
  · show vD (if kd = 4 then 3 else kd) n t ((List.range its.length).map fun i => strsJ k (gD its i)) (keysD (strsL (vD kd n t its (keysD us)))) = _
    rw [if_neg hk, strs_keys, range_gD2 (strsJ k) its fun d hd => (hits d hd).strs]
  · show 1 + sumN (fun i => sizeJ k (gD its i)) its.length = _
    rw [sum_gD]
  · show 1 + t.length + ((keysD us).map fun x => 1 + x.s.size).sum + (its.map fun x => wtJ k x).sum = _
    rw [kw_keys]
def Vg (k m : Nat) (r : List UInt8) (y : D × Nat × List UInt8) : Prop := Gd k y.1 ∧ y.2.1 = m + sizeJ k y.1 ∧ wtJ k y.1 + y.2.2.length ≤ r.length
theorem items_got {k : Nat} {f : Nat → List UInt8 → Except JE (D × Nat × List UInt8)} (hf : ∀ m r y, f m r = .ok y → Vg k m r y) : ∀ (j m : Nat) (r : List UInt8) (l : List D) (y : List D × Nat × List UInt8), itemsJ f j m r l = .ok y → (∀ d ∈ l, Gd k d) →
    (∀ d ∈ y.1, Gd k d) ∧ y.2.1 + (l.map (sizeJ k)).sum = m + (y.1.map (sizeJ k)).sum ∧ (y.1.map (wtJ k)).sum + y.2.2.length + 1 ≤ r.length + (l.map (wtJ k)).sum
  | 0, m, r, l, y, h, _ => by cases h
  | j + 1, m, r, l, y, h, hl => by
    unfold itemsJ at h
    obtain ⟨a, h1, h⟩ := bind_ok h
    obtain ⟨g1, g2, g3⟩ := hf m r a h1
    have hl' : ∀ d ∈ l ++ [a.1], Gd k d := fun d hd => by
      rcases List.mem_append.1 hd with hd | hd
      · exact hl d hd
      · rw [List.mem_singleton.1 hd]; exact g1
    have hsp := (spc_suffix a.2.2).length_le
    cases hs : spc a.2.2 with
    | nil => rw [hs] at h; cases h
    | cons c q =>
      rw [hs] at h hsp
      dsimp only at h
      simp only [List.length_cons] at hsp
      by_cases c1 : c = 44
      · rw [if_pos c1] at h
        obtain ⟨i1, i2, i3⟩ := items_got hf j a.2.1 q (l ++ [a.1]) y h hl'
        simp only [List.map_append, List.sum_append, List.map_cons, List.map_nil, List.sum_cons, List.sum_nil] at i2 i3
        exact ⟨i1, by omega, by omega⟩
      rw [if_neg c1] at h
      by_cases c2 : c = 93
      · rw [if_pos c2] at h
        cases h
        refine ⟨hl', ?_, ?_⟩
        · simp only [List.map_append, List.sum_append, List.map_cons, List.map_nil, List.sum_cons, List.sum_nil]; omega
        · simp only [List.map_append, List.sum_append, List.map_cons, List.map_nil, List.sum_cons, List.sum_nil]; omega
      · rw [if_neg c2] at h; cases h
theorem fields_got {k : Nat} {f : Nat → List UInt8 → Except JE (D × Nat × List UInt8)} (hf : ∀ m r y, f m r = .ok y → Vg k m r y) : ∀ (j m : Nat) (r : List UInt8) (ks : List (List UInt8)) (l : List D) (y : List (List UInt8) × List D × Nat × List UInt8), fieldsJ f j m r ks l = .ok y → (∀ d ∈ l, Gd k d) → ks.Nodup → ks.length = l.length →
    (∀ d ∈ y.2.1, Gd k d) ∧ y.1.Nodup ∧ y.1.length = y.2.1.length ∧ y.2.2.1 + (l.map (sizeJ k)).sum = m + (y.2.1.map (sizeJ k)).sum ∧ kwU y.1 + (y.2.1.map (wtJ k)).sum + y.2.2.2.length + 1 ≤ r.length + kwU ks + (l.map (wtJ k)).sum
  | 0, m, r, ks, l, y, h, _, _, _ => by cases h
  | j + 1, m, r, ks, l, y, h, hl, hd, hkl => by
    unfold fieldsJ at h
    obtain ⟨b, h0, h⟩ := bind_ok h
    have hb := str_len h0
    have hsp0 := (spc_suffix r).length_le
    by_cases hk : b.1 ∈ ks
    · rw [if_pos hk] at h; cases h
    rw [if_neg hk] at h
    obtain ⟨r2, h1, h⟩ := bind_ok h
    have ht := (takeJ_suffix h1).2
    have hsp1 := (spc_suffix b.2).length_le
    obtain ⟨a, h2, h⟩ := bind_ok h
    obtain ⟨g1, g2, g3⟩ := hf m r2 a h2
    have hl' : ∀ d ∈ l ++ [a.1], Gd k d := fun d hd => by
      rcases List.mem_append.1 hd with hd | hd
      · exact hl d hd
      · rw [List.mem_singleton.1 hd]; exact g1
    have hd' : (ks ++ [b.1]).Nodup := by
      rw [List.nodup_append]
      refine ⟨hd, by simp, ?_⟩
      intro x hx y hy e
      rw [List.mem_singleton.1 hy] at e
      rw [e] at hx
      exact hk hx
    have hkw : kwU (ks ++ [b.1]) = kwU ks + (1 + b.1.length) := by simp [kwU]
    have hsp := (spc_suffix a.2.2).length_le
    cases hs : spc a.2.2 with
    | nil => rw [hs] at h; cases h
    | cons c q =>
      rw [hs] at h hsp
      dsimp only at h
      simp only [List.length_cons] at hsp
      by_cases c1 : c = 44
      · rw [if_pos c1] at h
        obtain ⟨i1, i2, i3, i4, i5⟩ := fields_got hf j a.2.1 q (ks ++ [b.1]) (l ++ [a.1]) y h hl' hd' (by simp [hkl])
        simp only [List.map_append, List.sum_append, List.map_cons, List.map_nil, List.sum_cons, List.sum_nil] at i4 i5
        rw [hkw] at i5
        exact ⟨i1, i2, i3, by omega, by omega⟩
      rw [if_neg c1] at h
      by_cases c2 : c = 125
      · rw [if_pos c2] at h
        cases h
        refine ⟨hl', hd', by simp [hkl], ?_, ?_⟩
        · simp only [List.map_append, List.sum_append, List.map_cons, List.map_nil, List.sum_cons, List.sum_nil]; omega
        · simp only [List.map_append, List.sum_append, List.map_cons, List.map_nil, List.sum_cons, List.sum_nil]
          rw [hkw]; omega
      · rw [if_neg c2] at h; cases h
theorem node_simple (t : List UInt8) (kd n : Int) (h : (kd = 0 ∧ n = 0 ∧ t = []) ∨ (kd = 1 ∧ (n = 0 ∨ n = 1) ∧ t = []) ∨ (kd = 2 ∧ t = []) ∨ (kd = 3 ∧ n = 0)) : nodeB (vD kd n t [] (keysD [])) = true := by
  show (((kd == 1 || kd == 2 || n == 0) && (kd == 3 || kd == 4 || t == []) && (kd == 6 || (0 : Nat) == 0) && (kd == 6 || kd == 5 || (0 : Nat) == 0) && decide (0 ≤ kd ∧ kd ≤ 6) && (!(kd == 1) || n == 0 || n == 1) && (!(kd == 4) || _) && (!(kd == 6) || _)) = true)
  rcases h with ⟨rfl, rfl, rfl⟩ | ⟨rfl, h, rfl⟩ | ⟨rfl, rfl⟩ | ⟨rfl, rfl⟩
  · rfl
  · rcases h with rfl | rfl <;> rfl
  · simp
  · simp
theorem node_list (its : List D) : nodeB (vD 5 0 [] its (keysD [])) = true := by
  show (((5 : Int) == 1 || (5 : Int) == 2 || (0 : Int) == 0) && ((5 : Int) == 3 || (5 : Int) == 4 || ([] : List UInt8) == []) && ((5 : Int) == 6 || (0 : Nat) == 0) && ((5 : Int) == 6 || (5 : Int) == 5 || its.length == 0) && decide (0 ≤ (5 : Int) ∧ (5 : Int) ≤ 6) && (!((5 : Int) == 1) || (0 : Int) == 0 || (0 : Int) == 1) && (!((5 : Int) == 4) || _) && (!((5 : Int) == 6) || _)) = true
  simp
theorem node_obj (its : List D) (us : List (List UInt8)) (hn : us.Nodup) (hl : us.length = its.length) : nodeB (vD 6 0 [] its (keysD us)) = true := by
  show (((6 : Int) == 1 || (6 : Int) == 2 || (0 : Int) == 0) && ((6 : Int) == 3 || (6 : Int) == 4 || ([] : List UInt8) == []) && ((6 : Int) == 6 || (keysD us).length == 0) && ((6 : Int) == 6 || (6 : Int) == 5 || its.length == 0) && decide (0 ≤ (6 : Int) ∧ (6 : Int) ≤ 6) && (!((6 : Int) == 1) || (0 : Int) == 0 || (0 : Int) == 1) && (!((6 : Int) == 4) || _) && (!((6 : Int) == 6) || ((keysD us).length == its.length && decide (strsL (vD 6 0 [] its (keysD us))).Nodup))) = true
  rw [strs_keys]
  have : (keysD us).length = its.length := by unfold keysD; rw [List.length_map]; exact hl
  rw [this]
  simp [hn]
theorem value_got : ∀ (k m : Nat) (r : List UInt8) (y : D × Nat × List UInt8), valueJ k m r = .ok y → Vg k m r y
  | 0, m, r, y, h => by
    unfold valueJ at h
    split at h
    · cases h
    · split at h <;> cases h
  | k + 1, m, r, y, h => by
    unfold valueJ at h
    have hsp := (spc_suffix r).length_le
    have leaf : ∀ (kd n : Int) (t q : List UInt8), ((kd = 0 ∧ n = 0 ∧ t = []) ∨ (kd = 1 ∧ (n = 0 ∨ n = 1) ∧ t = []) ∨ (kd = 2 ∧ t = []) ∨ (kd = 3 ∧ n = 0)) → (-9223372036854775808 ≤ n ∧ n ≤ 9223372036854775807) → 1 + t.length + q.length ≤ r.length → Vg (k + 1) m r (vD kd n t [] [], m + 1, q) := fun kd n t q hk hn hl => by
      obtain ⟨g1, g2, g3⟩ := node_got (k := k) (kd := kd) (n := n) (t := t) (its := []) (us := []) (fun d hd => by cases hd) (by omega) hn (node_simple t kd n hk)
      refine ⟨g1, ?_, ?_⟩
      · show m + 1 = m + sizeJ (k + 1) (vD kd n t [] (keysD []))
        rw [g2]; rfl
      · show wtJ (k + 1) (vD kd n t [] (keysD [])) + q.length ≤ r.length
        rw [g3]
        show 1 + t.length + 0 + 0 + q.length ≤ r.length
        omega
    cases hs : spc r with
    | nil => rw [hs] at h; cases h
    | cons c q =>
      rw [hs] at h hsp
      dsimp only at h
      simp only [List.length_cons] at hsp
      by_cases h1 : beginsJ c = false
      · rw [if_pos h1] at h; cases h
      rw [if_neg h1] at h
      by_cases h2 : 4096 < m + 1
      · rw [if_pos h2] at h; cases h
      rw [if_neg h2] at h
      by_cases h3 : c = 110
      · rw [if_pos h3] at h
        obtain ⟨a, ha, h⟩ := bind_ok h
        cases h
        have := word_len ha
        simp only [List.length_cons, List.length_nil] at this
        exact leaf 0 0 [] a (.inl ⟨rfl, rfl, rfl⟩) r_zero (by simp; omega)
      rw [if_neg h3] at h
      by_cases h4 : c = 116
      · rw [if_pos h4] at h
        obtain ⟨a, ha, h⟩ := bind_ok h
        cases h
        have := word_len ha
        simp only [List.length_cons, List.length_nil] at this
        exact leaf 1 1 [] a (.inr (.inl ⟨rfl, .inr rfl, rfl⟩)) (by decide) (by simp; omega)
      rw [if_neg h4] at h
      by_cases h5 : c = 102
      · rw [if_pos h5] at h
        obtain ⟨a, ha, h⟩ := bind_ok h
        cases h
        have := word_len ha
        simp only [List.length_cons, List.length_nil] at this
        exact leaf 1 0 [] a (.inr (.inl ⟨rfl, .inl rfl, rfl⟩)) r_zero (by simp; omega)
      rw [if_neg h5] at h
      by_cases h6 : c = 34
      · rw [if_pos h6] at h
        obtain ⟨a, ha, h⟩ := bind_ok h
        cases h
        have := str_len ha
        simp only [List.length_cons] at this
        exact leaf 3 0 a.1 a.2 (.inr (.inr (.inr ⟨rfl, rfl⟩))) r_zero (by omega)
      rw [if_neg h6] at h
      have hsq : (spc q).length ≤ q.length := (spc_suffix q).length_le
      have rest : ∀ (kd : Int) (its : List D) (us : List (List UInt8)) (n2 : Nat) (q2 : List UInt8), kd ≠ 4 → (∀ d ∈ its, Gd k d) → nodeB (vD kd 0 [] its (keysD us)) = true → n2 = m + 1 + (its.map (sizeJ k)).sum → kwU us + (its.map (wtJ k)).sum + q2.length ≤ q.length → Vg (k + 1) m r (vD kd 0 [] its (keysD us), n2, q2) := fun kd its us n2 q2 h4 hi hb hn hl => by
        obtain ⟨g1, g2, g3⟩ := node_got (k := k) (kd := kd) (n := 0) (t := []) (its := its) (us := us) hi h4 r_zero hb
        refine ⟨g1, ?_, ?_⟩
        · show n2 = m + sizeJ (k + 1) (vD kd 0 [] its (keysD us))
          rw [g2]; omega
        · show wtJ (k + 1) (vD kd 0 [] its (keysD us)) + q2.length ≤ r.length
          rw [g3]
          show 1 + 0 + kwU us + (its.map (wtJ k)).sum + q2.length ≤ r.length
          omega
      by_cases h7 : c = 91
      · rw [if_pos h7] at h
        by_cases hh : (spc q).head? = some 93
        · rw [if_pos hh] at h
          cases h
          exact rest 5 [] [] (m + 1) _ (by decide) (fun d hd => by cases hd) (node_list []) rfl (by
            show 0 + 0 + (spc q).tail.length ≤ q.length
            rw [List.length_tail]; omega)
        · rw [if_neg hh] at h
          obtain ⟨a, ha, h⟩ := bind_ok h
          cases h
          obtain ⟨i1, i2, i3⟩ := items_got (value_got k) _ _ _ _ _ ha (fun d hd => by cases hd)
          simp only [List.map_nil, List.sum_nil] at i2 i3
          exact rest 5 a.1 [] a.2.1 _ (by decide) i1 (node_list a.1) (by omega) (by
            show 0 + _ + _ ≤ _
            omega)
      rw [if_neg h7] at h
      by_cases h8 : c = 123
      · rw [if_pos h8] at h
        by_cases hh : (spc q).head? = some 125
        · rw [if_pos hh] at h
          cases h
          exact rest 6 [] [] (m + 1) _ (by decide) (fun d hd => by cases hd) (node_obj [] [] List.nodup_nil rfl) rfl (by
            show 0 + 0 + (spc q).tail.length ≤ q.length
            rw [List.length_tail]; omega)
        · rw [if_neg hh] at h
          obtain ⟨a, ha, h⟩ := bind_ok h
          cases h
          obtain ⟨i1, i2, i3, i4, i5⟩ := fields_got (value_got k) _ _ _ _ _ _ ha (fun d hd => by cases hd) List.nodup_nil rfl
          simp only [List.map_nil, List.sum_nil, kwU] at i4 i5
          exact rest 6 a.2.1 a.1 a.2.2.1 _ (by decide) i1 (node_obj a.2.1 a.1 i2 i3) (by omega) (by unfold kwU; omega)
      rw [if_neg h8] at h
      obtain ⟨a, ha, h⟩ := bind_ok h
      cases h
      have hq := (numJ_suffix ha).2
      simp only [List.length_cons] at hq
      exact leaf 2 a.1 [] a.2 (.inr (.inr (.inl ⟨rfl, rfl⟩))) (num_in ha) (by simp; omega)
theorem parse_got {s : List UInt8} {d : D} (h : parseJ s = .ok d) : Gd 24 d ∧ sizeJ 24 d ≤ 4096 ∧ wtJ 24 d ≤ s.length := by
  unfold parseJ at h
  obtain ⟨a, ha, h⟩ := bind_ok h
  obtain ⟨g1, g2, g3⟩ := value_got 24 0 s a ha
  have g4 := (value_part 24 0 s a ha).2.2.2
  cases hs : spc a.2.2 with
  | nil => rw [hs] at h; cases h; exact ⟨g1, by omega, by omega⟩
  | cons c q => rw [hs] at h; cases h
end Go.Proofs.YtjhjleanihgopaaDoor
namespace Go.Proofs.YtjhjleanihgopaaDoor
open Go.RowKit
attribute [local irreducible] wpList Calls Code.wp
attribute [local irreducible] AW AWo OpOk seqK blockK scopeK loopK endK endKB AC ACB absLex absLexG Yld YldG Sub
set_option maxRecDepth 100000 in
theorem every_dp : ∀ {k : Nat} {d : D}, everyB k d = true → Dp k d
  | 0, _, h => by cases h
  | k + 1, d, h => by
    unfold everyB at h
    rw [Bool.and_eq_true, List.all_eq_true] at h
    exact fun i hi => every_dp (h.2 i (List.mem_range.2 hi))
end Go.Proofs.YtjhjleanihgopaaDoor
namespace Go.Proofs.YtjhjleanihgopaaDoor
open Go.RowKit
attribute [local irreducible] wpList Calls Code.wp AW AWo OpOk seqK blockK scopeK loopK endK endKB AC ACB absLex absLexG Yld YldG Sub
set_option maxRecDepth 100000 in
theorem keyS_go (d : D) (i : Nat) : keyS d (i + 1) = keyS d i ++ [D.str (gD (d.f 4).l i).s] := by unfold keyS; rw [List.range_succ]; simp
set_option maxRecDepth 100000 in
theorem itS_go (k : Nat) (d : D) (i : Nat) : itS k d (i + 1) = itS k d i ++ [strsJ k (gD (d.f 3).l i)] := by unfold itS; rw [List.range_succ]; simp
set_option maxRecDepth 100000 in
theorem keyS_len (d : D) (i : Nat) : (keyS d i).length = i := by simp [keyS]
set_option maxRecDepth 100000 in
theorem itS_len (k : Nat) (d : D) (i : Nat) : (itS k d i).length = i := by simp [itS]
noncomputable def HsK (d : D) (i : Nat) : Vst 55 :=
  stS 55 [(1, .bx 1 0), (2, .bx 2 0), (3, .bx 3 0), (4, .c (.int .i64 (i : Int)))]
    [(1, .box 39 (cellsV Tryd.prog 12 39 d)), (2, .box 39 zeroCv), (3, .box 39 [.c (.int .i64 (kdS d)), .c (.int .i64 (d.f 1).n), .c (.string (d.f 2).s), nilV, .own 33 9 (keyS d i)]), (33, .tok 9 (keyS d i).length)]
noncomputable def HsI (k : Nat) (d : D) (i : Nat) : Vst 55 :=
  stS 55 [(1, .bx 1 0), (2, .bx 2 0), (3, .bx 3 0), (5, .c (.int .i64 (i : Int)))]
    [(1, .box 39 (cellsV Tryd.prog 12 39 d)), (2, .box 39 zeroCv), (3, .box 39 [.c (.int .i64 (kdS d)), .c (.int .i64 (d.f 1).n), .c (.string (d.f 2).s), .own 52 39 (itS k d i), .own 33 9 (keyS d (d.f 4).l.length)]), (33, .tok 9 (keyS d (d.f 4).l.length).length), (52, .tok 39 (itS k d i).length)]
set_option maxHeartbeats 4000000 in
set_option maxRecDepth 100000 in
theorem strings_ac : ∀ (k : Nat) (d : D), Dp k d → wtJ k d ≤ 1000000000 → AC EN5 Tryd.prog 24 [.agg (cellsV Tryd.prog 12 39 d)] (.agg (cellsV Tryd.prog 12 39 (strsJ k d)))
  | 0, _, h, _ => h.elim
  | k + 1, d, h, hw => by
    have hin := wt_in h hw
    have hl := hin.items
    have hk := hin.keys
    have ih := fun i (hi : i < (d.f 3).l.length) => strings_ac k (gD (d.f 3).l i) (h i hi) (hin.at_ i hi)
    rw [strs_eq]
    refine ac_enter 55 Tryd.func24 rfl rfl rfl rfl ?_
    intro s w he
    repeat' (first
    | apply aw_cutAt 4 (stS 55 [(1, .bx 1 0), (2, .bx 2 0), (3, .bx 3 0)] [(1, .box 39 (cellsV Tryd.prog 12 39 d)), (2, .box 39 zeroCv), (3, .box 39 [.c (.int .i64 (kdS d)), .c (.int .i64 (d.f 1).n), .c (.string (d.f 2).s), nilV, nilV])]) rfl
    | refine k_cut_ret ?_
    | refine k_cut_exit ?_
    | refine k_cut ?_
    | refine aw_seq ?_
    | refine aw_region ?_
    | refine awo_nil ?_
    | refine k_seq ?_
    | refine k_block ?_
    | refine k_scope ?_
    | refine aw_block ?_
    | refine aw_skip ?_
    | refine aw_label ?_
    | refine aw_scope ?_
    | (apply s_val rfl
       · conv => lhs; whnf
       · conv => lhs; whnf; arg 2; whnf)
    | (apply s_call rfl
       · conv => lhs; whnf
       · conv => lhs; whnf
       · first | fail)
    | (apply s_box rfl rfl rfl rfl
       · conv => lhs; whnf; arg 1; whnf
       · rfl)
    | (apply s_alloc rfl rfl rfl rfl
       · conv => lhs; whnf; arg 1; whnf
       · rfl)
    | (apply s_store rfl rfl rfl
       · conv => lhs; whnf
       · conv => lhs; whnf; arg 1; whnf
       · conv => lhs; whnf; arg 1; whnf
       · exact ⟨by kernel_rfl, by kernel_rfl⟩
       · rfl)
    | (apply s_app rfl rfl
       · conv => lhs; whnf
       · first | (conv => lhs; whnf; arg 1; whnf)
       · first | exact fun _ => rfl | (intro _; kernel_rfl)
       · conv => lhs; whnf
       · conv => lhs; whnf; arg 1; whnf
       · conv => lhs; whnf)
    | (apply s_app_nil rfl rfl rfl rfl
       · first | (conv => lhs; whnf; arg 1; whnf)
       · first | exact fun _ => rfl | (intro _; kernel_rfl)
       · conv => lhs; whnf
       · conv => lhs; whnf)
    | (apply s_lit0 rfl rfl
       · conv => lhs; whnf
       · first | (conv => lhs; whnf; arg 1; whnf))
    | (apply s_lit1 rfl rfl
       · conv => lhs; whnf
       · first | (conv => lhs; whnf; arg 1; whnf)
       · conv => lhs; whnf; arg 1; whnf
       · rfl
       · rfl)
    | (apply s_onlit rfl rfl
       · conv => lhs; whnf
       · first | (conv => lhs; whnf; arg 1; whnf)
       · first | exact fun _ => rfl | (intro _; kernel_rfl)
       · conv => lhs; whnf
       · conv => lhs; whnf)
    | (apply aw_draw (by kernel_rfl) (by kernel_rfl))
    | apply y_nil
    | (apply y_val rfl
       · conv => lhs; whnf
       · conv => lhs; whnf; arg 2; whnf)
    | (apply y_call rfl
       · conv => lhs; whnf
       · conv => lhs; whnf
       · first | fail)
    | (apply y_store rfl rfl rfl
       · conv => lhs; whnf
       · rfl
       · rfl
       · conv => lhs; whnf; arg 1; whnf
       · conv => lhs; whnf; arg 1; whnf
       · exact ⟨by kernel_rfl, by kernel_rfl⟩
       · rfl)
    | (apply y_app rfl rfl
       · conv => lhs; whnf
       · first | (conv => lhs; whnf; arg 1; whnf)
       · first | exact fun _ => rfl | (intro _; kernel_rfl)
       · conv => lhs; whnf
       · rfl
       · rfl
       · conv => lhs; whnf; arg 1; whnf
       · conv => lhs; whnf)
    | (apply y_lit0 rfl rfl
       · conv => lhs; whnf
       · first | (conv => lhs; whnf; arg 1; whnf))
    | (apply y_lit1 rfl rfl
       · conv => lhs; whnf
       · first | (conv => lhs; whnf; arg 1; whnf)
       · conv => lhs; whnf; arg 1; whnf
       · rfl
       · rfl)
    | (apply y_onlit rfl rfl
       · conv => lhs; whnf
       · first | (conv => lhs; whnf; arg 1; whnf)
       · first | exact fun _ => rfl | (intro _; kernel_rfl)
       · conv => lhs; whnf
       · conv => lhs; whnf)
    | exact apartB_none
    | exact apartB_nil
    | exact all_nil
    | (show List.all _ _ = true; rfl)
    | (show apartB _ _ = true; rfl)
    | exact ([] : List Nat)
    | exact (1000000 : Nat)
    | (apply aw_cond_t
       · conv => lhs; whnf; arg 1; arg 1; whnf)
    | (apply aw_cond_f
       · conv => lhs; whnf; arg 1; arg 1; whnf)
    | (refine aw_cond (by conv => lhs; whnf) ?_ ?_ <;> intro hb)
    | refine aw_ret ?_
    | refine aw_exit ?_
    | refine k_seq_exit ?_
    | refine k_seq_ret ?_
    | refine k_block_ret ?_
    | refine k_block_hit rfl ?_
    | refine k_block_miss rfl ?_
    | refine k_scope_exit ?_
    | refine k_scope_ret ?_
    | refine k_loop_exit ?_
    | refine k_loop_ret ?_
    | refine k_end ?_
    | refine k_end_ret ?_
    | (refine ⟨_, by conv => lhs; whnf; arg 2; whnf, ?_⟩; conv => rhs; whnf)
    | exact trivial
    | intro hg)
    · have g : (d.f 0).n = 4 := by simpa using (by assumption : ((d.f 0).n == 4) = true)
      have e : kdS d = 3 := by unfold kdS; rw [if_pos g]
      rw [e]
      exact Sub.live ⟨rfl, rfl, rfl, trivial⟩ ⟨rfl, rfl, rfl, trivial⟩
    · have g : ¬ (d.f 0).n = 4 := by simpa using (by assumption : ((d.f 0).n == 4) = false)
      have e : kdS d = (d.f 0).n := by unfold kdS; rw [if_neg g]
      rw [e]
      exact Sub.live ⟨rfl, rfl, rfl, trivial⟩ ⟨rfl, rfl, rfl, trivial⟩
    · refine aw_sub (Sub.ownF (m := 3) (q := 33) (i := 4) (e := 9) rfl (by decide) rfl rfl rfl) ?_
      refine aw_loop (fun j st => ∃ i, i + j = (d.f 4).l.length ∧ Sub (cx EN5 Tryd.prog s w he) st (HsK d i)) (d.f 4).l.length ⟨0, by omega, ?_⟩ ?_
      · exact Sub.live ⟨rfl, rfl, rfl, rfl, trivial⟩ ⟨rfl, rfl, rfl, rfl, trivial⟩
      · rintro j st ⟨i, hij, hs2⟩
        refine aw_sub hs2 ?_
        clear hs2
        have hdone : (d.f 4).l.length ≤ i → i = (d.f 4).l.length := fun h => by omega
        repeat' (first
    | (apply aw_drawGn 11 ([(1, [3]), (3, [1])]) ([(8, [33]), (10, [3])]) rfl (by kernel_rfl) (by kernel_rfl) (by kernel_rfl))
    | apply g_nil
    | (apply g_val rfl
       · conv => lhs; whnf
       · conv => lhs; whnf; arg 2; whnf)
    | (apply g_call rfl
       · conv => lhs; whnf
       · conv => lhs; whnf
       · first | fail)
    | (apply g_app rfl rfl
       · conv => lhs; whnf
       · first | (conv => lhs; whnf; arg 1; whnf)
       · first | exact fun _ => rfl | (intro _; kernel_rfl)
       · conv => lhs; whnf
       · rfl
       · conv => lhs; whnf; arg 1; whnf
       · conv => lhs; whnf)
    | (apply g_store rfl rfl rfl
       · conv => lhs; whnf
       · rfl
       · conv => lhs; whnf; arg 1; whnf
       · conv => lhs; whnf; arg 1; whnf
       · exact ⟨by kernel_rfl, by kernel_rfl⟩
       · rfl)
    | (show inO _ _ = true; rfl)
    | (apply g_lit [D.str (gD (d.f 4).l i).s] rfl rfl
       · conv => lhs; whnf
       · first | (conv => lhs; whnf; arg 1; whnf)
       · rfl
       · rfl
       · repeat' (first | exact trivial | apply And.intro | rfl))
    | refine aw_seq ?_
    | refine aw_region ?_
    | refine awo_nil ?_
    | refine k_seq ?_
    | refine k_block ?_
    | refine k_scope ?_
    | refine aw_block ?_
    | refine aw_skip ?_
    | refine aw_label ?_
    | refine aw_scope ?_
    | (apply s_val rfl
       · conv => lhs; whnf
       · conv => lhs; whnf; arg 2; whnf)
    | (apply s_call rfl
       · conv => lhs; whnf
       · conv => lhs; whnf
       · first | fail)
    | (apply s_box rfl rfl rfl rfl
       · conv => lhs; whnf; arg 1; whnf
       · rfl)
    | (apply s_alloc rfl rfl rfl rfl
       · conv => lhs; whnf; arg 1; whnf
       · rfl)
    | (apply s_store rfl rfl rfl
       · conv => lhs; whnf
       · conv => lhs; whnf; arg 1; whnf
       · conv => lhs; whnf; arg 1; whnf
       · exact ⟨by kernel_rfl, by kernel_rfl⟩
       · rfl)
    | (apply s_app rfl rfl
       · conv => lhs; whnf
       · first | (conv => lhs; whnf; arg 1; whnf)
       · first | exact fun _ => rfl | (intro _; kernel_rfl)
       · conv => lhs; whnf
       · conv => lhs; whnf; arg 1; whnf
       · conv => lhs; whnf)
    | (apply s_app_nil rfl rfl rfl rfl
       · first | (conv => lhs; whnf; arg 1; whnf)
       · first | exact fun _ => rfl | (intro _; kernel_rfl)
       · conv => lhs; whnf
       · conv => lhs; whnf)
    | (apply s_lit0 rfl rfl
       · conv => lhs; whnf
       · first | (conv => lhs; whnf; arg 1; whnf))
    | (apply s_lit1 rfl rfl
       · conv => lhs; whnf
       · first | (conv => lhs; whnf; arg 1; whnf)
       · conv => lhs; whnf; arg 1; whnf
       · rfl
       · rfl)
    | (apply s_onlit rfl rfl
       · conv => lhs; whnf
       · first | (conv => lhs; whnf; arg 1; whnf)
       · first | exact fun _ => rfl | (intro _; kernel_rfl)
       · conv => lhs; whnf
       · conv => lhs; whnf)
    | (apply aw_draw (by kernel_rfl) (by kernel_rfl))
    | apply y_nil
    | (apply y_val rfl
       · conv => lhs; whnf
       · conv => lhs; whnf; arg 2; whnf)
    | (apply y_call rfl
       · conv => lhs; whnf
       · conv => lhs; whnf
       · first | fail)
    | (apply y_store rfl rfl rfl
       · conv => lhs; whnf
       · rfl
       · rfl
       · conv => lhs; whnf; arg 1; whnf
       · conv => lhs; whnf; arg 1; whnf
       · exact ⟨by kernel_rfl, by kernel_rfl⟩
       · rfl)
    | (apply y_app rfl rfl
       · conv => lhs; whnf
       · first | (conv => lhs; whnf; arg 1; whnf)
       · first | exact fun _ => rfl | (intro _; kernel_rfl)
       · conv => lhs; whnf
       · rfl
       · rfl
       · conv => lhs; whnf; arg 1; whnf
       · conv => lhs; whnf)
    | (apply y_lit0 rfl rfl
       · conv => lhs; whnf
       · first | (conv => lhs; whnf; arg 1; whnf))
    | (apply y_lit1 rfl rfl
       · conv => lhs; whnf
       · first | (conv => lhs; whnf; arg 1; whnf)
       · conv => lhs; whnf; arg 1; whnf
       · rfl
       · rfl)
    | (apply y_onlit rfl rfl
       · conv => lhs; whnf
       · first | (conv => lhs; whnf; arg 1; whnf)
       · first | exact fun _ => rfl | (intro _; kernel_rfl)
       · conv => lhs; whnf
       · conv => lhs; whnf)
    | exact apartB_none
    | exact apartB_nil
    | exact all_nil
    | (show List.all _ _ = true; rfl)
    | (show apartB _ _ = true; rfl)
    | exact ([] : List Nat)
    | exact (1000000 : Nat)
    | (apply aw_cond_t
       · conv => lhs; whnf; arg 1; arg 1; whnf)
    | (apply aw_cond_f
       · conv => lhs; whnf; arg 1; arg 1; whnf)
    | (refine aw_cond (by conv => lhs; whnf) ?_ ?_ <;> intro hb)
    | refine aw_ret ?_
    | refine aw_exit ?_
    | refine k_seq_exit ?_
    | refine k_seq_ret ?_
    | refine k_block_ret ?_
    | refine k_block_hit rfl ?_
    | refine k_block_miss rfl ?_
    | refine k_scope_exit ?_
    | refine k_scope_ret ?_
    | refine k_loop_exit ?_
    | refine k_loop_ret ?_
    | refine k_end ?_
    | refine k_end_ret ?_
    | (refine ⟨_, by conv => lhs; whnf; arg 2; whnf, ?_⟩; conv => rhs; whnf)
    | exact trivial
    | intro hg)
        rotate_right 1
        · have g : (d.f 4).l.length ≤ i := ge_b (by assumption)
          have e := hdone g
          subst e
          refine aw_sub (Sub.live (cs := [(1, .bx 1 0), (2, .bx 2 0), (3, .bx 3 0), (5, .c (.int .i64 0))]) (R := [(1, .box 39 (cellsV Tryd.prog 12 39 d)), (2, .box 39 zeroCv), (3, .box 39 [.c (.int .i64 (kdS d)), .c (.int .i64 (d.f 1).n), .c (.string (d.f 2).s), nilV, .own 33 9 (keyS d (d.f 4).l.length)]), (33, .tok 9 (keyS d (d.f 4).l.length).length)]) ⟨rfl, rfl, rfl, rfl, trivial⟩ ⟨rfl, rfl, rfl, rfl, trivial⟩) ?_
          refine aw_sub (Sub.ownF (m := 3) (q := 52) (i := 3) (e := 39) rfl (by decide) rfl rfl rfl) ?_
          refine aw_loop (fun j st => ∃ i, i + j = (d.f 3).l.length ∧ Sub (cx EN5 Tryd.prog s w he) st (HsI k d i)) (d.f 3).l.length ⟨0, by omega, ?_⟩ ?_
          · exact Sub.live ⟨rfl, rfl, rfl, rfl, trivial⟩ ⟨rfl, rfl, rfl, rfl, rfl, trivial⟩
          · rintro j st ⟨i, hij, hs2⟩
            refine aw_sub hs2 ?_
            clear hs2
            have hdone : (d.f 3).l.length ≤ i → i = (d.f 3).l.length := fun h => by omega
            have ih2 := fun (h : decide ((i : Int) < ((d.f 3).l.length : Int)) = true) => ih i (lt_b h)
            repeat' (first
    | (apply s_lit [strsJ k (gD (d.f 3).l i)] rfl rfl
       · conv => lhs; whnf
       · first | (conv => lhs; whnf; arg 1; whnf)
       · rfl
       · rfl
       · repeat' (first | exact trivial | apply And.intro | rfl))
    | refine aw_seq ?_
    | refine aw_region ?_
    | refine awo_nil ?_
    | refine k_seq ?_
    | refine k_block ?_
    | refine k_scope ?_
    | refine aw_block ?_
    | refine aw_skip ?_
    | refine aw_label ?_
    | refine aw_scope ?_
    | (apply s_val rfl
       · conv => lhs; whnf
       · conv => lhs; whnf; arg 2; whnf)
    | (apply s_call rfl
       · conv => lhs; whnf
       · conv => lhs; whnf
       · first | exact ih2 (by assumption))
    | (apply s_box rfl rfl rfl rfl
       · conv => lhs; whnf; arg 1; whnf
       · rfl)
    | (apply s_alloc rfl rfl rfl rfl
       · conv => lhs; whnf; arg 1; whnf
       · rfl)
    | (apply s_store rfl rfl rfl
       · conv => lhs; whnf
       · conv => lhs; whnf; arg 1; whnf
       · conv => lhs; whnf; arg 1; whnf
       · exact ⟨by kernel_rfl, by kernel_rfl⟩
       · rfl)
    | (apply s_app rfl rfl
       · conv => lhs; whnf
       · first | (conv => lhs; whnf; arg 1; whnf)
       · first | exact fun _ => rfl | (intro _; kernel_rfl)
       · conv => lhs; whnf
       · conv => lhs; whnf; arg 1; whnf
       · conv => lhs; whnf)
    | (apply s_app_nil rfl rfl rfl rfl
       · first | (conv => lhs; whnf; arg 1; whnf)
       · first | exact fun _ => rfl | (intro _; kernel_rfl)
       · conv => lhs; whnf
       · conv => lhs; whnf)
    | (apply s_lit0 rfl rfl
       · conv => lhs; whnf
       · first | (conv => lhs; whnf; arg 1; whnf))
    | (apply s_lit1 rfl rfl
       · conv => lhs; whnf
       · first | (conv => lhs; whnf; arg 1; whnf)
       · conv => lhs; whnf; arg 1; whnf
       · rfl
       · rfl)
    | (apply s_onlit rfl rfl
       · conv => lhs; whnf
       · first | (conv => lhs; whnf; arg 1; whnf)
       · first | exact fun _ => rfl | (intro _; kernel_rfl)
       · conv => lhs; whnf
       · conv => lhs; whnf)
    | (apply aw_draw (by kernel_rfl) (by kernel_rfl))
    | apply y_nil
    | (apply y_val rfl
       · conv => lhs; whnf
       · conv => lhs; whnf; arg 2; whnf)
    | (apply y_call rfl
       · conv => lhs; whnf
       · conv => lhs; whnf
       · first | exact ih2 (by assumption))
    | (apply y_store rfl rfl rfl
       · conv => lhs; whnf
       · rfl
       · rfl
       · conv => lhs; whnf; arg 1; whnf
       · conv => lhs; whnf; arg 1; whnf
       · exact ⟨by kernel_rfl, by kernel_rfl⟩
       · rfl)
    | (apply y_app rfl rfl
       · conv => lhs; whnf
       · first | (conv => lhs; whnf; arg 1; whnf)
       · first | exact fun _ => rfl | (intro _; kernel_rfl)
       · conv => lhs; whnf
       · rfl
       · rfl
       · conv => lhs; whnf; arg 1; whnf
       · conv => lhs; whnf)
    | (apply y_lit0 rfl rfl
       · conv => lhs; whnf
       · first | (conv => lhs; whnf; arg 1; whnf))
    | (apply y_lit1 rfl rfl
       · conv => lhs; whnf
       · first | (conv => lhs; whnf; arg 1; whnf)
       · conv => lhs; whnf; arg 1; whnf
       · rfl
       · rfl)
    | (apply y_onlit rfl rfl
       · conv => lhs; whnf
       · first | (conv => lhs; whnf; arg 1; whnf)
       · first | exact fun _ => rfl | (intro _; kernel_rfl)
       · conv => lhs; whnf
       · conv => lhs; whnf)
    | exact apartB_none
    | exact apartB_nil
    | exact all_nil
    | (show List.all _ _ = true; rfl)
    | (show apartB _ _ = true; rfl)
    | exact ([] : List Nat)
    | exact (1000000 : Nat)
    | (apply aw_cond_t
       · conv => lhs; whnf; arg 1; arg 1; whnf)
    | (apply aw_cond_f
       · conv => lhs; whnf; arg 1; arg 1; whnf)
    | (refine aw_cond (by conv => lhs; whnf) ?_ ?_ <;> intro hb)
    | refine aw_ret ?_
    | refine aw_exit ?_
    | refine k_seq_exit ?_
    | refine k_seq_ret ?_
    | refine k_block_ret ?_
    | refine k_block_hit rfl ?_
    | refine k_block_miss rfl ?_
    | refine k_scope_exit ?_
    | refine k_scope_ret ?_
    | refine k_loop_exit ?_
    | refine k_loop_ret ?_
    | refine k_end ?_
    | refine k_end_ret ?_
    | (refine ⟨_, by conv => lhs; whnf; arg 2; whnf, ?_⟩; conv => rhs; whnf)
    | exact trivial
    | intro hg)
            all_goals
              first
                | (have g : i < (d.f 3).l.length := lt_b (by assumption)
                   first
                     | exact i64_in2 (by omega)
                     | exact ixn_ok g
                     | (refine ⟨by simp, by rw [itS_len]; simp only [List.length_cons, List.length_nil, maxLen]; omega, ?_⟩
                        rw [itS_len]
                        show (i + 1) * 80 ≤ 140737488355328
                        omega)
                     | (refine k_loop_next (j' := j - 1) (by omega) ⟨i + 1, by omega, Sub.live ⟨rfl, rfl, rfl, rfl, trivial⟩ ⟨rfl, rfl, ?_, rfl, ?_, trivial⟩⟩
                        · rw [itS_go]; rfl
                        · rw [itS_go, List.length_append]; rfl))
                | (have g : (d.f 3).l.length ≤ i := ge_b (by assumption)
                   have e := hdone g
                   subst e
                   rfl)
        all_goals
          have g : i < (d.f 4).l.length := lt_b (by assumption)
          first
            | exact i64_in2 (by omega)
            | exact ixn_ok g
            | (refine ⟨by simp, by rw [keyS_len]; simp only [List.length_cons, List.length_nil, maxLen]; omega, ?_⟩
               rw [keyS_len]
               show (i + 1) * 16 ≤ 140737488355328
               omega)
            | (refine k_loop_next (j' := j - 1) (by omega) ⟨i + 1, by omega, Sub.live ⟨rfl, rfl, rfl, rfl, trivial⟩ ⟨rfl, rfl, ?_, ?_, trivial⟩⟩
               · rw [keyS_go]; rfl
               · rw [keyS_go, List.length_append]; rfl)
end Go.Proofs.YtjhjleanihgopaaDoor
namespace Go.Proofs.YtjhjleanihgopaaDoor
open Go.ChangeShapes Go.WideShapes Go.ChangeAt Go.RowKit
attribute [local irreducible] wpList Calls Code.wp
set_option maxRecDepth 100000 in
theorem relL1 {P : Program} {s : Sg} {w : World} {v : V} {u : Value} (h : rel P s w v u) : relL P s w [v] (#[u] : Array Value).toList := by
  show relL P s w [v] [u]
  rw [relL]; exact ⟨h, by simp [relL]⟩
end Go.Proofs.YtjhjleanihgopaaDoor
namespace Go.Proofs.YtjhjleanihgopaaDoor
open Go.RowKit
attribute [local irreducible] wpList Calls Code.wp AW AWo OpOk seqK blockK scopeK loopK endK endKB AC ACB absLex absLexG Yld YldG Sub
set_option maxRecDepth 100000 in
theorem retLarge (k : Nat) (d : D) (h : Dp k d) (hw : wtJ k d ≤ 1000000000) (hl : 3000 < wtJ k d) : AC EN5 Tryd.prog 7 [.agg (cellsV Tryd.prog 12 39 d)] (.c (.bool true)) := by
  have h1 := exam3_ac
  have h2 := large3_ac k d h hw
  rw [decide_eq_true hl] at h2
  refine ac_enter 46 Tryd.func7 rfl rfl rfl rfl ?_
  intro w0 w he
  repeat' (first
    | (apply s_wanted_pick_t rfl rfl rfl
       · conv => lhs; whnf
       · first | rfl | assumption
       · conv => lhs; whnf
       · first | exact bT1 (by assumption) | exact bT2 (by assumption) | rfl)
    | (apply s_wpick_t rfl rfl rfl
       · conv => lhs; whnf
       · first | rfl | assumption
       · conv => lhs; whnf
       · first | exact bT1 (by assumption) | exact bT2 (by assumption) | rfl)
    | (apply s_wanted_pick_f rfl rfl rfl
       · conv => lhs; whnf
       · first | rfl | assumption
       · conv => lhs; whnf
       · first | exact bF1 (by assumption) | exact bF2 (by assumption) | rfl)
    | (apply s_wpick_f rfl rfl rfl
       · conv => lhs; whnf
       · first | rfl | assumption
       · conv => lhs; whnf
       · first | exact bF1 (by assumption) | exact bF2 (by assumption) | rfl)
    | refine aw_seq ?_
    | refine aw_region ?_
    | refine awo_nil ?_
    | refine k_seq ?_
    | refine k_block ?_
    | refine k_scope ?_
    | refine aw_block ?_
    | refine aw_skip ?_
    | refine aw_label ?_
    | refine aw_scope ?_
    | (apply s_pick_t rfl rfl
       · conv => lhs; whnf
       · conv => lhs; whnf
       · first | exact bT1 (by assumption) | exact bT2 (by assumption))
    | (apply s_pick_f rfl rfl
       · conv => lhs; whnf
       · conv => lhs; whnf
       · first | exact bF1 (by assumption) | exact bF2 (by assumption))
    | (apply s_val rfl
       · conv => lhs; whnf
       · conv => lhs; whnf; arg 2; whnf)
    | (apply s_call rfl
       · conv => lhs; whnf
       · conv => lhs; whnf
       · first | exact h1 | exact h2)
    | (apply s_box rfl rfl rfl rfl
       · conv => lhs; whnf; arg 1; whnf
       · rfl)
    | (apply s_alloc rfl rfl rfl rfl
       · conv => lhs; whnf; arg 1; whnf
       · rfl)
    | (apply s_store rfl rfl rfl
       · conv => lhs; whnf
       · conv => lhs; whnf; arg 1; whnf
       · conv => lhs; whnf; arg 1; whnf
       · exact ⟨by kernel_rfl, by kernel_rfl⟩
       · rfl)
    | (apply s_wanted_val rfl
       · conv => lhs; whnf
       · conv => lhs; whnf
       · first | rfl | assumption
       · conv => lhs; whnf; arg 2; whnf)
    | (apply s_wanted_call rfl
       · conv => lhs; whnf
       · conv => lhs; whnf
       · first | rfl | assumption
       · conv => lhs; whnf
       · first | exact h1 | exact h2)
    | (apply s_skipU rfl
       · conv => lhs; whnf
       · conv => lhs; whnf
       · first | rfl | assumption)
    | (apply s_dead rfl
       · conv => lhs; whnf
       · rfl
       · rfl)
    | (apply s_guard_valU rfl
       · conv => lhs; whnf
       · conv => lhs; whnf
       · conv => lhs; whnf; arg 2; whnf)
    | (apply s_guard_callU rfl
       · conv => lhs; whnf
       · conv => lhs; whnf
       · conv => lhs; whnf
       · first | exact h1 | exact h2)
    | (apply s_guard_val rfl
       · conv => lhs; whnf
       · conv => lhs; whnf
       · conv => lhs; whnf; arg 2; whnf)
    | (apply s_guard_call rfl
       · conv => lhs; whnf
       · conv => lhs; whnf
       · conv => lhs; whnf
       · first | exact h1 | exact h2)
    | (apply aw_draw (by kernel_rfl) (by kernel_rfl))
    | apply y_nil
    | (apply y_pick_t rfl rfl
       · conv => lhs; whnf
       · conv => lhs; whnf
       · first | exact bT1 (by assumption) | exact bT2 (by assumption))
    | (apply y_pick_f rfl rfl
       · conv => lhs; whnf
       · conv => lhs; whnf
       · first | exact bF1 (by assumption) | exact bF2 (by assumption))
    | (apply y_val rfl
       · conv => lhs; whnf
       · conv => lhs; whnf; arg 2; whnf)
    | (apply y_call rfl
       · conv => lhs; whnf
       · conv => lhs; whnf
       · first | exact h1 | exact h2)
    | (apply y_store rfl rfl rfl
       · conv => lhs; whnf
       · rfl
       · rfl
       · conv => lhs; whnf; arg 1; whnf
       · conv => lhs; whnf; arg 1; whnf
       · exact ⟨by kernel_rfl, by kernel_rfl⟩
       · rfl)
    | (apply y_wanted_val rfl
       · conv => lhs; whnf
       · conv => lhs; whnf
       · first | rfl | assumption
       · conv => lhs; whnf; arg 2; whnf)
    | (apply y_wanted_call rfl
       · conv => lhs; whnf
       · conv => lhs; whnf
       · first | rfl | assumption
       · conv => lhs; whnf
       · first | exact h1 | exact h2)
    | (apply y_skip rfl
       · conv => lhs; whnf
       · conv => lhs; whnf
       · first | rfl | assumption)
    | (apply y_guard_val rfl
       · conv => lhs; whnf
       · conv => lhs; whnf
       · conv => lhs; whnf; arg 2; whnf)
    | (apply y_guard_call rfl
       · conv => lhs; whnf
       · conv => lhs; whnf
       · conv => lhs; whnf
       · first | exact h1 | exact h2)
    | exact apartB_none
    | exact apartB_nil
    | exact all_nil
    | (show List.all _ _ = true; rfl)
    | (show apartB _ _ = true; rfl)
    | exact ([] : List Nat)
    | exact (1000000 : Nat)
    | (apply aw_cond_t
       · conv => lhs; whnf; arg 1; arg 1; whnf)
    | (apply aw_cond_f
       · conv => lhs; whnf; arg 1; arg 1; whnf)
    | (refine aw_cond (by conv => lhs; whnf) ?_ ?_ <;> intro hb)
    | refine aw_ret ?_
    | refine aw_exit ?_
    | refine k_seq_exit ?_
    | refine k_seq_ret ?_
    | refine k_block_ret ?_
    | refine k_block_hit rfl ?_
    | refine k_block_miss rfl ?_
    | refine k_scope_exit ?_
    | refine k_scope_ret ?_
    | refine k_loop_exit ?_
    | refine k_loop_ret ?_
    | refine k_end ?_
    | refine k_end_ret ?_
    | (refine ⟨_, by conv => lhs; whnf; arg 2; whnf, ?_⟩; conv => rhs; whnf)
    | exact trivial
    | intro hg)
set_option maxRecDepth 100000 in
theorem retWrong (k : Nat) (d : D) (h : Dp k d) (hw : wtJ k d ≤ 1000000000) (hl : ¬ 3000 < wtJ k d) (hr : rightB k d = false) : AC EN5 Tryd.prog 7 [.agg (cellsV Tryd.prog 12 39 d)] (.c (.bool true)) := by
  have h1 := exam3_ac
  have h2 := large3_ac k d h hw
  rw [decide_eq_false hl] at h2
  have h3 := right_ac k d h hw
  rw [hr] at h3
  refine ac_enter 46 Tryd.func7 rfl rfl rfl rfl ?_
  intro w0 w he
  repeat' (first
    | (apply s_wanted_pick_t rfl rfl rfl
       · conv => lhs; whnf
       · first | rfl | assumption
       · conv => lhs; whnf
       · first | exact bT1 (by assumption) | exact bT2 (by assumption) | rfl)
    | (apply s_wpick_t rfl rfl rfl
       · conv => lhs; whnf
       · first | rfl | assumption
       · conv => lhs; whnf
       · first | exact bT1 (by assumption) | exact bT2 (by assumption) | rfl)
    | (apply s_wanted_pick_f rfl rfl rfl
       · conv => lhs; whnf
       · first | rfl | assumption
       · conv => lhs; whnf
       · first | exact bF1 (by assumption) | exact bF2 (by assumption) | rfl)
    | (apply s_wpick_f rfl rfl rfl
       · conv => lhs; whnf
       · first | rfl | assumption
       · conv => lhs; whnf
       · first | exact bF1 (by assumption) | exact bF2 (by assumption) | rfl)
    | refine aw_seq ?_
    | refine aw_region ?_
    | refine awo_nil ?_
    | refine k_seq ?_
    | refine k_block ?_
    | refine k_scope ?_
    | refine aw_block ?_
    | refine aw_skip ?_
    | refine aw_label ?_
    | refine aw_scope ?_
    | (apply s_pick_t rfl rfl
       · conv => lhs; whnf
       · conv => lhs; whnf
       · first | exact bT1 (by assumption) | exact bT2 (by assumption))
    | (apply s_pick_f rfl rfl
       · conv => lhs; whnf
       · conv => lhs; whnf
       · first | exact bF1 (by assumption) | exact bF2 (by assumption))
    | (apply s_val rfl
       · conv => lhs; whnf
       · conv => lhs; whnf; arg 2; whnf)
    | (apply s_call rfl
       · conv => lhs; whnf
       · conv => lhs; whnf
       · first | exact h1 | exact h2 | exact h3)
    | (apply s_box rfl rfl rfl rfl
       · conv => lhs; whnf; arg 1; whnf
       · rfl)
    | (apply s_alloc rfl rfl rfl rfl
       · conv => lhs; whnf; arg 1; whnf
       · rfl)
    | (apply s_store rfl rfl rfl
       · conv => lhs; whnf
       · conv => lhs; whnf; arg 1; whnf
       · conv => lhs; whnf; arg 1; whnf
       · exact ⟨by kernel_rfl, by kernel_rfl⟩
       · rfl)
    | (apply s_wanted_val rfl
       · conv => lhs; whnf
       · conv => lhs; whnf
       · first | rfl | assumption
       · conv => lhs; whnf; arg 2; whnf)
    | (apply s_wanted_call rfl
       · conv => lhs; whnf
       · conv => lhs; whnf
       · first | rfl | assumption
       · conv => lhs; whnf
       · first | exact h1 | exact h2 | exact h3)
    | (apply s_skipU rfl
       · conv => lhs; whnf
       · conv => lhs; whnf
       · first | rfl | assumption)
    | (apply s_dead rfl
       · conv => lhs; whnf
       · rfl
       · rfl)
    | (apply s_guard_valU rfl
       · conv => lhs; whnf
       · conv => lhs; whnf
       · conv => lhs; whnf; arg 2; whnf)
    | (apply s_guard_callU rfl
       · conv => lhs; whnf
       · conv => lhs; whnf
       · conv => lhs; whnf
       · first | exact h1 | exact h2 | exact h3)
    | (apply s_guard_val rfl
       · conv => lhs; whnf
       · conv => lhs; whnf
       · conv => lhs; whnf; arg 2; whnf)
    | (apply s_guard_call rfl
       · conv => lhs; whnf
       · conv => lhs; whnf
       · conv => lhs; whnf
       · first | exact h1 | exact h2 | exact h3)
    | (apply aw_draw (by kernel_rfl) (by kernel_rfl))
    | apply y_nil
    | (apply y_pick_t rfl rfl
       · conv => lhs; whnf
       · conv => lhs; whnf
       · first | exact bT1 (by assumption) | exact bT2 (by assumption))
    | (apply y_pick_f rfl rfl
       · conv => lhs; whnf
       · conv => lhs; whnf
       · first | exact bF1 (by assumption) | exact bF2 (by assumption))
    | (apply y_val rfl
       · conv => lhs; whnf
       · conv => lhs; whnf; arg 2; whnf)
    | (apply y_call rfl
       · conv => lhs; whnf
       · conv => lhs; whnf
       · first | exact h1 | exact h2 | exact h3)
    | (apply y_store rfl rfl rfl
       · conv => lhs; whnf
       · rfl
       · rfl
       · conv => lhs; whnf; arg 1; whnf
       · conv => lhs; whnf; arg 1; whnf
       · exact ⟨by kernel_rfl, by kernel_rfl⟩
       · rfl)
    | (apply y_wanted_val rfl
       · conv => lhs; whnf
       · conv => lhs; whnf
       · first | rfl | assumption
       · conv => lhs; whnf; arg 2; whnf)
    | (apply y_wanted_call rfl
       · conv => lhs; whnf
       · conv => lhs; whnf
       · first | rfl | assumption
       · conv => lhs; whnf
       · first | exact h1 | exact h2 | exact h3)
    | (apply y_skip rfl
       · conv => lhs; whnf
       · conv => lhs; whnf
       · first | rfl | assumption)
    | (apply y_guard_val rfl
       · conv => lhs; whnf
       · conv => lhs; whnf
       · conv => lhs; whnf; arg 2; whnf)
    | (apply y_guard_call rfl
       · conv => lhs; whnf
       · conv => lhs; whnf
       · conv => lhs; whnf
       · first | exact h1 | exact h2 | exact h3)
    | exact apartB_none
    | exact apartB_nil
    | exact all_nil
    | (show List.all _ _ = true; rfl)
    | (show apartB _ _ = true; rfl)
    | exact ([] : List Nat)
    | exact (1000000 : Nat)
    | (apply aw_cond_t
       · conv => lhs; whnf; arg 1; arg 1; whnf)
    | (apply aw_cond_f
       · conv => lhs; whnf; arg 1; arg 1; whnf)
    | (refine aw_cond (by conv => lhs; whnf) ?_ ?_ <;> intro hb)
    | refine aw_ret ?_
    | refine aw_exit ?_
    | refine k_seq_exit ?_
    | refine k_seq_ret ?_
    | refine k_block_ret ?_
    | refine k_block_hit rfl ?_
    | refine k_block_miss rfl ?_
    | refine k_scope_exit ?_
    | refine k_scope_ret ?_
    | refine k_loop_exit ?_
    | refine k_loop_ret ?_
    | refine k_end ?_
    | refine k_end_ret ?_
    | (refine ⟨_, by conv => lhs; whnf; arg 2; whnf, ?_⟩; conv => rhs; whnf)
    | exact trivial
    | intro hg)
set_option maxRecDepth 100000 in
theorem retGood (k : Nat) (d : D) (h : Dp k d) (hi : intsJ k d) (hl : ¬ 3000 < wtJ k d) (hr : rightB k d = true) : AC EN5 Tryd.prog 7 [.agg (cellsV Tryd.prog 12 39 d)] (.c (.bool true)) := by
  have h1 := exam3_ac
  have h2 := large3_ac k d h (by omega)
  rw [decide_eq_false hl] at h2
  have h3 := right_ac k d h (by omega)
  rw [hr] at h3
  obtain ⟨hf, hev, hsz⟩ := right_24 h hr
  have hevk : everyB k d = true := by rw [← hf.every]; exact hev
  have h4 := print_ac k d h hi (by omega)
  unfold printV at h4
  rw [if_pos (every_ok hevk)] at h4
  have hlen : (wrJ k d).length ≤ 100000 := by
    have := prP_len h hi
    rw [(prP_ok k d).2 (every_ok hevk)] at this
    omega
  have hp := parse_write hev (hf.ints hi) hsz
  rw [hf.wr, hf.strs] at hp
  have h5 := parseP_ac (bs (wrJ k d)) (by rw [bs_size]; exact hlen)
  rw [show (bs (wrJ k d)).data.toList = wrJ k d from rfl, hp] at h5
  have h6 := strings_ac k d h (by omega)
  obtain ⟨g, -, gw⟩ := parse_got hp
  have h7 := equal_ac 24 (strsJ k d) (every_dp g.every) (by omega)
  generalize strsJ k d = e at h5 h6 h7
  refine ac_enter 46 Tryd.func7 rfl rfl rfl rfl ?_
  intro w0 w he
  repeat' (first
    | (apply s_wanted_pick_t rfl rfl rfl
       · conv => lhs; whnf
       · first | rfl | assumption
       · conv => lhs; whnf
       · first | exact bT1 (by assumption) | exact bT2 (by assumption) | rfl)
    | (apply s_wpick_t rfl rfl rfl
       · conv => lhs; whnf
       · first | rfl | assumption
       · conv => lhs; whnf
       · first | exact bT1 (by assumption) | exact bT2 (by assumption) | rfl)
    | (apply s_wanted_pick_f rfl rfl rfl
       · conv => lhs; whnf
       · first | rfl | assumption
       · conv => lhs; whnf
       · first | exact bF1 (by assumption) | exact bF2 (by assumption) | rfl)
    | (apply s_wpick_f rfl rfl rfl
       · conv => lhs; whnf
       · first | rfl | assumption
       · conv => lhs; whnf
       · first | exact bF1 (by assumption) | exact bF2 (by assumption) | rfl)
    | refine aw_seq ?_
    | refine aw_region ?_
    | refine awo_nil ?_
    | refine k_seq ?_
    | refine k_block ?_
    | refine k_scope ?_
    | refine aw_block ?_
    | refine aw_skip ?_
    | refine aw_label ?_
    | refine aw_scope ?_
    | (apply s_pick_t rfl rfl
       · conv => lhs; whnf
       · conv => lhs; whnf
       · first | exact bT1 (by assumption) | exact bT2 (by assumption))
    | (apply s_pick_f rfl rfl
       · conv => lhs; whnf
       · conv => lhs; whnf
       · first | exact bF1 (by assumption) | exact bF2 (by assumption))
    | (apply s_val rfl
       · conv => lhs; whnf
       · conv => lhs; whnf; arg 2; whnf)
    | (apply s_call rfl
       · conv => lhs; whnf
       · conv => lhs; whnf
       · first | exact h1 | exact h2 | exact h3 | exact h4 | exact h5 | exact h6 | exact h7)
    | (apply s_box rfl rfl rfl rfl
       · conv => lhs; whnf; arg 1; whnf
       · rfl)
    | (apply s_alloc rfl rfl rfl rfl
       · conv => lhs; whnf; arg 1; whnf
       · rfl)
    | (apply s_store rfl rfl rfl
       · conv => lhs; whnf
       · conv => lhs; whnf; arg 1; whnf
       · conv => lhs; whnf; arg 1; whnf
       · exact ⟨by kernel_rfl, by kernel_rfl⟩
       · rfl)
    | (apply s_wanted_val rfl
       · conv => lhs; whnf
       · conv => lhs; whnf
       · first | rfl | assumption
       · conv => lhs; whnf; arg 2; whnf)
    | (apply s_wanted_call rfl
       · conv => lhs; whnf
       · conv => lhs; whnf
       · first | rfl | assumption
       · conv => lhs; whnf
       · first | exact h1 | exact h2 | exact h3 | exact h4 | exact h5 | exact h6 | exact h7)
    | (apply s_skipU rfl
       · conv => lhs; whnf
       · conv => lhs; whnf
       · first | rfl | assumption)
    | (apply s_dead rfl
       · conv => lhs; whnf
       · rfl
       · rfl)
    | (apply s_guard_valU rfl
       · conv => lhs; whnf
       · conv => lhs; whnf
       · conv => lhs; whnf; arg 2; whnf)
    | (apply s_guard_callU rfl
       · conv => lhs; whnf
       · conv => lhs; whnf
       · conv => lhs; whnf
       · first | exact h1 | exact h2 | exact h3 | exact h4 | exact h5 | exact h6 | exact h7)
    | (apply s_guard_val rfl
       · conv => lhs; whnf
       · conv => lhs; whnf
       · conv => lhs; whnf; arg 2; whnf)
    | (apply s_guard_call rfl
       · conv => lhs; whnf
       · conv => lhs; whnf
       · conv => lhs; whnf
       · first | exact h1 | exact h2 | exact h3 | exact h4 | exact h5 | exact h6 | exact h7)
    | (apply aw_draw (by kernel_rfl) (by kernel_rfl))
    | apply y_nil
    | (apply y_pick_t rfl rfl
       · conv => lhs; whnf
       · conv => lhs; whnf
       · first | exact bT1 (by assumption) | exact bT2 (by assumption))
    | (apply y_pick_f rfl rfl
       · conv => lhs; whnf
       · conv => lhs; whnf
       · first | exact bF1 (by assumption) | exact bF2 (by assumption))
    | (apply y_val rfl
       · conv => lhs; whnf
       · conv => lhs; whnf; arg 2; whnf)
    | (apply y_call rfl
       · conv => lhs; whnf
       · conv => lhs; whnf
       · first | exact h1 | exact h2 | exact h3 | exact h4 | exact h5 | exact h6 | exact h7)
    | (apply y_store rfl rfl rfl
       · conv => lhs; whnf
       · rfl
       · rfl
       · conv => lhs; whnf; arg 1; whnf
       · conv => lhs; whnf; arg 1; whnf
       · exact ⟨by kernel_rfl, by kernel_rfl⟩
       · rfl)
    | (apply y_wanted_val rfl
       · conv => lhs; whnf
       · conv => lhs; whnf
       · first | rfl | assumption
       · conv => lhs; whnf; arg 2; whnf)
    | (apply y_wanted_call rfl
       · conv => lhs; whnf
       · conv => lhs; whnf
       · first | rfl | assumption
       · conv => lhs; whnf
       · first | exact h1 | exact h2 | exact h3 | exact h4 | exact h5 | exact h6 | exact h7)
    | (apply y_skip rfl
       · conv => lhs; whnf
       · conv => lhs; whnf
       · first | rfl | assumption)
    | (apply y_guard_val rfl
       · conv => lhs; whnf
       · conv => lhs; whnf
       · conv => lhs; whnf; arg 2; whnf)
    | (apply y_guard_call rfl
       · conv => lhs; whnf
       · conv => lhs; whnf
       · conv => lhs; whnf
       · first | exact h1 | exact h2 | exact h3 | exact h4 | exact h5 | exact h6 | exact h7)
    | exact apartB_none
    | exact apartB_nil
    | exact all_nil
    | (show List.all _ _ = true; rfl)
    | (show apartB _ _ = true; rfl)
    | exact ([] : List Nat)
    | exact (1000000 : Nat)
    | (apply aw_cond_t
       · conv => lhs; whnf; arg 1; arg 1; whnf)
    | (apply aw_cond_f
       · conv => lhs; whnf; arg 1; arg 1; whnf)
    | (refine aw_cond (by conv => lhs; whnf) ?_ ?_ <;> intro hb)
    | refine aw_ret ?_
    | refine aw_exit ?_
    | refine k_seq_exit ?_
    | refine k_seq_ret ?_
    | refine k_block_ret ?_
    | refine k_block_hit rfl ?_
    | refine k_block_miss rfl ?_
    | refine k_scope_exit ?_
    | refine k_scope_ret ?_
    | refine k_loop_exit ?_
    | refine k_loop_ret ?_
    | refine k_end ?_
    | refine k_end_ret ?_
    | (refine ⟨_, by conv => lhs; whnf; arg 2; whnf, ?_⟩; conv => rhs; whnf)
    | exact trivial
    | intro hg)
  rfl
set_option maxRecDepth 100000 in
theorem law3Returns (k : Nat) (d : D) (h : Dp k d) (hi : intsJ k d) (hw : wtJ k d ≤ 1000000000) : AC EN5 Tryd.prog 7 [.agg (cellsV Tryd.prog 12 39 d)] (.c (.bool true)) := by
  by_cases hl : 3000 < wtJ k d
  · exact retLarge k d h hw hl
  cases hr : rightB k d
  · exact retWrong k d h hw hl hr
  · exact retGood k d h hi hl hr
end Go.Proofs.YtjhjleanihgopaaDoor
namespace Go.Proofs.YtjhjleanihgopaaDoor
open Go.ChangeShapes Go.WideShapes Go.ChangeAt Go.RowKit
attribute [local irreducible] wpList Calls Code.wp
set_option maxRecDepth 100000 in
theorem row3Returns {H : Type} {enc : TypeId × Value → H} {W : World} {v : Value} {base : Nat} {dw : DataW H} {ps : List MemPlace} (hv : Value.okWide Tryd.prog W .any base 39 v) (hd : DataW.Trod enc Tryd.prog W 0 (fun _ => true) true 39 v dw ps) (hb : Rows.uptoBulk dw ≤ 1048576) (he : Env W) :
    Calls Tryd.prog 7 #[v] W fun e W' => e = .returned (.bool true) ∧ Below W.heap.size W W' := by
  obtain ⟨k, d, h1, h2, h3, h4⟩ := val_arg hv hd hb
  exact calls_of_ac5 (law3Returns k d h1 h2 (by omega)) (relL1 h4) he
end Go.Proofs.YtjhjleanihgopaaDoor
