/- Parts of a proof, merged by a program (shake.py). -/
import Derived.Great.BuildSlice
import Derived.Test.YtdklhkdlndlgnaaGreatDoorQ8
set_option linter.unusedVariables false
set_option linter.unusedSimpArgs false
namespace Go.Proofs.YtdklhkdlndlgnaaGreatDoor
open Go.RowKit
attribute [local irreducible] wpList Calls Code.wp
section
variable {P : Program} {s : Sg} {w : World}
theorem relL.split : ∀ {vs vs' : List V} {us : List Value}, relL P s w (vs ++ vs') us → relL P s w vs (us.take vs.length) ∧ relL P s w vs' (us.drop vs.length)
  | [], _, us, h => by simpa [relL] using h
  | v :: vs, vs', [], h => by simp [relL] at h
  | v :: vs, vs', u :: us, h => by
    rw [List.cons_append, relL] at h
    have := relL.split h.2
    simp only [List.length_cons, List.take_succ_cons, List.drop_succ_cons, relL]
    exact ⟨⟨h.1, this.1⟩, this.2⟩
mutual
theorem cellsV_len : ∀ (n : Nat) (t : TypeId) (d : D), layB P n t = true → (cellsV P n t d).length = P.cellsOf t
  | 0, _, _, h => by simp [layB] at h
  | n + 1, t, d, h => by
    unfold layB at h; unfold cellsV
    split at h <;> rename_i hu <;> simp only [hu]
    · simp only [Bool.and_eq_true, beq_iff_eq] at h
      have := fieldsV_len n _ 0 0 d h.2
      omega
    · simpa using (beq_iff_eq.1 h).symm
    · simpa using (beq_iff_eq.1 h).symm
    · simpa using (beq_iff_eq.1 h).symm
    · simpa using (beq_iff_eq.1 h).symm
    · split <;> first | (exfalso; simp_all; done) | simp
    · cases h
theorem fieldsV_len : ∀ (n : Nat) (fs : List Field) (j o : Nat) (d : D), (fs.all fun f => layB P n f.type) = true → o + (fieldsW (cellsV P n) fs j d).length = endOf P fs o
  | n, [], j, o, d, _ => by simp [fieldsW, endOf]
  | n, f :: fs, j, o, d, h => by
    rw [List.all_cons, Bool.and_eq_true] at h
    rw [fieldsW, endOf, List.length_append, cellsV_len n f.type _ h.1, ← fieldsV_len n fs (j + 1) (o + P.cellsOf f.type) d h.2]
    omega
end
mutual
theorem cells_back : ∀ (n : Nat) (t : TypeId) (cs : List Value) (d : D), layB P n t = true → relL P s w (cellsV P n t d) cs → ∃ k, RepF P w s.F k t cs d
  | 0, _, _, _, h, _ => by simp [layB] at h
  | n + 1, t, cs, d, h, hr => by
    have hlen := cellsV_len (P := P) (n + 1) t d h
    unfold layB at h; unfold cellsV at hr hlen
    cases hu : P.underlying t with
    | none => rw [hu] at h; cases h
    | some dd =>
      rw [hu] at h hr hlen
      have one : ∀ {v : V}, relL P s w [v] cs → ∃ u, cs = [u] ∧ rel P s w v u := fun {v} h => by
        match cs, h with
        | [], h => simp [relL] at h
        | [u], h => rw [relL] at h; exact ⟨u, rfl, h.1⟩
        | u :: x :: l, h => simp [relL] at h
      cases dd
      case bool =>
        obtain ⟨u, rfl, h1⟩ := one hr
        rw [rel] at h1; obtain ⟨rfl, -⟩ := h1
        exact ⟨1, by unfold RepF; rw [hu]⟩
      case int q =>
        obtain ⟨u, rfl, h1⟩ := one hr
        rw [rel] at h1; obtain ⟨rfl, h2⟩ := h1
        exact ⟨1, by unfold RepF; rw [hu]; exact ⟨rfl, h2⟩⟩
      case string =>
        obtain ⟨u, rfl, h1⟩ := one hr
        rw [rel] at h1; obtain ⟨rfl, h2⟩ := h1
        exact ⟨1, by unfold RepF; rw [hu]; exact ⟨rfl, h2⟩⟩
      case slice e =>
        obtain ⟨u, rfl, h1⟩ := one hr
        rw [rel] at h1
        obtain ⟨k, A, c, rfl, h2, h3, h4, h5⟩ := h1
        exact ⟨k + 1, by unfold RepF; rw [hu]; exact ⟨A, c, rfl, h2, h3, h4, h5⟩⟩
      case struct fs =>
        simp only [Bool.and_eq_true, beq_iff_eq] at h
        obtain ⟨⟨h1, h2⟩, h3⟩ := h
        obtain ⟨k, hk⟩ := fields_back n fs.toList 0 0 cs d (by simpa using hr) h1 h3
        refine ⟨k + 1, ?_⟩
        unfold RepF; rw [hu]
        refine ⟨by rw [← hr.length]; exact hlen, fun j f hj => ?_⟩
        have := hk j f (by simpa using hj)
        rwa [Nat.zero_add] at this
      all_goals exact ⟨1, by unfold RepF; rw [hu]; trivial⟩
theorem fields_back : ∀ (n : Nat) (fs : List Field) (j o : Nat) (cs : List Value) (d : D), relL P s w (fieldsW (cellsV P n) fs j d) (cs.drop o) → laidB P fs o = true → (fs.all fun f => layB P n f.type) = true →
    ∃ k, ∀ i f, fs[i]? = some f → RepF P w s.F k f.type ((cs.drop f.offset).take (P.cellsOf f.type)) (d.f (j + i))
  | n, [], j, o, cs, d, _, _, _ => ⟨0, fun i f h => by simp at h⟩
  | n, f :: fs, j, o, cs, d, hr, hl, ha => by
    simp only [laidB, Bool.and_eq_true, beq_iff_eq] at hl
    rw [List.all_cons, Bool.and_eq_true] at ha
    rw [fieldsW] at hr
    obtain ⟨r1, r2⟩ := hr.split
    rw [cellsV_len n f.type _ ha.1] at r1 r2
    obtain ⟨k1, hk1⟩ := cells_back n f.type _ _ ha.1 r1
    rw [List.drop_drop] at r2
    obtain ⟨k2, hk2⟩ := fields_back n fs (j + 1) (o + P.cellsOf f.type) cs d r2 hl.2 ha.2
    refine ⟨k1 + k2, fun i g hi => ?_⟩
    cases i with
    | zero =>
      simp at hi; subst hi
      rw [hl.1]
      exact hk1.le (by omega)
    | succ i =>
      have := hk2 i g (by simpa using hi)
      rw [show j + (i + 1) = j + 1 + i by omega]
      exact this.le (by omega)
end
theorem common {n : Nat} {p : Nat → Nat → Prop} (hm : ∀ i k m, k ≤ m → p i k → p i m) : (∀ i, i < n → ∃ k, p i k) → ∃ k, ∀ i, i < n → p i k := by
  induction n with
  | zero => exact fun _ => ⟨0, fun i hi => by omega⟩
  | succ n ih =>
    intro h
    obtain ⟨k1, h1⟩ := ih fun i hi => h i (by omega)
    obtain ⟨k2, h2⟩ := h n (by omega)
    refine ⟨k1 + k2, fun i hi => ?_⟩
    by_cases e : i = n
    · subst e; exact hm i k2 _ (by omega) h2
    · exact hm i k1 _ (by omega) (h1 i (by omega))
/-- cells in a block that no longer turns read as a slice -/
theorem slice_of_cells {F : Nat → Nat → Prop} {e : TypeId} {g : Nat} {l : List D} {c : Nat} (hc : l.length ≤ c) (hm : c ≤ maxLen)
    (h : ∀ i, i < l.length → ∃ ys, ys.length = P.cellsOf e ∧ (∀ j u, ys[j]? = some u → w.cell? ⟨g, i * P.cellsOf e + j, none⟩ = some u ∧ F g (i * P.cellsOf e + j)) ∧ ∃ k, RepF P w F k e ys (gD l i)) :
    SlV P w F e l (.slice (some ⟨g, 0, none⟩) l.length c) := by
  obtain ⟨k, hk⟩ := common (n := l.length) (p := fun i k => ∃ ys, ys.length = P.cellsOf e ∧ (∀ j u, ys[j]? = some u → w.cell? ⟨g, i * P.cellsOf e + j, none⟩ = some u ∧ F g (i * P.cellsOf e + j)) ∧ RepF P w F k e ys (gD l i))
    (fun i k m hkm hh => by obtain ⟨ys, h1, h2, h3⟩ := hh; exact ⟨ys, h1, h2, h3.le hkm⟩) (fun i hi => by
      obtain ⟨ys, h1, h2, k, h3⟩ := h i hi
      exact ⟨k, ys, h1, h2, h3⟩)
  refine ⟨k, _, c, rfl, hc, hm, (fun h => by cases h), fun hl _ => ⟨g, 0, rfl, fun i hi => ?_⟩⟩
  obtain ⟨ys, h1, h2, h3⟩ := hk i hi
  exact ⟨ys, h1, fun j u hu => by rw [Nat.zero_add]; exact h2 j u hu, h3⟩
/-- the elements of a slice that is read, cell by cell -/
theorem slice_cells {F : Nat → Nat → Prop} {e : TypeId} {l : List D} {u : Value} (h : SlV P w F e l u) (hz : 0 < P.cellsOf e) (hl : 0 < l.length) :
    ∃ b off c, u = .slice (some ⟨b, off, none⟩) l.length c ∧ l.length ≤ c ∧ ∃ xs : List Value, xs.length = l.length * P.cellsOf e ∧ (∀ j x, xs[j]? = some x → w.cell? ⟨b, off + j, none⟩ = some x ∧ F b (off + j)) ∧
      ∃ k, ∀ i, i < l.length → RepF P w F k e ((xs.drop (i * P.cellsOf e)).take (P.cellsOf e)) (gD l i) := by
  obtain ⟨k, A, c, rfl, h2, h3, h4, h5⟩ := h
  obtain ⟨b, off, rfl, hat⟩ := h5 hl hz
  refine ⟨b, off, c, rfl, h2, ?_⟩
  have cell : ∀ j, j < l.length * P.cellsOf e → ∃ x, w.cell? ⟨b, off + j, none⟩ = some x ∧ F b (off + j) := fun j hj => by
    obtain ⟨ys, y1, y2, _⟩ := hat (j / P.cellsOf e) (Nat.div_lt_of_lt_mul (by rw [Nat.mul_comm]; exact hj))
    have hlt : j % P.cellsOf e < ys.length := by rw [y1]; exact Nat.mod_lt _ hz
    have := y2 (j % P.cellsOf e) _ (List.getElem?_eq_getElem hlt)
    rw [Nat.add_assoc, Nat.mul_comm, Nat.div_add_mod] at this
    exact ⟨_, this⟩
  obtain ⟨f, hf⟩ := Deep.choose_lt cell
  have hget : ∀ j x, ((List.range (l.length * P.cellsOf e)).map f)[j]? = some x → j < l.length * P.cellsOf e ∧ x = f j := fun j x hx => by
    rw [List.getElem?_map, Option.map_eq_some_iff] at hx
    obtain ⟨i, hi, rfl⟩ := hx
    obtain ⟨hlt, he⟩ := List.getElem?_eq_some_iff.1 hi
    simp at hlt he
    subst he; exact ⟨hlt, rfl⟩
  refine ⟨(List.range (l.length * P.cellsOf e)).map f, by simp, fun j x hx => ?_, k, fun i hi => ?_⟩
  · obtain ⟨hlt, rfl⟩ := hget j x hx
    exact hf j hlt
  · obtain ⟨ys, y1, y2, y3⟩ := hat i hi
    have e : (((List.range (l.length * P.cellsOf e)).map f).drop (i * P.cellsOf e)).take (P.cellsOf e) = ys := by
      apply List.ext_getElem?
      intro j
      rw [List.getElem?_take]
      split
      · rename_i hj
        have hb : i * P.cellsOf e + j < l.length * P.cellsOf e := by
          have h1 : (i + 1) * P.cellsOf e ≤ l.length * P.cellsOf e := Nat.mul_le_mul_right _ hi
          rw [Nat.add_mul] at h1; omega
        have hy : j < ys.length := by omega
        rw [List.getElem?_drop, List.getElem?_map, List.getElem?_range hb, Option.map_some, List.getElem?_eq_getElem hy]
        have h1 := (hf _ hb).1
        have h2 := (y2 j _ (List.getElem?_eq_getElem hy)).1
        rw [← Nat.add_assoc] at h1
        rw [h1] at h2
        exact h2
      · rw [List.getElem?_eq_none]; omega
    rw [e]; exact y3
end
end Go.Proofs.YtdklhkdlndlgnaaGreatDoor
