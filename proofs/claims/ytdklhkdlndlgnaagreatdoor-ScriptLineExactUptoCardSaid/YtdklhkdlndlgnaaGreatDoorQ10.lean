/- Parts of a proof, merged by a program (shake.py). -/
import Derived.Test.YtdklhkdlndlgnaaGreatDoorQ9
set_option linter.unusedVariables false
set_option linter.unusedSimpArgs false
namespace Go.Proofs.YtdklhkdlndlgnaaGreatDoor
open Go.RowKit
attribute [local irreducible] wpList Calls Code.wp
/-- the parts of a literal, one behind the other -/
theorem fill_all {size : Nat} : ∀ (us : List Value) (j : Nat) (cells : Array Value), (∀ u ∈ us, u.cells.size = size) → (j + us.length) * size ≤ cells.size →
    ∃ arr, Instr.fill (fun i => some (i * size, size)) cells ((us.zipIdx j).map fun p => (p.2, p.1)) = some arr ∧ arr.toList = cells.toList.take (j * size) ++ us.flatMap (·.cells.toList) ++ cells.toList.drop ((j + us.length) * size)
  | [], j, cells, _, _ => ⟨cells, by simp [Instr.fill], by simp⟩
  | u :: us, j, cells, hu, hl => by
    have h1 : u.cells.size = size := hu u (by simp)
    have h2 : (j + 1 + us.length) * size ≤ cells.size := by simpa [Nat.add_assoc, Nat.add_comm 1 us.length] using hl
    have h3 : (j + 1) * size ≤ (j + 1 + us.length) * size := Nat.mul_le_mul_right _ (by omega)
    have h4 : j * size + size ≤ cells.size := by rw [Nat.add_mul] at h3; omega
    have hf := fold_arr u.cells cells (j * size) (by omega)
    have hsz : (u.cells.zipIdx.foldl (fun cs (p : Value × Nat) => cs.setIfInBounds (j * size + p.2) p.1) cells).size = cells.size := fold_size u.cells cells (j * size)
    obtain ⟨arr, ha, hb⟩ := fill_all us (j + 1) (u.cells.zipIdx.foldl (fun cs (p : Value × Nat) => cs.setIfInBounds (j * size + p.2) p.1) cells) (fun x hx => hu x (by simp [hx])) (by rw [hsz]; exact h2)
    refine ⟨arr, ?_, ?_⟩
    · rw [List.zipIdx_cons, List.map_cons, Instr.fill]
      have hn : ¬ (u.cells.size ≠ size || j * size + u.cells.size > cells.size) = true := by simp [h1]; omega
      simp only
      rw [if_neg hn]
      exact ha
    · rw [hb, hf, List.flatMap_cons]
      have e1 : ((cells.toList.take (j * size)).length) = j * size := by rw [List.length_take]; simp; omega
      have e2 : (cells.toList.take (j * size) ++ u.cells.toList ++ cells.toList.drop (j * size + u.cells.size)).take ((j + 1) * size) = cells.toList.take (j * size) ++ u.cells.toList := by
        rw [List.take_append_of_le_length (by rw [List.length_append, e1, Array.length_toList, h1, Nat.add_mul]; omega)]
        exact List.take_of_length_le (by rw [List.length_append, e1, Array.length_toList, h1, Nat.add_mul]; omega)
      have e3 : (cells.toList.take (j * size) ++ u.cells.toList ++ cells.toList.drop (j * size + u.cells.size)).drop ((j + 1 + us.length) * size) = cells.toList.drop ((j + (us.length + 1)) * size) := by
        have hul : u.cells.toList.length = size := by simp [h1]
        rw [List.drop_append, List.drop_of_length_le (by rw [List.length_append, e1, hul]; rw [Nat.add_mul] at h3; omega), List.nil_append, List.length_append, e1, hul, h1, List.drop_drop]
        congr 1
        have e4 : (j + 1 + us.length) * size = (j + (us.length + 1)) * size := by congr 1; omega
        rw [← e4]
        rw [Nat.add_mul j 1 size] at h3
        omega
      rw [e2, e3]
      simp [List.append_assoc]
/-- the parts of a literal are data -/
def partsD (P : Program) (e : TypeId) (ea : Operand → V) : List (Nat × Operand) → Nat → List D → Prop
  | [], _, [] => True
  | (i, x) :: ps, j, d :: ds => i = j ∧ cellsOf (ea x) = some (cellsV P 12 e d) ∧ partsD P e ea ps (j + 1) ds
  | _, _, _ => False
theorem partsD_ok {P : Program} {e : TypeId} {ea : Operand → V} {ρ : Operand → Value} {s : Sg} {w : World} (hlay : layB P 12 e = true) (he : ∀ x, rel P s w (ea x) (ρ x)) : ∀ (ps : List (Nat × Operand)) (j : Nat) (ds : List D), partsD P e ea ps j ds →
    ∃ us : List Value, us.length = ds.length ∧ ps.map (fun p => (p.1, ρ p.2)) = (us.zipIdx j).map (fun p => (p.2, p.1)) ∧ (∀ u ∈ us, u.cells.size = P.cellsOf e ∧ ∀ x ∈ u.cells.toList, x.oneCell' = true) ∧
      ∀ i u, us[i]? = some u → relL P s w (cellsV P 12 e (gD ds i)) u.cells.toList
  | [], j, [], _ => ⟨[], rfl, rfl, fun u hu => by simp at hu, fun i u hu => by simp at hu⟩
  | [], _, _ :: _, h => h.elim
  | (i, x) :: ps, j, [], h => h.elim
  | (i, x) :: ps, j, d :: ds, h => by
    obtain ⟨rfl, h2, h3⟩ := h
    obtain ⟨us, u1, u2, u3, u4⟩ := partsD_ok hlay he ps (i + 1) ds h3
    obtain ⟨c1, c2, c3⟩ := cellsOf_ok h2 (he x)
    refine ⟨ρ x :: us, by simp [u1], by rw [List.map_cons, u2, List.zipIdx_cons, List.map_cons], fun u hu => ?_, fun k u hk => ?_⟩
    · rcases List.mem_cons.1 hu with rfl | hu
      · refine ⟨?_, c3⟩
        have := c1.length
        rw [cellsV_len 12 e d hlay] at this
        simpa using this.symm
      · exact u3 u hu
    · cases k with
      | zero => simp at hk; subst hk; exact c1
      | succ k => exact u4 k u (by simpa using hk)
/-- what a literal slice of type t needs of its program -/
def elemOk (P : Program) (t : TypeId) : Option (TypeId × Nat) :=
  match sliceOf P t with
  | some e => match P.info? e with
    | some i => match i.zero with
      | some z => if layB P 12 e && decide (0 < i.size) && z.cells.size == i.size then some (e, i.bytes) else none
      | none => none
    | none => none
  | none => none
theorem elemOk_ok {P : Program} {t e : TypeId} {b : Nat} (h : elemOk P t = some (e, b)) : P.underlying t = some (.slice e) ∧ layB P 12 e = true ∧ ∃ i z, P.info? e = some i ∧ i.zero = some z ∧ i.bytes = b ∧ 0 < i.size ∧ z.cells.size = i.size ∧ P.cellsOf e = i.size := by
  unfold elemOk at h
  split at h
  · rename_i e' he
    split at h
    · rename_i i hi
      split at h
      · rename_i z hz
        split at h
        · rename_i hc
          simp only [Bool.and_eq_true, decide_eq_true_eq, beq_iff_eq] at hc
          simp only [Option.some.injEq, Prod.mk.injEq] at h
          obtain ⟨rfl, rfl⟩ := h
          exact ⟨sliceOf_u he, hc.1.1, i, z, hi, hz, rfl, hc.1.2, hc.2, by simp [Program.cellsOf, hi]⟩
        · cases h
      · cases h
    · cases h
  · cases h
theorem flat_get {us : List Value} {size : Nat} (hs : ∀ u ∈ us, u.cells.size = size) : ∀ (i : Nat) (u : Value), us[i]? = some u → ((us.flatMap (·.cells.toList)).drop (i * size)).take size = u.cells.toList := by
  induction us with
  | nil => intro i u h; simp at h
  | cons x us ih =>
    intro i u h
    have hx := hs x (by simp)
    rw [List.flatMap_cons]
    cases i with
    | zero =>
      simp at h; subst h
      rw [Nat.zero_mul, List.drop_zero, List.take_append_of_le_length (by simp [hx])]
      exact List.take_of_length_le (by simp [hx])
    | succ i =>
      rw [List.drop_append, List.drop_of_length_le (by simp [hx, Nat.add_mul]), List.nil_append]
      have : (i + 1) * size - x.cells.toList.length = i * size := by simp [hx, Nat.add_mul]
      rw [this]
      exact ih (fun y hy => hs y (by simp [hy])) i u (by simpa using h)
theorem flat_len {us : List Value} {size : Nat} (hs : ∀ u ∈ us, u.cells.size = size) : (us.flatMap (·.cells.toList)).length = us.length * size := by
  induction us with
  | nil => simp
  | cons x us ih =>
    rw [List.flatMap_cons, List.length_append, ih fun y hy => hs y (by simp [hy])]
    have := hs x (by simp)
    simp [this, Nat.add_mul]; omega
section
variable {X : Cx} {nn : Nat} {st : Vst nn} {o : Oper} {K : Vst nn → Prop}
theorem opOk_lit {t e : TypeId} {by_ n : Nat} {parts : Array (Nat × Operand)} {ds : List D} (ho : o.op = .buildSlice t n parts) (he : elemOk X.P t = some (e, by_)) (hn : n = ds.length) (hsm : n * X.P.cellsOf e ≤ 2 ^ 24)
    (hp : partsD X.P e (ev st) parts.toList 0 ds) (hK : K (st.put o.dst (.lit e ds))) : OpOk X o st K := by
  intro s w a hI N Q hP hN
  obtain ⟨hu, hlay, i, z, hi, hz, hb, hpos, hzs, hsz⟩ := elemOk_ok he
  obtain ⟨us, u1, u2, u3, u4⟩ := partsD_ok (ρ := a.eval) hlay hI.ev parts.toList 0 ds hp
  have hall : ∀ u ∈ us, u.cells.size = i.size := fun u hu => by rw [(u3 u hu).1, hsz]
  obtain ⟨arr, ha, hb2⟩ : ∃ arr : Array Value, (Instr.buildSlice t n (parts.map fun (i, x) => (i, a.eval x))).run X.P w = .ok (.slice (some ⟨w.heap.size, 0, none⟩) n n) (w.alloc (.cells arr e)) ∧ arr.toList = us.flatMap (·.cells.toList) := by
    have hpl : (parts.map fun (i, x) => (i, a.eval x)).toList = (us.zipIdx 0).map fun p => (p.2, p.1) := by rw [← u2]; simp
    by_cases h0 : n = 0
    · have hus : us = [] := List.eq_nil_of_length_eq_zero (by omega)
      subst hus
      subst h0
      refine ⟨#[], ?_, by simp⟩
      have hp0 : parts = #[] := by
        simp only [List.zipIdx_nil, List.map_nil] at hpl
        have := congrArg List.length hpl
        simp at this
        exact this
      subst hp0
      simp [Instr.buildSlice, run_underlying hu, sizeOf, typeInfo, hi, Instr.fill, newRow]
      have hr0 : Array.map (fun _ : Nat => (default : Value)) (Array.range 0) = #[] := by apply Array.ext <;> simp
      rw [hr0]
    · obtain ⟨arr, h1, h2⟩ := fill_all (size := i.size) us 0 ((Array.range (n * i.size)).map (z.cells[· % z.cells.size]!)) hall (by simp; rw [u1, hn]; exact Nat.le_refl _)
      refine ⟨arr, ?_, ?_⟩
      · refine run_buildSlice w t e n _ arr i z hu hi hz (by rw [← hsz]; omega) (fun h => by rcases Nat.mul_eq_zero.1 h with h | h <;> omega) ?_
        rw [hpl]; exact h1
      · rw [h2]
        simp
        rw [u1, hn]; exact Nat.le_refl _
  have hal : arr.size = ds.length * X.P.cellsOf e := by
    have := congrArg List.length hb2
    rw [flat_len hall, u1, ← hsz] at this
    simpa using this
  unfold Oper.wp
  have hrun : (execOp a.eval o).run X.P w = .ok (.value (.slice (some ⟨w.heap.size, 0, none⟩) n n)) (w.alloc (.cells arr e)) := by simp [execOp, ho, ha]
  rw [hrun, Oper.upon_value]
  have hx := ext_ice hI.mem arr e
  have hI2 := hI.go hx (hI.mem.ice arr e) (frm_alloc w _ _) (fun b o hb _ hF => by
    rcases hF with hF | ⟨rfl, _⟩
    · exact hF
    · have := hI.base; omega)
  refine hN _ _ _ _ (hI2.put o.dst ?_) hK
  rw [rel]
  subst hn
  refine ⟨slice_of_cells (Nat.le_refl _) ?_ fun k hk => ?_, _, rfl⟩
  · have h1 : ds.length ≤ ds.length * X.P.cellsOf e := Nat.le_mul_of_pos_right _ (by omega)
    simp only [maxLen]; omega
  · have hk2 : k < us.length := by omega
    have hg := List.getElem?_eq_getElem hk2
    refine ⟨us[k].cells.toList, by simpa using (u3 _ (List.getElem_mem hk2)).1, fun j u hj => ?_, ?_⟩
    · have hj1 : j < X.P.cellsOf e := by
        have := (List.getElem?_eq_some_iff.1 hj).1
        have h2 := (u3 _ (List.getElem_mem hk2)).1
        simp at this; omega
      have hb3 : k * X.P.cellsOf e + j < arr.size := by
        rw [hal]
        have h1 : (k + 1) * X.P.cellsOf e ≤ ds.length * X.P.cellsOf e := Nat.mul_le_mul_right _ hk
        rw [Nat.add_mul] at h1; omega
      refine ⟨?_, .inr ⟨rfl, hb3⟩⟩
      have hfl := flat_get hall k _ hg
      rw [← hb2, ← hsz] at hfl
      have : arr[k * X.P.cellsOf e + j]? = some u := by
        rw [← hfl, List.getElem?_take, if_pos hj1, List.getElem?_drop, Array.getElem?_toList] at hj
        exact hj
      exact cell_new this
    · obtain ⟨kk, hkk⟩ := cells_back 12 e _ _ hlay ((u4 k _ hg).ext0 hx)
      exact ⟨kk, hkk⟩
end
end Go.Proofs.YtdklhkdlndlgnaaGreatDoor
