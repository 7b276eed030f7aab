/- Parts of a proof, merged by a program (shake.py). -/
import Derived.Test.YtdklhkdlndlgnaaGreatDoorQ4
set_option linter.unusedVariables false
set_option linter.unusedSimpArgs false
namespace Go.Proofs.YtdklhkdlndlgnaaGreatDoor
open Go.RowKit
section
variable (P : Program)
/-- the fields lie one behind the other -/
def laidB : List Field → Nat → Bool
  | [], _ => true
  | f :: fs, o => f.offset == o && laidB fs (o + P.cellsOf f.type)
def endOf : List Field → Nat → Nat
  | [], o => o
  | f :: fs, o => endOf fs (o + P.cellsOf f.type)
/-- a type's cells can be told one by one -/
def layB : Nat → TypeId → Bool
  | 0, _ => false
  | n + 1, t =>
    match P.underlying t with
    | some (.struct fs) => laidB P fs.toList 0 && endOf P fs.toList 0 == P.cellsOf t && fs.toList.all fun f => layB n f.type
    | some .bool => P.cellsOf t == 1
    | some (.int _) => P.cellsOf t == 1
    | some .string => P.cellsOf t == 1
    | some (.slice _) => P.cellsOf t == 1
    | some _ => true
    | none => false
def fieldsW (g : TypeId → D → List V) : List Field → Nat → D → List V
  | [], _, _ => []
  | f :: fs, j, d => g f.type (d.f j) ++ fieldsW g fs (j + 1) d
def cellsV : Nat → TypeId → D → List V
  | 0, _, _ => []
  | n + 1, t, d =>
    match P.underlying t with
    | some .bool => [.c (.bool d.b)]
    | some (.int q) => [.c (.int q d.n)]
    | some .string => [.c (.string d.s)]
    | some (.slice e) => [.sl e d.l]
    | some (.struct fs) => fieldsW (cellsV n) fs.toList 0 d
    | _ => List.replicate (P.cellsOf t) .any
/-- whether a type's values are of several cells -/
def aggB (t : TypeId) : Option Bool :=
  match P.info? t, P.underlying t with
  | some _, some (.struct _) => some true
  | some _, some (.array _ _) => some true
  | some _, some _ => some false
  | _, _ => none
def part? (t : TypeId) (vs : List V) (off : Nat) : Option V :=
  match aggB P t with
  | some true => if off + P.cellsOf t ≤ vs.length then some (.agg ((vs.drop off).take (P.cellsOf t))) else none
  | some false => vs[off]?
  | none => none
end
section
variable {P : Program} {s : Sg} {w : World}
mutual
theorem cells_rel : ∀ (n k : Nat) (t : TypeId) (cs : List Value) (d : D), RepF P w s.F k t cs d → cs.length = P.cellsOf t → layB P n t = true → relL P s w (cellsV P n t d) cs
  | 0, _, _, _, _, _, _, h => by simp [layB] at h
  | _ + 1, 0, _, _, _, h, _, _ => h.elim
  | n + 1, k + 1, t, cs, d, h, hl, hb => by
    unfold RepF at h
    unfold layB at hb
    unfold cellsV
    split at h <;> rename_i hu <;> simp only [hu] at hb ⊢
    · subst h; simp [relL, rel, okV]
    · obtain ⟨rfl, hw⟩ := h; simp [relL, rel, okV, hw]
    · obtain ⟨rfl, hw⟩ := h
      simp only [relL, rel, okV, true_and, and_true]
      exact hw
    · obtain ⟨A, c, rfl, h2, h3, h4, h5⟩ := h
      simp only [relL, rel, and_true]
      exact ⟨k, A, c, rfl, h2, h3, h4, h5⟩
    · rename_i fs
      simp only [Bool.and_eq_true, beq_iff_eq] at hb
      obtain ⟨⟨h1, h2⟩, h3⟩ := hb
      have := fields_rel n k fs.toList 0 0 cs d (fun j f hj => by simpa using h.2 j f (by simpa using hj)) (by rw [h2]; omega) h1 h3
      simpa using this
    · cases hu2 : P.underlying t with
      | none => rw [hu2] at hb; simp at hb
      | some dd =>
        rw [hu2] at *
        cases dd
        all_goals first
          | (exfalso; simp_all; done)
          | (simp only []; rw [← hl]; exact relL.anys cs)
          | (rw [← hl]; exact relL.anys cs)
theorem fields_rel : ∀ (n k : Nat) (fs : List Field) (j o : Nat) (cs : List Value) (d : D), (∀ i f, fs[i]? = some f → RepF P w s.F k f.type ((cs.drop f.offset).take (P.cellsOf f.type)) (d.f (j + i))) → endOf P fs o = cs.length → laidB P fs o = true →
    (fs.all fun f => layB P n f.type) = true → relL P s w (fieldsW (cellsV P n) fs j d) (cs.drop o)
  | n, k, [], j, o, cs, d, _, he, _, _ => by
    simp only [endOf] at he
    rw [List.drop_of_length_le (by omega), fieldsW]
    simp [relL]
  | n, k, f :: fs, j, o, cs, d, h, he, hl, ha => by
    simp only [laidB, Bool.and_eq_true, beq_iff_eq] at hl
    simp only [List.all_cons, Bool.and_eq_true] at ha
    simp only [endOf] at he
    have hle : o + P.cellsOf f.type ≤ cs.length := by rw [← he]; exact endOf_ge fs _
    rw [fieldsW]
    have e : cs.drop o = (cs.drop o).take (P.cellsOf f.type) ++ cs.drop (o + P.cellsOf f.type) := by
      rw [← List.drop_drop]; exact (List.take_append_drop _ _).symm
    rw [e]
    refine relL.append ?_ (fields_rel n k fs (j + 1) _ cs d (fun i g hg => by have := h (i + 1) g (by simpa using hg); rwa [show j + 1 + i = j + (i + 1) by omega]) he hl.2 ha.2)
    have h0 := h 0 f rfl
    rw [hl.1] at h0
    exact cells_rel n k f.type _ _ h0 (by rw [List.length_take, List.length_drop]; omega) ha.1
theorem endOf_ge : ∀ (fs : List Field) (o : Nat), o ≤ endOf P fs o
  | [], o => Nat.le_refl _
  | f :: fs, o => by
    simp only [endOf]
    have := endOf_ge fs (o + P.cellsOf f.type)
    omega
end
end
end Go.Proofs.YtdklhkdlndlgnaaGreatDoor
