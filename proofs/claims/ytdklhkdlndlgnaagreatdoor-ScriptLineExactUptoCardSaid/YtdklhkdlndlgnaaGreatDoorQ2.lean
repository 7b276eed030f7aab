/- Parts of a proof, merged by a program (shake.py). -/
import Derived.Deep.Slices
import Derived.Deep.Fields
import Derived.Deep.Onto
import Derived.Test.YtdklhkdlndlgnaaGreatDoorQ1
set_option linter.unusedVariables false
set_option linter.unusedSimpArgs false
namespace Go.Proofs.YtdklhkdlndlgnaaGreatDoor
open Go.RowKit
/-- a datum -/
inductive D where
  | int (n : Int)
  | bool (b : Bool)
  | str (s : ByteArray)
  | list (l : List D)
  | obj (l : List D)
instance : Inhabited D := ⟨.obj []⟩
def D.n : D → Int
  | .int n => n
  | _ => 0
def D.b : D → Bool
  | .bool b => b
  | _ => false
def D.s : D → ByteArray
  | .str s => s
  | _ => { data := #[] }
def D.l : D → List D
  | .list l => l
  | _ => []
/-- element i of a list -/
def gD (l : List D) (i : Nat) : D := l.getD i default
/-- field i of a struct -/
def D.f : D → Nat → D
  | .obj l, i => gD l i
  | _, _ => default
theorem gD_get {l : List D} {i : Nat} (h : i < l.length) : gD l i = l[i] := by simp [gD, List.getElem?_eq_getElem h]
theorem gD_left {l m : List D} {i : Nat} (h : i < l.length) : gD (l ++ m) i = gD l i := by simp [gD, List.getElem?_append_left h]
theorem gD_mem {l : List D} {i : Nat} (h : i < l.length) : gD l i ∈ l := by rw [gD_get h]; exact List.getElem_mem h
/-- the cells cs, of type t, read as d; what they lead to lies in blocks of which I speaks -/
def Rep (P : Program) (w : World) (I : Nat → Prop) : Nat → TypeId → List Value → D → Prop
  | 0, _, _, _ => False
  | k + 1, t, cs, d =>
    match P.underlying t with
    | some .bool => cs = [.bool d.b]
    | some (.int q) => cs = [.int q d.n] ∧ (Lit.int q d.n).wf = true
    | some .string => cs = [.string d.s] ∧ d.s.size ≤ maxLen
    | some (.slice e) => ∃ A c, cs = [.slice A d.l.length c] ∧ d.l.length ≤ c ∧ c ≤ maxLen ∧ (A = none → c = 0) ∧ (0 < d.l.length → 0 < P.cellsOf e → ∃ b off, A = some ⟨b, off, none⟩ ∧ I b ∧ ∀ i, i < d.l.length → ∃ ys, ys.length = P.cellsOf e ∧ (∀ j u, ys[j]? = some u → w.cell? ⟨b, off + i * P.cellsOf e + j, none⟩ = some u) ∧ Rep P w I k e ys (gD d.l i))
    | some (.struct fs) => cs.length = P.cellsOf t ∧ ∀ j f, fs[j]? = some f → Rep P w I k f.type ((cs.drop f.offset).take (P.cellsOf f.type)) (d.f j)
    | _ => True
/-- the slice at A reads as l, its elements of type e -/
def Sl (P : Program) (w : World) (I : Nat → Prop) (k : Nat) (e : TypeId) (A : Option Addr) (l : List D) : Prop :=
  0 < l.length → 0 < P.cellsOf e → ∃ b off, A = some ⟨b, off, none⟩ ∧ I b ∧ ∀ i, i < l.length → ∃ ys, ys.length = P.cellsOf e ∧ (∀ j u, ys[j]? = some u → w.cell? ⟨b, off + i * P.cellsOf e + j, none⟩ = some u) ∧ Rep P w I k e ys (gD l i)
variable {P : Program} {w w' : World} {I J : Nat → Prop}
theorem Rep.turn : ∀ {k : Nat} {t : TypeId} {cs : List Value} {d : D}, Rep P w I k t cs d → (∀ b, I b → w'.heap[b]? = w.heap[b]? ∧ J b) → Rep P w' J k t cs d
  | 0, _, _, _, h, _ => h
  | k + 1, t, cs, d, h, hs => by
    unfold Rep at h ⊢
    split at h
    · exact h
    · exact h
    · exact h
    · obtain ⟨A, c, h1, h2, h3, h4, h5⟩ := h
      refine ⟨A, c, h1, h2, h3, h4, fun hl hc => ?_⟩
      obtain ⟨b, off, hA, hb, hi⟩ := h5 hl hc
      refine ⟨b, off, hA, (hs b hb).2, fun i hil => ?_⟩
      obtain ⟨ys, y1, y2, y3⟩ := hi i hil
      exact ⟨ys, y1, fun j u hu => (World.cell?_of_block (w := w) (hs b hb).1).trans (y2 j u hu), Rep.turn y3 hs⟩
    · exact ⟨h.1, fun j f hf => Rep.turn (h.2 j f hf) hs⟩
    · trivial
theorem Rep.same {k : Nat} {t : TypeId} {cs : List Value} {d : D} (h : Rep P w I k t cs d) (hs : Same I w w') : Rep P w' I k t cs d := h.turn fun b hb => ⟨hs b hb, hb⟩
theorem Rep.mono {k : Nat} {t : TypeId} {cs : List Value} {d : D} (h : Rep P w I k t cs d) (hI : ∀ b, I b → J b) : Rep P w J k t cs d := h.turn fun b hb => ⟨rfl, hI b hb⟩
theorem Rep.under {k : Nat} {t : TypeId} {cs : List Value} {d : D} (h : Rep P w (fun b => b < w.heap.size) k t cs d) (hb : Below w.heap.size w w') : Rep P w' (fun b => b < w'.heap.size) k t cs d :=
  h.turn fun b hl => ⟨hb.block b hl, Nat.lt_of_lt_of_le hl hb.size⟩
theorem Rep.up : ∀ {k : Nat} {t : TypeId} {cs : List Value} {d : D}, Rep P w I k t cs d → Rep P w I (k + 1) t cs d
  | 0, _, _, _, h => h.elim
  | k + 1, t, cs, d, h => by
    unfold Rep at h ⊢
    split at h
    · exact h
    · exact h
    · exact h
    · obtain ⟨A, c, h1, h2, h3, h4, h5⟩ := h
      refine ⟨A, c, h1, h2, h3, h4, fun hl hc => ?_⟩
      obtain ⟨b, off, hA, hb, hi⟩ := h5 hl hc
      refine ⟨b, off, hA, hb, fun i hil => ?_⟩
      obtain ⟨ys, y1, y2, y3⟩ := hi i hil
      exact ⟨ys, y1, y2, Rep.up y3⟩
    · exact ⟨h.1, fun j f hf => Rep.up (h.2 j f hf)⟩
    · trivial
theorem Rep.le {k m : Nat} {t : TypeId} {cs : List Value} {d : D} (h : Rep P w I k t cs d) (hm : k ≤ m) : Rep P w I m t cs d := by
  obtain ⟨i, rfl⟩ := Nat.exists_eq_add_of_le hm
  induction i with
  | zero => exact h
  | succ i ih => exact (ih (by omega)).up
theorem Sl.turn {k : Nat} {e : TypeId} {A : Option Addr} {l : List D} (h : Sl P w I k e A l) (hs : ∀ b, I b → w'.heap[b]? = w.heap[b]? ∧ J b) : Sl P w' J k e A l := fun hl hc => by
  obtain ⟨b, off, hA, hb, hi⟩ := h hl hc
  refine ⟨b, off, hA, (hs b hb).2, fun i hil => ?_⟩
  obtain ⟨ys, y1, y2, y3⟩ := hi i hil
  exact ⟨ys, y1, fun j u hu => (World.cell?_of_block (w := w) (hs b hb).1).trans (y2 j u hu), y3.turn hs⟩
theorem Sl.same {k : Nat} {e : TypeId} {A : Option Addr} {l : List D} (h : Sl P w I k e A l) (hs : Same I w w') : Sl P w' I k e A l := h.turn fun b hb => ⟨hs b hb, hb⟩
theorem Sl.mono {k : Nat} {e : TypeId} {A : Option Addr} {l : List D} (h : Sl P w I k e A l) (hI : ∀ b, I b → J b) : Sl P w J k e A l := h.turn fun b hb => ⟨rfl, hI b hb⟩
theorem Sl.under {k : Nat} {e : TypeId} {A : Option Addr} {l : List D} (h : Sl P w (fun b => b < w.heap.size) k e A l) (hb : Below w.heap.size w w') : Sl P w' (fun b => b < w'.heap.size) k e A l :=
  h.turn fun b hl => ⟨hb.block b hl, Nat.lt_of_lt_of_le hl hb.size⟩
theorem Sl.up {k : Nat} {e : TypeId} {A : Option Addr} {l : List D} (h : Sl P w I k e A l) : Sl P w I (k + 1) e A l := fun hl hc => by
  obtain ⟨b, off, hA, hb, hi⟩ := h hl hc
  refine ⟨b, off, hA, hb, fun i hil => ?_⟩
  obtain ⟨ys, y1, y2, y3⟩ := hi i hil
  exact ⟨ys, y1, y2, y3.up⟩
theorem Sl.nil (k : Nat) (e : TypeId) (A : Option Addr) : Sl P w I k e A [] := fun h => absurd h (by simp)
theorem Rep.int {k : Nat} {t : TypeId} {q : IntKind} {cs : List Value} {d : D} (h : Rep P w I k t cs d) (ht : P.underlying t = some (.int q)) : cs = [.int q d.n] ∧ (Lit.int q d.n).wf = true := by
  cases k with
  | zero => exact h.elim
  | succ k => unfold Rep at h; rw [ht] at h; exact h
theorem Rep.bool {k : Nat} {t : TypeId} {cs : List Value} {d : D} (h : Rep P w I k t cs d) (ht : P.underlying t = some .bool) : cs = [.bool d.b] := by
  cases k with
  | zero => exact h.elim
  | succ k => unfold Rep at h; rw [ht] at h; exact h
theorem Rep.str {k : Nat} {t : TypeId} {cs : List Value} {d : D} (h : Rep P w I k t cs d) (ht : P.underlying t = some .string) : cs = [.string d.s] ∧ d.s.size ≤ maxLen := by
  cases k with
  | zero => exact h.elim
  | succ k => unfold Rep at h; rw [ht] at h; exact h
theorem Rep.slice {k : Nat} {t e : TypeId} {cs : List Value} {d : D} (h : Rep P w I (k + 1) t cs d) (ht : P.underlying t = some (.slice e)) :
    ∃ A c, cs = [.slice A d.l.length c] ∧ d.l.length ≤ c ∧ c ≤ maxLen ∧ (A = none → c = 0) ∧ Sl P w I k e A d.l := by
  unfold Rep at h; rw [ht] at h; exact h
theorem Rep.struct {k : Nat} {t : TypeId} {fs : Array Field} {cs : List Value} {d : D} (h : Rep P w I (k + 1) t cs d) (ht : P.underlying t = some (.struct fs)) :
    cs.length = P.cellsOf t ∧ ∀ j f, fs[j]? = some f → Rep P w I k f.type ((cs.drop f.offset).take (P.cellsOf f.type)) (d.f j) := by
  unfold Rep at h; rw [ht] at h; exact h
/-- how a datum of a type is made -/
theorem Rep.mk_int {k : Nat} {t : TypeId} {q : IntKind} {n : Int} (ht : P.underlying t = some (.int q)) (hw : (Lit.int q n).wf = true) : Rep P w I (k + 1) t [.int q n] (.int n) := by
  unfold Rep; rw [ht]; exact ⟨rfl, hw⟩
theorem Rep.mk_bool {k : Nat} {t : TypeId} {b : Bool} (ht : P.underlying t = some .bool) : Rep P w I (k + 1) t [.bool b] (.bool b) := by
  unfold Rep; rw [ht]; rfl
theorem Rep.mk_str {k : Nat} {t : TypeId} {s : ByteArray} (ht : P.underlying t = some .string) (hs : s.size ≤ maxLen) : Rep P w I (k + 1) t [.string s] (.str s) := by
  unfold Rep; rw [ht]; exact ⟨rfl, hs⟩
theorem Rep.mk_slice {k : Nat} {t e : TypeId} {A : Option Addr} {c n : Nat} {l : List D} (ht : P.underlying t = some (.slice e)) (hn : n = l.length) (h1 : l.length ≤ c) (h2 : c ≤ maxLen) (h3 : A = none → c = 0) (h : Sl P w I k e A l) : Rep P w I (k + 1) t [.slice A n c] (.list l) := by
  subst hn
  unfold Rep; rw [ht]; exact ⟨A, c, rfl, h1, h2, h3, h⟩
theorem Rep.mk_struct {k : Nat} {t : TypeId} {fs : Array Field} {cs : List Value} {ds : List D} (ht : P.underlying t = some (.struct fs)) (hl : cs.length = P.cellsOf t)
    (h : ∀ j f, fs[j]? = some f → Rep P w I k f.type ((cs.drop f.offset).take (P.cellsOf f.type)) (gD ds j)) : Rep P w I (k + 1) t cs (.obj ds) := by
  unfold Rep; rw [ht]; exact ⟨hl, h⟩
theorem choose_list {n : Nat} {p : Nat → D → Prop} (h : ∀ i, i < n → ∃ x, p i x) : ∃ l : List D, l.length = n ∧ ∀ i, i < n → p i (gD l i) := by
  obtain ⟨f, hf⟩ := Deep.choose_lt h
  refine ⟨(List.range n).map f, by simp, fun i hi => ?_⟩
  have : gD ((List.range n).map f) i = f i := by simp [gD, hi]
  rw [this]; exact hf i hi
end Go.Proofs.YtdklhkdlndlgnaaGreatDoor
