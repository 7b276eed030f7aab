/- Data that is read, whatever its type (numbers, bools, strings, structs, slices, nested as they like): of no program. -/
import Derived.Test.YtohneabalakmeaaDoorMem
import Derived.Deep.Slices
import Derived.Deep.Fields
import Derived.Deep.Onto
namespace Go.Proofs.YtohneabalakmeaaDoor
open Go.RowKit
/-- a datum -/
inductive D where
  | int (n : Int)
  | bool (b : Bool)
  | str (s : ByteArray)
  | list (l : List D)
  | obj (l : List D)
instance : Inhabited D := ⟨.obj []⟩
def D.n : D → Int
  | .int n => n
  | _ => 0
def D.b : D → Bool
  | .bool b => b
  | _ => false
def D.s : D → ByteArray
  | .str s => s
  | _ => { data := #[] }
def D.l : D → List D
  | .list l => l
  | _ => []
/-- element i of a list -/
def gD (l : List D) (i : Nat) : D := l.getD i default
/-- field i of a struct -/
def D.f : D → Nat → D
  | .obj l, i => gD l i
  | _, _ => default
theorem gD_get {l : List D} {i : Nat} (h : i < l.length) : gD l i = l[i] := by simp [gD, List.getElem?_eq_getElem h]
theorem gD_left {l m : List D} {i : Nat} (h : i < l.length) : gD (l ++ m) i = gD l i := by simp [gD, List.getElem?_append_left h]
theorem gD_last {l : List D} {d : D} : gD (l ++ [d]) l.length = d := by simp [gD]
theorem gD_mem {l : List D} {i : Nat} (h : i < l.length) : gD l i ∈ l := by rw [gD_get h]; exact List.getElem_mem h
theorem take_snoc_gD {l : List D} {k : Nat} (h : k < l.length) : l.take (k + 1) = l.take k ++ [gD l k] := by
  rw [List.take_succ_eq_append_getElem h, gD_get h]
/-- the cells cs, of type t, read as d; what they lead to lies in blocks of which I speaks -/
def Rep (P : Program) (w : World) (I : Nat → Prop) : Nat → TypeId → List Value → D → Prop
  | 0, _, _, _ => False
  | k + 1, t, cs, d =>
    match P.underlying t with
    | some .bool => cs = [.bool d.b]
    | some (.int q) => cs = [.int q d.n] ∧ (Lit.int q d.n).wf = true
    | some .string => cs = [.string d.s] ∧ d.s.size ≤ maxLen
    | some (.slice e) => ∃ A c, cs = [.slice A d.l.length c] ∧ d.l.length ≤ c ∧ c ≤ maxLen ∧ (A = none → c = 0) ∧ (0 < d.l.length → 0 < P.cellsOf e → ∃ b off, A = some ⟨b, off, none⟩ ∧ I b ∧ ∀ i, i < d.l.length → ∃ ys, ys.length = P.cellsOf e ∧ (∀ j u, ys[j]? = some u → w.cell? ⟨b, off + i * P.cellsOf e + j, none⟩ = some u) ∧ Rep P w I k e ys (gD d.l i))
    | some (.struct fs) => cs.length = P.cellsOf t ∧ ∀ j f, fs[j]? = some f → Rep P w I k f.type ((cs.drop f.offset).take (P.cellsOf f.type)) (d.f j)
    | _ => True
/-- the slice at A reads as l, its elements of type e -/
def Sl (P : Program) (w : World) (I : Nat → Prop) (k : Nat) (e : TypeId) (A : Option Addr) (l : List D) : Prop :=
  0 < l.length → 0 < P.cellsOf e → ∃ b off, A = some ⟨b, off, none⟩ ∧ I b ∧ ∀ i, i < l.length → ∃ ys, ys.length = P.cellsOf e ∧ (∀ j u, ys[j]? = some u → w.cell? ⟨b, off + i * P.cellsOf e + j, none⟩ = some u) ∧ Rep P w I k e ys (gD l i)
variable {P : Program} {w w' : World} {I J : Nat → Prop}
theorem Rep.turn : ∀ {k : Nat} {t : TypeId} {cs : List Value} {d : D}, Rep P w I k t cs d → (∀ b, I b → w'.heap[b]? = w.heap[b]? ∧ J b) → Rep P w' J k t cs d
  | 0, _, _, _, h, _ => h
  | k + 1, t, cs, d, h, hs => by
    unfold Rep at h ⊢
    split at h
    · exact h
    · exact h
    · exact h
    · obtain ⟨A, c, h1, h2, h3, h4, h5⟩ := h
      refine ⟨A, c, h1, h2, h3, h4, fun hl hc => ?_⟩
      obtain ⟨b, off, hA, hb, hi⟩ := h5 hl hc
      refine ⟨b, off, hA, (hs b hb).2, fun i hil => ?_⟩
      obtain ⟨ys, y1, y2, y3⟩ := hi i hil
      exact ⟨ys, y1, fun j u hu => (World.cell?_of_block (w := w) (hs b hb).1).trans (y2 j u hu), Rep.turn y3 hs⟩
    · exact ⟨h.1, fun j f hf => Rep.turn (h.2 j f hf) hs⟩
    · trivial
theorem Rep.same {k : Nat} {t : TypeId} {cs : List Value} {d : D} (h : Rep P w I k t cs d) (hs : Same I w w') : Rep P w' I k t cs d := h.turn fun b hb => ⟨hs b hb, hb⟩
theorem Rep.mono {k : Nat} {t : TypeId} {cs : List Value} {d : D} (h : Rep P w I k t cs d) (hI : ∀ b, I b → J b) : Rep P w J k t cs d := h.turn fun b hb => ⟨rfl, hI b hb⟩
theorem Rep.under {k : Nat} {t : TypeId} {cs : List Value} {d : D} (h : Rep P w (fun b => b < w.heap.size) k t cs d) (hb : Below w.heap.size w w') : Rep P w' (fun b => b < w'.heap.size) k t cs d :=
  h.turn fun b hl => ⟨hb.block b hl, Nat.lt_of_lt_of_le hl hb.size⟩
theorem Rep.up : ∀ {k : Nat} {t : TypeId} {cs : List Value} {d : D}, Rep P w I k t cs d → Rep P w I (k + 1) t cs d
  | 0, _, _, _, h => h.elim
  | k + 1, t, cs, d, h => by
    unfold Rep at h ⊢
    split at h
    · exact h
    · exact h
    · exact h
    · obtain ⟨A, c, h1, h2, h3, h4, h5⟩ := h
      refine ⟨A, c, h1, h2, h3, h4, fun hl hc => ?_⟩
      obtain ⟨b, off, hA, hb, hi⟩ := h5 hl hc
      refine ⟨b, off, hA, hb, fun i hil => ?_⟩
      obtain ⟨ys, y1, y2, y3⟩ := hi i hil
      exact ⟨ys, y1, y2, Rep.up y3⟩
    · exact ⟨h.1, fun j f hf => Rep.up (h.2 j f hf)⟩
    · trivial
theorem Rep.le {k m : Nat} {t : TypeId} {cs : List Value} {d : D} (h : Rep P w I k t cs d) (hm : k ≤ m) : Rep P w I m t cs d := by
  obtain ⟨i, rfl⟩ := Nat.exists_eq_add_of_le hm
  induction i with
  | zero => exact h
  | succ i ih => exact (ih (by omega)).up
theorem Sl.turn {k : Nat} {e : TypeId} {A : Option Addr} {l : List D} (h : Sl P w I k e A l) (hs : ∀ b, I b → w'.heap[b]? = w.heap[b]? ∧ J b) : Sl P w' J k e A l := fun hl hc => by
  obtain ⟨b, off, hA, hb, hi⟩ := h hl hc
  refine ⟨b, off, hA, (hs b hb).2, fun i hil => ?_⟩
  obtain ⟨ys, y1, y2, y3⟩ := hi i hil
  exact ⟨ys, y1, fun j u hu => (World.cell?_of_block (w := w) (hs b hb).1).trans (y2 j u hu), y3.turn hs⟩
theorem Sl.same {k : Nat} {e : TypeId} {A : Option Addr} {l : List D} (h : Sl P w I k e A l) (hs : Same I w w') : Sl P w' I k e A l := h.turn fun b hb => ⟨hs b hb, hb⟩
theorem Sl.mono {k : Nat} {e : TypeId} {A : Option Addr} {l : List D} (h : Sl P w I k e A l) (hI : ∀ b, I b → J b) : Sl P w J k e A l := h.turn fun b hb => ⟨rfl, hI b hb⟩
theorem Sl.under {k : Nat} {e : TypeId} {A : Option Addr} {l : List D} (h : Sl P w (fun b => b < w.heap.size) k e A l) (hb : Below w.heap.size w w') : Sl P w' (fun b => b < w'.heap.size) k e A l :=
  h.turn fun b hl => ⟨hb.block b hl, Nat.lt_of_lt_of_le hl hb.size⟩
theorem Sl.up {k : Nat} {e : TypeId} {A : Option Addr} {l : List D} (h : Sl P w I k e A l) : Sl P w I (k + 1) e A l := fun hl hc => by
  obtain ⟨b, off, hA, hb, hi⟩ := h hl hc
  refine ⟨b, off, hA, hb, fun i hil => ?_⟩
  obtain ⟨ys, y1, y2, y3⟩ := hi i hil
  exact ⟨ys, y1, y2, y3.up⟩
theorem Sl.nil (k : Nat) (e : TypeId) (A : Option Addr) : Sl P w I k e A [] := fun h => absurd h (by simp)
/-! ### what the cells of a type are -/
theorem Rep.int {k : Nat} {t : TypeId} {q : IntKind} {cs : List Value} {d : D} (h : Rep P w I k t cs d) (ht : P.underlying t = some (.int q)) : cs = [.int q d.n] ∧ (Lit.int q d.n).wf = true := by
  cases k with
  | zero => exact h.elim
  | succ k => unfold Rep at h; rw [ht] at h; exact h
theorem Rep.bool {k : Nat} {t : TypeId} {cs : List Value} {d : D} (h : Rep P w I k t cs d) (ht : P.underlying t = some .bool) : cs = [.bool d.b] := by
  cases k with
  | zero => exact h.elim
  | succ k => unfold Rep at h; rw [ht] at h; exact h
theorem Rep.str {k : Nat} {t : TypeId} {cs : List Value} {d : D} (h : Rep P w I k t cs d) (ht : P.underlying t = some .string) : cs = [.string d.s] ∧ d.s.size ≤ maxLen := by
  cases k with
  | zero => exact h.elim
  | succ k => unfold Rep at h; rw [ht] at h; exact h
theorem Rep.slice {k : Nat} {t e : TypeId} {cs : List Value} {d : D} (h : Rep P w I (k + 1) t cs d) (ht : P.underlying t = some (.slice e)) :
    ∃ A c, cs = [.slice A d.l.length c] ∧ d.l.length ≤ c ∧ c ≤ maxLen ∧ (A = none → c = 0) ∧ Sl P w I k e A d.l := by
  unfold Rep at h; rw [ht] at h; exact h
theorem Rep.sliceAny {k : Nat} {t e : TypeId} {cs : List Value} {d : D} (h : Rep P w I k t cs d) (ht : P.underlying t = some (.slice e)) :
    ∃ A c, cs = [.slice A d.l.length c] ∧ d.l.length ≤ c ∧ c ≤ maxLen ∧ (A = none → c = 0) ∧ Sl P w I k e A d.l := by
  cases k with
  | zero => exact h.elim
  | succ k =>
    obtain ⟨A, c, h1, h2, h3, h4, h5⟩ := h.slice ht
    exact ⟨A, c, h1, h2, h3, h4, h5.up⟩
theorem Rep.struct {k : Nat} {t : TypeId} {fs : Array Field} {cs : List Value} {d : D} (h : Rep P w I (k + 1) t cs d) (ht : P.underlying t = some (.struct fs)) :
    cs.length = P.cellsOf t ∧ ∀ j f, fs[j]? = some f → Rep P w I k f.type ((cs.drop f.offset).take (P.cellsOf f.type)) (d.f j) := by
  unfold Rep at h; rw [ht] at h; exact h
/-- how a datum of a type is made -/
theorem Rep.mk_int {k : Nat} {t : TypeId} {q : IntKind} {n : Int} (ht : P.underlying t = some (.int q)) (hw : (Lit.int q n).wf = true) : Rep P w I (k + 1) t [.int q n] (.int n) := by
  unfold Rep; rw [ht]; exact ⟨rfl, hw⟩
theorem Rep.mk_bool {k : Nat} {t : TypeId} {b : Bool} (ht : P.underlying t = some .bool) : Rep P w I (k + 1) t [.bool b] (.bool b) := by
  unfold Rep; rw [ht]; rfl
theorem Rep.mk_str {k : Nat} {t : TypeId} {s : ByteArray} (ht : P.underlying t = some .string) (hs : s.size ≤ maxLen) : Rep P w I (k + 1) t [.string s] (.str s) := by
  unfold Rep; rw [ht]; exact ⟨rfl, hs⟩
theorem Rep.mk_slice {k : Nat} {t e : TypeId} {A : Option Addr} {c n : Nat} {l : List D} (ht : P.underlying t = some (.slice e)) (hn : n = l.length) (h1 : l.length ≤ c) (h2 : c ≤ maxLen) (h3 : A = none → c = 0) (h : Sl P w I k e A l) : Rep P w I (k + 1) t [.slice A n c] (.list l) := by
  subst hn
  unfold Rep; rw [ht]; exact ⟨A, c, rfl, h1, h2, h3, h⟩
theorem Rep.mk_struct {k : Nat} {t : TypeId} {fs : Array Field} {cs : List Value} {ds : List D} (ht : P.underlying t = some (.struct fs)) (hl : cs.length = P.cellsOf t)
    (h : ∀ j f, fs[j]? = some f → Rep P w I k f.type ((cs.drop f.offset).take (P.cellsOf f.type)) (gD ds j)) : Rep P w I (k + 1) t cs (.obj ds) := by
  unfold Rep; rw [ht]; exact ⟨hl, h⟩
/-! ### from the row's reading -/
theorem choose_list {n : Nat} {p : Nat → D → Prop} (h : ∀ i, i < n → ∃ x, p i x) : ∃ l : List D, l.length = n ∧ ∀ i, i < n → p i (gD l i) := by
  obtain ⟨f, hf⟩ := Deep.choose_lt h
  refine ⟨(List.range n).map f, by simp, fun i hi => ?_⟩
  have : gD ((List.range n).map f) i = f i := by simp [gD, hi]
  rw [this]; exact hf i hi
theorem rep_of_trod {H : Type} {enc : TypeId × Value → H} {held : Bool} {sp : Nat → Bool} : ∀ {k : Nat} {t : TypeId} {cs : List Value} {x : DataW H × List MemPlace},
    DataW.trod enc P w 0 sp held k t cs = some x → ∃ d, Rep P w (fun b => b < w.heap.size) k t cs d
  | 0, t, cs, x, h => by simp [DataW.trod] at h
  | k + 1, t, cs, x, h => by
    cases hu : P.underlying t with
    | none => exact ⟨default, by unfold Rep; rw [hu]; trivial⟩
    | some ty =>
      cases ty
      case bool =>
        obtain ⟨b, rfl, _⟩ := DataW.trod_bool hu h
        exact ⟨.bool b, .mk_bool hu⟩
      case int q =>
        obtain ⟨n, rfl, _, hw⟩ := DataW.trod_int hu h
        exact ⟨.int n, .mk_int hu hw⟩
      case string =>
        obtain ⟨s, rfl, _, hs⟩ := DataW.trod_string hu h
        exact ⟨.str s, .mk_str hu hs⟩
      case slice e =>
        rcases DataW.trod_slice hu h with ⟨rfl, _⟩ | ⟨a, len, cap, elems, rest, n, hk, rfl, _, _, hle, hcm, hlen, hel, _⟩
        · exact ⟨.list [], .mk_slice hu rfl (by simp) (by simp [maxLen]) (fun _ => rfl) (Sl.nil _ _ _)⟩
        · obtain rfl : n = k := by omega
          have hx : ∀ i, i < len → ∃ d, ∃ ys, w.cells? 0 (a.add (i * P.cellsOf e)) (P.cellsOf e) = some ys ∧ Rep P w (fun b => b < w.heap.size) n e ys d := fun i hi => by
            have h1 := hel i hi
            rw [List.getElem?_eq_getElem (by omega)] at h1
            obtain ⟨ys, y1, y2⟩ := Option.bind_eq_some_iff.1 h1
            obtain ⟨d, hd⟩ := rep_of_trod y2
            exact ⟨d, ys, y1, hd⟩
          obtain ⟨l, hll, hl⟩ := choose_list hx
          refine ⟨.list l, .mk_slice hu hll.symm (by omega) hcm (fun h => by cases h) ?_⟩
          intro h0 hc
          obtain ⟨b, off, spot⟩ := a
          obtain ⟨ys, y1, _⟩ := hl 0 (by omega)
          obtain ⟨_, y3, y4⟩ := World.cells?_some y1
          have y5 := y4 0 hc
          rw [List.getElem?_eq_getElem (by omega)] at y5
          have hspot : spot = none := by simpa [Addr.add] using World.cell?_spot y5
          subst hspot
          have hbl : b < w.heap.size := by simpa [Addr.add] using block_lt_of_cell y5
          refine ⟨b, off, rfl, hbl, fun i hi => ?_⟩
          obtain ⟨ys, y1, y2⟩ := hl i (by omega)
          obtain ⟨_, y3, y4⟩ := World.cells?_some y1
          refine ⟨ys, y3, fun j u hu => ?_, y2⟩
          have hj : j < P.cellsOf e := by have := (List.getElem?_eq_some_iff.1 hu).1; omega
          have := y4 j hj
          rw [Go.WideShapes.add_plain, Go.WideShapes.add_plain, hu] at this
          exact this
      case struct fs =>
        obtain ⟨xs, n, hk, _, hcs, hxs, hf⟩ := DataW.trod_struct hu h
        obtain rfl : n = k := by omega
        have hx : ∀ j, j < fs.size → ∃ d, ∀ f, fs[j]? = some f → Rep P w (fun b => b < w.heap.size) n f.type ((cs.drop f.offset).take (P.cellsOf f.type)) d := fun j hj => by
          have h1 := hf j fs[j] (Array.getElem?_eq_getElem hj)
          rw [List.getElem?_eq_getElem (by omega)] at h1
          obtain ⟨d, hd⟩ := rep_of_trod h1
          refine ⟨d, fun f hf => ?_⟩
          rw [Array.getElem?_eq_getElem hj] at hf
          cases hf; exact hd
        obtain ⟨l, hll, hl⟩ := choose_list hx
        exact ⟨.obj l, .mk_struct hu hcs fun j f hjf => hl j (Array.getElem?_eq_some_iff.1 hjf).1 f hjf⟩
      all_goals exact ⟨default, by unfold Rep; rw [hu]; trivial⟩
theorem rep_of_Trod {H : Type} {enc : TypeId × Value → H} {held : Bool} {sp : Nat → Bool} {t : TypeId} {v : Value} {d : DataW H} {ps : List MemPlace} (h : DataW.Trod enc P w 0 sp held t v d ps) : ∃ k d, Rep P w (fun b => b < w.heap.size) (k + 1) t v.cells.toList d := by
  obtain ⟨k, h⟩ := h
  obtain ⟨d, hd⟩ := rep_of_trod h
  cases k with
  | zero => exact hd.elim
  | succ k => exact ⟨k, d, hd⟩
end Go.Proofs.YtohneabalakmeaaDoor
