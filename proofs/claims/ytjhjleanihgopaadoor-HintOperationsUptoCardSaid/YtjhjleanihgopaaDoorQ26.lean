/- Parts of a proof, merged by a program (shake.py). -/
import Derived.Test.YtjhjleanihgopaaDoorRows
import Derived.Test.YtjhjleanihgopaaDoorQ25
namespace Go.Proofs.YtjhjleanihgopaaDoor
open Go.RowKit
attribute [local irreducible] wpList Calls Code.wp
set_option maxRecDepth 100000 in
theorem var_stays {P : Program} {w w' : World} {n : String} {g G : Nat} {cs : Array Value} (hg : P.globalNamed n = some g) (hG : g < G) (h : w.var? P n = some cs) (hs : ∀ k, k < G → w'.heap[k]? = w.heap[k]?) : w'.var? P n = some cs := by
  unfold World.var? at h ⊢
  rw [hg] at h ⊢
  simp only [Option.bind_some] at h ⊢
  rw [hs g hG]; exact h
def EN5 : Ge where
  G := 4
  E := Env
  stays w w' h hs := by
    obtain ⟨h1, ⟨tp, p, h2⟩, ⟨tp', p', h3⟩⟩ := h
    exact ⟨var_stays (g := 3) (by kernel_rfl) (by omega) h1 hs, ⟨tp, p, var_stays (g := 2) (by kernel_rfl) (by omega) h2 hs⟩, ⟨tp', p', var_stays (g := 1) (by kernel_rfl) (by omega) h3 hs⟩⟩
  le w h := by
    have h1 := h.1
    unfold Lib.TabIs World.var? at h1
    rw [show Tryd.prog.globalNamed "internal/strconv.uint64pow10" = some 3 by kernel_rfl] at h1
    simp only [Option.bind_some] at h1
    rcases Nat.lt_or_ge 3 w.heap.size with h' | h'
    · exact h'
    · rw [Array.getElem?_eq_none h'] at h1; cases h1
set_option maxRecDepth 100000 in
/-- a contract over blocks that turns nothing old and hands back values that read no memory -/
theorem ac_of5 {f : FuncId} {args : List V} {r : V} {u : Value} (h : ∀ s w us, relL Tryd.prog s w args us.toList → Env w → (∀ s' w', rel Tryd.prog s' w' r u) ∧ Calls Tryd.prog f us w fun e w' => e = .returned u ∧ Below w.heap.size w w') : AC EN5 Tryd.prog f args r := by
  intro s w us hus hfx he
  obtain ⟨hr, hc⟩ := h s w us hus he
  refine hc.mono ?_
  rintro e w' ⟨rfl, hb⟩
  have hc : ∀ b o, s.F b o → w'.cell? ⟨b, o, none⟩ = w.cell? ⟨b, o, none⟩ := fun b o hF => by
    obtain ⟨x, hx⟩ := Option.isSome_iff_exists.1 (hfx b o hF)
    exact hb.cell (p := ⟨b, o, none⟩) (block_lt_of_cell hx)
  exact ⟨u, s.F, rfl, Frm.of_below hb, fun b o hF => ⟨hc b o hF, hF⟩, fun b o hF => by rw [hc b o hF]; exact hfx b o hF, fun _ _ _ h => h, hr _ _⟩
set_option maxRecDepth 100000 in
theorem rel_three {P : Program} {s : Sg} {w : World} {v v2 v3 : V} {us : Array Value} (h : relL P s w [v, v2, v3] us.toList) : ∃ u u2 u3, us = #[u, u2, u3] ∧ rel P s w v u ∧ rel P s w v2 u2 ∧ rel P s w v3 u3 := by
  cases hl : us.toList with
  | nil => rw [hl] at h; simp [relL] at h
  | cons x xs =>
    rw [hl, relL] at h
    cases xs with
    | nil => simp [relL] at h
    | cons y ys =>
      rw [relL] at h
      cases ys with
      | nil => simp [relL] at h
      | cons z zs =>
        rw [relL] at h
        cases zs with
        | nil => exact ⟨x, y, z, by apply Array.ext'; simpa using hl, h.1, h.2.1, h.2.2.1⟩
        | cons a b => simp [relL] at h
set_option maxRecDepth 100000 in
theorem doc_args {s : Sg} {w : World} {d : D} {on fd : ByteArray} {us : Array Value} (h : relL Tryd.prog s w [.agg (cellsV Tryd.prog 12 24 d), .c (.string on), .c (.string fd)] us.toList) :
    ∃ A c, us = #[.agg #[.slice A (d.f 0).l.length c], .string on, .string fd] ∧ Rs w 55 A (d.f 0).l ∧ (d.f 0).l.length ≤ c ∧ c ≤ maxLen := by
  obtain ⟨u, u2, u3, rfl, h1, h2, h3⟩ := rel_three h
  rw [rel] at h1
  rw [rel] at h2
  rw [rel] at h3
  obtain ⟨cs, rfl, h1⟩ := h1
  obtain ⟨rfl, -⟩ := h2
  obtain ⟨rfl, -⟩ := h3
  obtain ⟨k, hk⟩ := cells_back 12 24 _ _ (by kernel_rfl) h1
  obtain ⟨A, c, e, h2, h3, -, h4⟩ := in24 ⟨k, hk.rep⟩
  exact ⟨A, c, by rw [e], h4, h2, h3⟩
def R64 (n : Int) : Prop := -9223372036854775808 ≤ n ∧ n ≤ 9223372036854775807
set_option maxRecDepth 100000 in
theorem rel_i64 {P : Program} {s : Sg} {w : World} {n : Int} (h : R64 n) : rel P s w (.c (.int .i64 n)) (.int .i64 n) := by
  rw [rel]
  refine ⟨rfl, ?_⟩
  show (Lit.int .i64 n).wf = true
  rw [wf_int]; exact h
set_option maxRecDepth 100000 in
theorem rel_bool {P : Program} {s : Sg} {w : World} {b : Bool} : rel P s w (.c (.bool b)) (.bool b) := by rw [rel]; exact ⟨rfl, trivial⟩
set_option maxRecDepth 100000 in
theorem findD_mem {l : List D} {j : Nat} {s : ByteArray} {x : D} (h : findD l j s = some x) : ∃ i, i < l.length ∧ gD l i = x := by
  obtain ⟨i, hi, e⟩ := List.getElem_of_mem (List.mem_of_find?_eq_some h)
  exact ⟨i, hi, by rw [gD_get hi]; exact e⟩
set_option maxRecDepth 100000 in
theorem R64.zero : R64 0 := ⟨by decide, by decide⟩
set_option maxRecDepth 100000 in
theorem age_range {w : World} {A : Option Addr} {l : List D} (h : Rs w 136 A l) : R64 (ageV l).1 := by
  unfold ageV
  split
  · rename_i v hv
    split
    · obtain ⟨x, h1, h2⟩ := Option.bind_eq_some_iff.1 hv
      obtain ⟨y, h3, h4⟩ := Option.map_eq_some_iff.1 h2
      obtain ⟨i, hi, rfl⟩ := findD_mem h1
      obtain ⟨j, hj, rfl⟩ := findD_mem h3
      obtain ⟨b, off, _, _, hat⟩ := at136 h (by omega)
      obtain ⟨A1, c1, -, -, -, ⟨-, -, -, s1⟩, -⟩ := hat i hi
      obtain ⟨b2, off2, _, _, hat2⟩ := at155 s1 (by omega)
      obtain ⟨A4, c4, A5, c5, -, -, -, -, -, -, -, -, r1, -⟩ := hat2 j hj
      rw [h4] at r1
      show R64 (max (v.f 1).n 0)
      unfold R64
      omega
    · exact R64.zero
  · exact R64.zero
set_option maxRecDepth 100000 in
theorem def_dirs {w : World} {A : Option Addr} {l : List D} (h : Rs w 55 A l) (s : ByteArray) : ∃ A2, Rs w 136 A2 (((findD l 1 s).getD default).f 3).l := by
  cases hf : findD l 1 s with
  | none => exact ⟨none, 1, fun h => absurd h (Nat.not_lt_zero 0)⟩
  | some x =>
    obtain ⟨i, hi, rfl⟩ := findD_mem hf
    obtain ⟨b, off, _, _, hat⟩ := at55 h (by omega)
    obtain ⟨A2, c2, A3, c3, A4, c4, A5, c5, A6, c6, -, -, -, -, -, -, -, -, -, -, ⟨-, -, -, s3⟩, -⟩ := hat i hi
    exact ⟨A3, s3⟩
set_option maxRecDepth 100000 in
theorem parts_range {w : World} {A : Option Addr} {l : List D} (h : Rs w 55 A l) {on fd : ByteArray} {p : List D × List D} (hp : partsV l on fd = some p) : R64 (ageV p.1).1 ∧ R64 (ageV p.2).1 := by
  obtain ⟨f, h1, rfl⟩ := Option.map_eq_some_iff.1 hp
  have hf : ∃ A4, Rs w 60 A4 (((findD l 1 on).getD default).f 4).l := by
    cases hf : findD l 1 on with
    | none => exact ⟨none, 1, fun h => absurd h (Nat.not_lt_zero 0)⟩
    | some x =>
      obtain ⟨i, hi, rfl⟩ := findD_mem hf
      obtain ⟨b, off, _, _, hat⟩ := at55 h (by omega)
      obtain ⟨A2, c2, A3, c3, A4, c4, A5, c5, A6, c6, -, -, -, -, -, -, -, -, -, -, -, ⟨-, -, -, s4⟩, -⟩ := hat i hi
      exact ⟨A4, s4⟩
  obtain ⟨A4, s4⟩ := hf
  obtain ⟨i, hi, rfl⟩ := findD_mem h1
  obtain ⟨b, off, _, _, hat⟩ := at60 s4 (by omega)
  obtain ⟨A1, c1, A3, c3, A5, c5, -, -, -, -, -, -, -, -, -, ⟨-, -, -, s5⟩, -⟩ := hat i hi
  obtain ⟨A6, s6⟩ := def_dirs h ((((gD (((findD l 1 on).getD default).f 4).l i).f 2).f 0).s)
  exact ⟨age_range s5, age_range s6⟩
set_option maxRecDepth 100000 in
theorem own_range {w : World} {A : Option Addr} {l : List D} (h : Rs w 55 A l) (on fd : ByteArray) : R64 (ownV l on fd).1 := by
  unfold ownV
  split
  · exact R64.zero
  · rename_i a b hp
    have := parts_range h hp
    split
    · exact this.1
    · exact this.2
set_option maxRecDepth 100000 in
theorem field_range {w : World} {A : Option Addr} {l : List D} (h : Rs w 55 A l) (on fd : ByteArray) : R64 (fieldV l on fd).1 := by
  rw [← own_field]; exact own_range h on fd
set_option maxRecDepth 100000 in
theorem own_ac (d : D) (on fd : ByteArray) : AC EN5 Tryd.prog 29 [.agg (cellsV Tryd.prog 12 24 d), .c (.string on), .c (.string fd)] (.tup [.c (.int .i64 (ownV (d.f 0).l on fd).1), .c (.bool (ownV (d.f 0).l on fd).2.1), .c (.bool (ownV (d.f 0).l on fd).2.2)]) :=
  ac_of5 (u := .tuple #[.int .i64 (ownV (d.f 0).l on fd).1, .bool (ownV (d.f 0).l on fd).2.1, .bool (ownV (d.f 0).l on fd).2.2]) fun s w us hus _ => by
    obtain ⟨A, c, rfl, hr, hl, hc⟩ := doc_args hus
    refine ⟨fun s' w' => ?_, ownP A _ c on fd w w (Below.refl _ _) hr hl hc⟩
    rw [rel]
    exact ⟨_, rfl, by simp only [relL, and_true]; exact ⟨rel_i64 (own_range hr on fd), rel_bool, rel_bool⟩⟩
set_option maxRecDepth 100000 in
theorem fieldR_ac (d : D) (on fd : ByteArray) : AC EN5 Tryd.prog 55 [.agg (cellsV Tryd.prog 12 24 d), .c (.string on), .c (.string fd)] (.agg [.c (.int .i64 (fieldV (d.f 0).l on fd).1), .c (.bool (fieldV (d.f 0).l on fd).2)]) :=
  ac_of5 (u := .agg #[.int .i64 (fieldV (d.f 0).l on fd).1, .bool (fieldV (d.f 0).l on fd).2]) fun s w us hus _ => by
    obtain ⟨A, c, rfl, hr, hl, hc⟩ := doc_args hus
    refine ⟨fun s' w' => ?_, hintR A _ c on fd w w (Below.refl _ _) hr hl hc⟩
    rw [rel]
    exact ⟨_, rfl, by simp only [relL, and_true]; exact ⟨rel_i64 (field_range hr on fd), rel_bool⟩⟩
set_option maxRecDepth 100000 in
theorem own2_own (l : List D) (on fd : ByteArray) : own2 (parts2 l on fd) = ((ownV l on fd).1, (ownV l on fd).2.1) := by
  unfold own2 parts2 ownV
  cases partsV l on fd with
  | none => rfl
  | some p =>
    simp only [Option.getD_some]
    split
    · rename_i h; rfl
    · rfl
set_option maxRecDepth 100000 in
theorem ownR_ac (d : D) (on fd : ByteArray) : AC EN5 Tryd.prog 56 [.agg (cellsV Tryd.prog 12 24 d), .c (.string on), .c (.string fd)] (.tup [.c (.int .i64 (ownV (d.f 0).l on fd).1), .c (.bool (ownV (d.f 0).l on fd).2.1)]) :=
  ac_of5 (u := .tuple #[.int .i64 (ownV (d.f 0).l on fd).1, .bool (ownV (d.f 0).l on fd).2.1]) fun s w us hus _ => by
    obtain ⟨A, c, rfl, hr, hl, hc⟩ := doc_args hus
    have := ownR A (d.f 0).l c on fd w w (Below.refl _ _) hr hl hc
    rw [own2_own] at this
    refine ⟨fun s' w' => ?_, this⟩
    rw [rel]
    exact ⟨_, rfl, by simp only [relL, and_true]; exact ⟨rel_i64 (own_range hr on fd), rel_bool⟩⟩
end Go.Proofs.YtjhjleanihgopaaDoor
namespace Go.Proofs.YtjhjleanihgopaaDoor
open Go.RowKit
attribute [local irreducible] wpList Calls Code.wp
mutual
/-- how many values and letters a datum holds -/
def bulkD : D → Nat
  | .int _ => 1
  | .bool _ => 1
  | .str s => s.size + 1
  | .list l => bulkL l + 1
  | .obj l => bulkL l + 1
def bulkL : List D → Nat
  | [] => 0
  | d :: r => bulkD d + bulkL r
 end
/-- the datum has a type's shape -/
def Fits (P : Program) : Nat → TypeId → D → Prop
  | 0, _, _ => False
  | k + 1, t, d =>
    match P.underlying t with
    | some .bool => ∃ b, d = .bool b
    | some (.int _) => ∃ n, d = .int n
    | some .string => ∃ s, d = .str s
    | some (.slice e) => ∃ l, d = .list l ∧ ∀ i, i < l.length → Fits P k e (gD l i)
    | some (.struct fs) => ∃ l, d = .obj l ∧ l.length = fs.size ∧ ∀ j f, fs[j]? = some f → Fits P k f.type (gD l j)
    | _ => True
theorem Fits.up {P : Program} : ∀ {k : Nat} {t : TypeId} {d : D}, Fits P k t d → Fits P (k + 1) t d
  | 0, _, _, h => h.elim
  | k + 1, t, d, h => by
    unfold Fits at h ⊢
    split at h
    · exact h
    · exact h
    · exact h
    · obtain ⟨l, h1, h2⟩ := h
      exact ⟨l, h1, fun i hi => Fits.up (h2 i hi)⟩
    · obtain ⟨l, h1, h2, h3⟩ := h
      exact ⟨l, h1, h2, fun j f hf => Fits.up (h3 j f hf)⟩
    · trivial
theorem bulk_pos {H : Type} (d : DataW H) : 1 ≤ Rows.uptoBulk d := by
  cases d with
  | lit x => cases x <;> simp [Rows.uptoBulk]
  | _ => simp [Rows.uptoBulk]
theorem bulk_lists {H : Type} : ∀ (l : List D) (xs : List (DataW H × List MemPlace)), l.length = xs.length → (∀ i (h : i < xs.length), bulkD (gD l i) ≤ Rows.uptoBulk (xs[i]'h).1) → bulkL l ≤ Rows.uptoBulkAll (xs.map (·.1))
  | [], _, _, _ => by simp [bulkL]
  | d :: r, [], h, _ => by simp at h
  | d :: r, x :: xs, h, hb => by
    have h0 := hb 0 (by simp)
    have h1 := bulk_lists r xs (by simpa using h) fun i hi => by
      have := hb (i + 1) (by simpa using hi)
      simpa [gD] using this
    simp only [List.map_cons, Rows.uptoBulkAll, bulkL]
    have e : gD (d :: r) 0 = d := rfl
    rw [e] at h0
    have e2 : (((x :: xs)[0]'(by simp)).1) = x.1 := rfl
    rw [e2] at h0
    omega
theorem rep_of_trod2 {P : Program} {w : World} {H : Type} {enc : TypeId × Value → H} {held : Bool} {sp : Nat → Bool} : ∀ {k : Nat} {t : TypeId} {cs : List Value} {x : DataW H × List MemPlace},
    DataW.trod enc P w 0 sp held k t cs = some x → ∃ d, Rep P w (fun b => b < w.heap.size) k t cs d ∧ Fits P k t d ∧ bulkD d ≤ Rows.uptoBulk x.1
  | 0, t, cs, x, h => by simp [DataW.trod] at h
  | k + 1, t, cs, x, h => by
    have hpos := bulk_pos x.1
    cases hu : P.underlying t with
    | none => exact ⟨default, by unfold Rep; rw [hu]; trivial, by unfold Fits; rw [hu]; trivial, by show bulkD (.obj []) ≤ _; simpa [bulkD, bulkL] using hpos⟩
    | some ty =>
      cases ty
      case bool =>
        obtain ⟨b, rfl, _⟩ := DataW.trod_bool hu h
        exact ⟨.bool b, .mk_bool hu, by unfold Fits; rw [hu]; exact ⟨b, rfl⟩, by simpa [bulkD] using hpos⟩
      case int q =>
        obtain ⟨n, rfl, _, hw⟩ := DataW.trod_int hu h
        exact ⟨.int n, .mk_int hu hw, by unfold Fits; rw [hu]; exact ⟨n, rfl⟩, by simpa [bulkD] using hpos⟩
      case string =>
        obtain ⟨s, rfl, hx, hs⟩ := DataW.trod_string hu h
        refine ⟨.str s, .mk_str hu hs, by unfold Fits; rw [hu]; exact ⟨s, rfl⟩, ?_⟩
        rw [hx]
        simp [bulkD, Rows.uptoBulk]
      case slice e =>
        rcases DataW.trod_slice hu h with ⟨rfl, _⟩ | ⟨a, len, cap, elems, rest, n, hk, rfl, hx, _, hle, hcm, hlen, hel, _⟩
        · exact ⟨.list [], .mk_slice hu rfl (by simp) (by simp [maxLen]) (fun _ => rfl) (Sl.nil _ _ _), by unfold Fits; rw [hu]; exact ⟨[], rfl, fun i hi => by simp at hi⟩, by simpa [bulkD, bulkL] using hpos⟩
        · obtain rfl : n = k := by omega
          have hx2 : ∀ i, i < len → ∃ d, (∃ ys, w.cells? 0 (a.add (i * P.cellsOf e)) (P.cellsOf e) = some ys ∧ Rep P w (fun b => b < w.heap.size) n e ys d) ∧ Fits P n e d ∧ ∀ h : i < elems.length, bulkD d ≤ Rows.uptoBulk (elems[i]'h).1 := fun i hi => by
            have h1 := hel i hi
            rw [List.getElem?_eq_getElem (by omega)] at h1
            obtain ⟨ys, y1, y2⟩ := Option.bind_eq_some_iff.1 h1
            obtain ⟨d, hd, hd2, hd3⟩ := rep_of_trod2 y2
            exact ⟨d, ⟨ys, y1, hd⟩, hd2, fun _ => hd3⟩
          obtain ⟨l, hll, hl⟩ := choose_list hx2
          refine ⟨.list l, .mk_slice hu hll.symm (by omega) hcm (fun h => by cases h) ?_, by unfold Fits; rw [hu]; exact ⟨l, rfl, fun i hi => (hl i (by omega)).2.1⟩, ?_⟩
          · intro h0 hc
            obtain ⟨b, off, spot⟩ := a
            obtain ⟨⟨ys, y1, _⟩, _⟩ := hl 0 (by omega)
            obtain ⟨_, y3, y4⟩ := World.cells?_some y1
            have y5 := y4 0 hc
            rw [List.getElem?_eq_getElem (by omega)] at y5
            have hspot : spot = none := by simpa [Addr.add] using World.cell?_spot y5
            subst hspot
            have hbl : b < w.heap.size := by simpa [Addr.add] using block_lt_of_cell y5
            refine ⟨b, off, rfl, hbl, fun i hi => ?_⟩
            obtain ⟨⟨ys, y1, y2⟩, _⟩ := hl i (by omega)
            obtain ⟨_, y3, y4⟩ := World.cells?_some y1
            refine ⟨ys, y3, fun j u hu => ?_, y2⟩
            have hj : j < P.cellsOf e := by have := (List.getElem?_eq_some_iff.1 hu).1; omega
            have := y4 j hj
            rw [Go.WideShapes.add_plain, Go.WideShapes.add_plain, hu] at this
            exact this
          · have := bulk_lists l elems (by omega) fun i hi => (hl i (by omega)).2.2 hi
            rw [hx]
            simp only [bulkD, Rows.uptoBulk]
            omega
      case struct fs =>
        obtain ⟨xs, n, hk, hx, hcs, hxs, hf⟩ := DataW.trod_struct hu h
        obtain rfl : n = k := by omega
        have hx2 : ∀ j, j < fs.size → ∃ d, (∀ f, fs[j]? = some f → Rep P w (fun b => b < w.heap.size) n f.type ((cs.drop f.offset).take (P.cellsOf f.type)) d ∧ Fits P n f.type d) ∧ ∀ h : j < xs.length, bulkD d ≤ Rows.uptoBulk (xs[j]'h).1 := fun j hj => by
          have h1 := hf j fs[j] (Array.getElem?_eq_getElem hj)
          rw [List.getElem?_eq_getElem (by omega)] at h1
          obtain ⟨d, hd, hd2, hd3⟩ := rep_of_trod2 h1
          refine ⟨d, fun f hf => ?_, fun _ => hd3⟩
          rw [Array.getElem?_eq_getElem hj] at hf
          cases hf; exact ⟨hd, hd2⟩
        obtain ⟨l, hll, hl⟩ := choose_list hx2
        refine ⟨.obj l, .mk_struct hu hcs fun j f hjf => ((hl j (Array.getElem?_eq_some_iff.1 hjf).1).1 f hjf).1, by unfold Fits; rw [hu]; exact ⟨l, rfl, hll, fun j f hjf => ((hl j (Array.getElem?_eq_some_iff.1 hjf).1).1 f hjf).2⟩, ?_⟩
        have := bulk_lists l xs (by omega) fun i hi => (hl i (by omega)).2 hi
        rw [hx]
        simp only [bulkD, Rows.uptoBulk]
        omega
      all_goals exact ⟨default, by unfold Rep; rw [hu]; trivial, by unfold Fits; rw [hu]; trivial, by show bulkD (.obj []) ≤ _; simpa [bulkD, bulkL] using hpos⟩
end Go.Proofs.YtjhjleanihgopaaDoor
namespace Go.Proofs.YtjhjleanihgopaaDoor
open Go.RowKit
attribute [local irreducible] wpList Calls Code.wp AW AWo OpOk seqK blockK scopeK loopK endK endKB AC ACB absLex Yld Sub
def isTn (s : ByteArray) : Bool := s.toList == (⟨#[95, 95, 116, 121, 112, 101, 110, 97, 109, 101]⟩ : ByteArray).toList
def own3 (dl : List D) (x : D) : Int × Bool × Bool := ownV dl (x.f 1).s (x.f 2).s
def pickN (dl : List D) (outer : Int) (x : D) : Int := if !(own3 dl x).2.1 && decide ((x.f 7).l.length = 0) then outer else (own3 dl x).1
def hintsX (f : List D → Int → List (Int × Bool)) (dl : List D) (outer : Int) (x : D) : List (Int × Bool) :=
  if isTn (x.f 2).s then [] else (pickN dl outer x, (own3 dl x).2.2) :: f (x.f 7).l (pickN dl outer x)
def hintsL (dl : List D) : Nat → List D → Int → List (Int × Bool)
  | 0, _, _ => []
  | k + 1, l, outer => (List.range l.length).flatMap fun i => hintsX (hintsL dl k) dl outer (gD l i)
def stepW (st : Bool × Bool × Int) (h : Int × Bool) : Bool × Bool × Int := (st.1 || h.2, true, if !st.2.1 || decide (h.1 < st.2.2) then h.1 else st.2.2)
def foldW (st : Bool × Bool × Int) (hs : List (Int × Bool)) : Bool × Bool × Int := hs.foldl stepW st
def upto (dl : List D) (k : Nat) (l : List D) (outer : Int) (i : Nat) : List (Int × Bool) := (List.range i).flatMap fun i => hintsX (hintsL dl k) dl outer (gD l i)
set_option maxRecDepth 100000 in
theorem upto_succ (dl : List D) (k : Nat) (l : List D) (outer : Int) (i : Nat) : upto dl k l outer (i + 1) = upto dl k l outer i ++ hintsX (hintsL dl k) dl outer (gD l i) := by
  unfold upto
  rw [List.range_succ, List.flatMap_append]
  simp
set_option maxRecDepth 100000 in
theorem i64_in {n : Int} (h : -9223372036854775808 ≤ n ∧ n ≤ 9223372036854775807) : IntKind.i64.min ≤ n ∧ n ≤ IntKind.i64.max := h
set_option maxRecDepth 100000 in
theorem foldW_next (dl : List D) (k : Nat) (l : List D) (outer : Int) (i : Nat) (st : Bool × Bool × Int) : foldW st (upto dl k l outer (i + 1)) = foldW (foldW st (upto dl k l outer i)) (hintsX (hintsL dl k) dl outer (gD l i)) := by
  rw [upto_succ]; unfold foldW; rw [List.foldl_append]
set_option maxRecDepth 100000 in
theorem hintsX_tn {f : List D → Int → List (Int × Bool)} {dl : List D} {outer : Int} {x : D} (h : isTn (x.f 2).s = true) : hintsX f dl outer x = [] := by unfold hintsX; rw [if_pos h]
set_option maxRecDepth 100000 in
theorem hintsX_no {f : List D → Int → List (Int × Bool)} {dl : List D} {outer : Int} {x : D} (h : isTn (x.f 2).s = false) : hintsX f dl outer x = (pickN dl outer x, (own3 dl x).2.2) :: f (x.f 7).l (pickN dl outer x) := by
  unfold hintsX; rw [if_neg (by rw [h]; decide)]
set_option maxRecDepth 100000 in
theorem pickN_leaf {dl : List D} {outer : Int} {x : D} (h : ((!(own3 dl x).2.1) == true) = true) (h2 : (((x.f 7).l.length : Int) == 0) = true) : pickN dl outer x = outer := by
  unfold pickN
  simp at h h2
  simp [h, h2]
set_option maxRecDepth 100000 in
theorem pickN_is {dl : List D} {outer : Int} {x : D} (h : ((!(own3 dl x).2.1) == true) = false) : pickN dl outer x = (own3 dl x).1 := by
  unfold pickN
  simp at h
  simp [h]
set_option maxRecDepth 100000 in
theorem pickN_in {dl : List D} {outer : Int} {x : D} (h2 : (((x.f 7).l.length : Int) == 0) = false) : pickN dl outer x = (own3 dl x).1 := by
  unfold pickN
  simp at h2
  simp [h2]
set_option maxRecDepth 100000 in
theorem stW_new {h : Bool} {b n : Int} {p : Bool} : stepW (h, false, b) (n, p) = (h || p, true, n) := rfl
set_option maxRecDepth 100000 in
theorem stW_lt {h : Bool} {b n : Int} {p : Bool} (hd : decide (n < b) = true) : stepW (h, true, b) (n, p) = (h || p, true, n) := by unfold stepW; simp only [hd]; rfl
set_option maxRecDepth 100000 in
theorem stW_ge {h : Bool} {b n : Int} {p : Bool} (hd : decide (n < b) = false) : stepW (h, true, b) (n, p) = (h || p, true, b) := by unfold stepW; simp only [hd]; rfl
set_option maxRecDepth 100000 in
theorem pick_fits {k : Nat} {x : D} (h : Fits Tryd.prog (k + 1) 63 x) : ∀ i, i < (x.f 7).l.length → Fits Tryd.prog k 63 (gD (x.f 7).l i) := by
  unfold Fits at h
  rw [Tryd.underlying63] at h
  obtain ⟨l, rfl, hl, hf⟩ := h
  have h7 : Fits Tryd.prog k 25 (gD l 7) := hf 7 _ rfl
  cases k with
  | zero => exact h7.elim
  | succ k =>
    unfold Fits at h7
    obtain ⟨l2, e, h8⟩ : ∃ l2, gD l 7 = .list l2 ∧ ∀ i, i < l2.length → Fits Tryd.prog k 63 (gD l2 i) := by
      rw [Tryd.underlying25] at h7
      exact h7
    have e2 : ((D.obj l).f 7).l = l2 := by show (gD l 7).l = l2; rw [e]; rfl
    rw [e2]
    exact fun i hi => (h8 i hi).up
def walkA : List V := [.bx (pn 0) 0, .bx (pn 1) 0, .bx (pn 2) 0, .bx (pn 3) 0, .bx (pn 4) 0]
noncomputable def walkB (d : D) (h s : Bool) (b : Int) : List Res :=
  [.box 24 (cellsV Tryd.prog 12 24 d), .box 4 [.c (.bool h)], .box 4 [.c (.bool s)], .box 3 [.c (.int .i64 b)],
    .box 68 [.clo 28 walkA]]
noncomputable def HW (d : D) (l : List D) (outer : Int) (st : Bool × Bool × Int) (i : Nat) : Vst 60 :=
  stS 60 [(1, .c (.int .i64 outer)), (2, .bx (pn 0) 0), (3, .bx (pn 1) 0), (4, .bx (pn 2) 0), (5, .bx (pn 3) 0), (6, .bx (pn 4) 0), (14, .sl 63 l), (15, .c (.int .i64 l.length)), (16, .c (.int .i64 i))]
    [(pn 0, .box 24 (cellsV Tryd.prog 12 24 d)), (pn 1, .box 4 [.c (.bool st.1)]), (pn 2, .box 4 [.c (.bool st.2.1)]), (pn 3, .box 3 [.c (.int .i64 st.2.2)]), (pn 4, .box 68 [.clo 28 walkA])]
set_option maxRecDepth 100000 in
theorem s_walk {X : Cx} {nn : Nat} {st : Vst nn} {o : Oper} {ops : Array Oper} {l : List Oper} {dst : Option Tmp} {KK : Vst nn → Prop} {vs : List V} {l2 : List D} {n b b' : Int} {h s h' s' : Bool} {d : D} (hX : X.P = Tryd.prog) (hE : X.e = EN5) (hg : o.guard = none) (hd : o.dst = dst)
    (ha : act1 X.P st.rs (ev st) o.op = .call 28 vs) (hv : vs = [.sl 63 l2, .c (.int .i64 n), .bx (pn 0) 0, .bx (pn 1) 0, .bx (pn 2) 0, .bx (pn 3) 0, .bx (pn 4) 0]) (r0 : st.rs (pn 0) = some (.box 24 (cellsV Tryd.prog 12 24 d))) (r1 : st.rs (pn 1) = some (.box 4 [.c (.bool h)])) (r2 : st.rs (pn 2) = some (.box 4 [.c (.bool s)])) (r3 : st.rs (pn 3) = some (.box 3 [.c (.int .i64 b)]))
    (r4 : st.rs (pn 4) = some (.box 68 [.clo 28 walkA])) (hc : ACB EN5 Tryd.prog 28 ([.sl 63 l2, .c (.int .i64 n)] ++ walkA) (walkB d h s b) (.tup []) (walkB d h' s' b'))
    (hK : AWo X ops l ((st.resN [pn 0, pn 1, pn 2, pn 3, pn 4] (walkB d h' s' b')).put dst (.tup [])) KK) : AWo X ops (o :: l) st KK := by
  subst hv
  rw [← hX, ← hE] at hc
  refine s_callB [pn 0, pn 1, pn 2, pn 3, pn 4] hg hd ha hc (by decide) rfl ?_ ?_
  · simp only [List.map_cons, List.map_nil, r0, r1, r2, r3, r4, Option.map_some, walkB]
    rfl
  · exact hK
set_option maxHeartbeats 4000000 in
set_option maxRecDepth 100000 in
theorem walk_core (d : D) (k : Nat) (l : List D) (outer : Int) (h0 s0 : Bool) (b0 : Int) (hn : l.length ≤ 100000000)
    (ih : ∀ i, i < l.length → ∀ (outer : Int) (h s : Bool) (b : Int), ACB EN5 Tryd.prog 28 ([.sl 63 ((gD l i).f 7).l, .c (.int .i64 outer)] ++ walkA) (walkB d h s b) (.tup []) (walkB d (foldW (h, s, b) (hintsL (d.f 0).l k ((gD l i).f 7).l outer)).1 (foldW (h, s, b) (hintsL (d.f 0).l k ((gD l i).f 7).l outer)).2.1 (foldW (h, s, b) (hintsL (d.f 0).l k ((gD l i).f 7).l outer)).2.2)) :
    ACB EN5 Tryd.prog 28 ([.sl 63 l, .c (.int .i64 outer)] ++ walkA) (walkB d h0 s0 b0) (.tup []) (walkB d (foldW (h0, s0, b0) (upto (d.f 0).l k l outer l.length)).1 (foldW (h0, s0, b0) (upto (d.f 0).l k l outer l.length)).2.1 (foldW (h0, s0, b0) (upto (d.f 0).l k l outer l.length)).2.2) := by
  have ho := own_ac d
  refine acb_enter (fn := Tryd.f28) 60 Tryd.func28 rfl rfl ?_
  intro pas s w he hp
  repeat' (first
    | refine aw_seq ?_
    | refine aw_region ?_
    | refine awo_nil ?_
    | refine k_seq ?_
    | refine k_block ?_
    | refine k_scope ?_
    | refine aw_block ?_
    | refine aw_skip ?_
    | refine aw_label ?_
    | refine aw_scope ?_
    | (apply s_pick_t rfl rfl
       · conv => lhs; whnf
       · conv => lhs; whnf
       · first | exact bT1 (by assumption) | exact bT2 (by assumption))
    | (apply s_pick_f rfl rfl
       · conv => lhs; whnf
       · conv => lhs; whnf
       · first | exact bF1 (by assumption) | exact bF2 (by assumption))
    | (apply s_val rfl
       · conv => lhs; whnf
       · conv => lhs; whnf; arg 2; whnf)
    | (apply s_call rfl
       · conv => lhs; whnf
       · conv => lhs; whnf
       · first | fail)
    | (apply s_alloc rfl rfl rfl rfl
       · conv => lhs; whnf; arg 1; whnf
       · rfl)
    | (apply s_store rfl rfl rfl
       · conv => lhs; whnf
       · conv => lhs; whnf; arg 1; whnf
       · conv => lhs; whnf; arg 1; whnf
       · exact ⟨by kernel_rfl, by kernel_rfl⟩
       · rfl)
    | (apply s_wanted_val rfl
       · conv => lhs; whnf
       · conv => lhs; whnf
       · first | rfl | assumption
       · conv => lhs; whnf; arg 2; whnf)
    | (apply s_wanted_call rfl
       · conv => lhs; whnf
       · conv => lhs; whnf
       · first | rfl | assumption
       · conv => lhs; whnf
       · first | fail)
    | (apply s_skip rfl
       · conv => lhs; whnf
       · conv => lhs; whnf
       · first | rfl | assumption)
    | (apply s_guard_val rfl
       · conv => lhs; whnf
       · conv => lhs; whnf
       · conv => lhs; whnf; arg 2; whnf)
    | (apply s_guard_call rfl
       · conv => lhs; whnf
       · conv => lhs; whnf
       · conv => lhs; whnf
       · first | fail)
    | (apply aw_cond_t
       · conv => lhs; whnf; arg 1; arg 1; whnf)
    | (apply aw_cond_f
       · conv => lhs; whnf; arg 1; arg 1; whnf)
    | (refine aw_cond (by conv => lhs; whnf) ?_ ?_ <;> intro hb)
    | refine aw_ret ?_
    | refine aw_exit ?_
    | refine k_seq_exit ?_
    | refine k_seq_ret ?_
    | refine k_block_ret ?_
    | refine k_block_hit rfl ?_
    | refine k_block_miss rfl ?_
    | refine k_scope_exit ?_
    | refine k_scope_ret ?_
    | refine k_loop_exit ?_
    | refine k_loop_ret ?_
    | refine k_endB ⟨?_, ?_⟩
    | refine k_endB_ret ⟨?_, ?_⟩
    | exact (rfl : _ = V.tup [])
    | (refine ⟨_, by conv => lhs; whnf; arg 2; whnf, ?_⟩; conv => rhs; whnf)
    | exact trivial
    | intro hg)
  refine aw_loop (fun j st => ∃ i, i + j = l.length ∧ Sub ⟨Tryd.prog, pas, s, w, EN5, he, hp⟩ st (HW d l outer (foldW (h0, s0, b0) (upto (d.f 0).l k l outer i)) i)) l.length ⟨0, by omega, ?_⟩ ?_
  · exact Sub.live ⟨rfl, rfl, rfl, rfl, rfl, rfl, rfl, rfl, rfl, trivial⟩ ⟨rfl, rfl, rfl, rfl, rfl, trivial⟩
  · rintro j st ⟨i, hij, hs2⟩
    refine aw_sub hs2 ?_
    clear hs2
    have ih2 := fun (h : decide ((i : Int) < (l.length : Int)) = true) => ih i (by simpa using h)
    generalize hF : foldW (h0, s0, b0) (upto (d.f 0).l k l outer i) = F
    obtain ⟨h1, s1, b1⟩ := F
    repeat' (first
    | (apply s_walk rfl rfl rfl rfl
       · conv => lhs; whnf
       · rfl
       · rfl
       · rfl
       · rfl
       · rfl
       · rfl
       · exact ih2 (by assumption) _ _ _ _)
    | refine aw_seq ?_
    | refine aw_region ?_
    | refine awo_nil ?_
    | refine k_seq ?_
    | refine k_block ?_
    | refine k_scope ?_
    | refine aw_block ?_
    | refine aw_skip ?_
    | refine aw_label ?_
    | refine aw_scope ?_
    | (apply s_pick_t rfl rfl
       · conv => lhs; whnf
       · conv => lhs; whnf
       · first | exact bT1 (by assumption) | exact bT2 (by assumption))
    | (apply s_pick_f rfl rfl
       · conv => lhs; whnf
       · conv => lhs; whnf
       · first | exact bF1 (by assumption) | exact bF2 (by assumption))
    | (apply s_val rfl
       · conv => lhs; whnf
       · conv => lhs; whnf; arg 2; whnf)
    | (apply s_call rfl
       · conv => lhs; whnf
       · conv => lhs; whnf
       · first | exact ho _ _)
    | (apply s_alloc rfl rfl rfl rfl
       · conv => lhs; whnf; arg 1; whnf
       · rfl)
    | (apply s_store rfl rfl rfl
       · conv => lhs; whnf
       · conv => lhs; whnf; arg 1; whnf
       · conv => lhs; whnf; arg 1; whnf
       · exact ⟨by kernel_rfl, by kernel_rfl⟩
       · rfl)
    | (apply s_wanted_val rfl
       · conv => lhs; whnf
       · conv => lhs; whnf
       · first | rfl | assumption
       · conv => lhs; whnf; arg 2; whnf)
    | (apply s_wanted_call rfl
       · conv => lhs; whnf
       · conv => lhs; whnf
       · first | rfl | assumption
       · conv => lhs; whnf
       · first | exact ho _ _)
    | (apply s_skip rfl
       · conv => lhs; whnf
       · conv => lhs; whnf
       · first | rfl | assumption)
    | (apply s_guard_val rfl
       · conv => lhs; whnf
       · conv => lhs; whnf
       · conv => lhs; whnf; arg 2; whnf)
    | (apply s_guard_call rfl
       · conv => lhs; whnf
       · conv => lhs; whnf
       · conv => lhs; whnf
       · first | exact ho _ _)
    | (apply aw_cond_t
       · conv => lhs; whnf; arg 1; arg 1; whnf)
    | (apply aw_cond_f
       · conv => lhs; whnf; arg 1; arg 1; whnf)
    | (refine aw_cond (by conv => lhs; whnf) ?_ ?_ <;> intro hb)
    | refine aw_ret ?_
    | refine aw_exit ?_
    | refine k_seq_exit ?_
    | refine k_seq_ret ?_
    | refine k_block_ret ?_
    | refine k_block_hit rfl ?_
    | refine k_block_miss rfl ?_
    | refine k_scope_exit ?_
    | refine k_scope_ret ?_
    | refine k_loop_exit ?_
    | refine k_loop_ret ?_
    | refine k_endB ⟨?_, ?_⟩
    | refine k_endB_ret ⟨?_, ?_⟩
    | exact (rfl : _ = V.tup [])
    | (refine ⟨_, by conv => lhs; whnf; arg 2; whnf, ?_⟩; conv => rhs; whnf)
    | exact trivial
    | intro hg)
    all_goals try (exact i64_in (by omega))
    all_goals try (exact (⟨by omega, by have h : decide ((i : Int) < (l.length : Int)) = true := by assumption
                                        simp at h; omega⟩ : 0 ≤ (i : Int) ∧ (i : Int) < (l.length : Int)))
    · have ht : isTn ((gD l i).f 2).s = true := by assumption
      have hs := foldW_next (d.f 0).l k l outer i (h0, s0, b0)
      rw [hF, hintsX_tn ht] at hs
      have hs : foldW (h0, s0, b0) (upto (d.f 0).l k l outer (i + 1)) = (h1, s1, b1) := hs
      have hlt : i < l.length := by have h : decide ((i : Int) < (l.length : Int)) = true := by assumption
                                    simpa using h
      refine k_loop_next (j' := j - 1) (by omega) ⟨i + 1, by omega, Sub.live ⟨rfl, rfl, rfl, rfl, rfl, rfl, rfl, rfl, rfl, trivial⟩ ?_⟩
      rw [hs]
      exact ⟨rfl, rfl, rfl, rfl, rfl, trivial⟩
    rotate_right 1
    · have e : i = l.length := by have h : decide ((i : Int) < (l.length : Int)) = false := by assumption
                                  simp at h; omega
      subst e
      rw [hF]
      exact ⟨rfl, rfl, rfl, rfl, rfl, trivial⟩
    all_goals (cases h1 <;> cases s1)
    all_goals try (exfalso; clear ih ih2 hF ho; simp_all; done)
    all_goals
      have ht : isTn ((gD l i).f 2).s = false := by assumption
      have hs := foldW_next (d.f 0).l k l outer i (h0, s0, b0)
      rw [hF, hintsX_no ht] at hs
      have hlt : i < l.length := by have h : decide ((i : Int) < (l.length : Int)) = true := by assumption
                                    simpa using h
      first
        | rw [pickN_leaf (by assumption) (by assumption)] at hs
        | rw [pickN_in (by assumption)] at hs
        | rw [pickN_is (by assumption)] at hs
      unfold foldW at hs
      rw [List.foldl_cons] at hs
      first
        | rw [stW_new] at hs
        | rw [stW_lt (by assumption)] at hs
        | rw [stW_ge (by assumption)] at hs
      refine k_loop_next (j' := j - 1) (by omega) ⟨i + 1, by omega, Sub.live ⟨rfl, rfl, rfl, rfl, rfl, rfl, rfl, rfl, rfl, trivial⟩ ?_⟩
      unfold foldW
      rw [hs]
      first
        | exact ⟨rfl, rfl, rfl, rfl, rfl, trivial⟩
end Go.Proofs.YtjhjleanihgopaaDoor
namespace Go.Proofs.YtjhjleanihgopaaDoor
open Go.RowKit
attribute [local irreducible] wpList Calls Code.wp AW AWo OpOk seqK blockK scopeK loopK endK endKB AC ACB absLex Yld Sub
set_option maxRecDepth 100000 in
theorem bulkL_len (l : List D) : l.length ≤ bulkL l := by
  induction l with
  | nil => simp [bulkL]
  | cons d r ih =>
    have : 1 ≤ bulkD d := by cases d <;> simp [bulkD]
    simp only [bulkL, List.length_cons]; omega
set_option maxRecDepth 100000 in
theorem bulk_at : ∀ {l : List D} {i : Nat}, i < l.length → bulkD (gD l i) ≤ bulkL l
  | [], i, h => by simp at h
  | d :: r, 0, _ => by show bulkD d ≤ bulkD d + bulkL r; omega
  | d :: r, i + 1, h => by
    have := bulk_at (l := r) (i := i) (by simpa using h)
    show bulkD (gD r i) ≤ bulkD d + bulkL r
    omega
set_option maxRecDepth 100000 in
theorem pick_bulk {k : Nat} {x : D} (h : Fits Tryd.prog (k + 1) 63 x) : bulkL (x.f 7).l ≤ bulkD x := by
  unfold Fits at h
  rw [Tryd.underlying63] at h
  obtain ⟨l, rfl, hl, hf⟩ := h
  have h7 : Fits Tryd.prog k 25 (gD l 7) := hf 7 _ rfl
  have hl7 : 7 < l.length := by rw [hl]; decide
  have hb := bulk_at hl7
  cases k with
  | zero => exact h7.elim
  | succ k =>
    unfold Fits at h7
    rw [Tryd.underlying25] at h7
    obtain ⟨l2, e, -⟩ := h7
    have e2 : ((D.obj l).f 7).l = l2 := by show (gD l 7).l = l2; rw [e]; rfl
    rw [e2]
    rw [e] at hb
    have e3 : bulkD (D.list l2) = bulkL l2 + 1 := by simp [bulkD]
    have e4 : bulkD (D.obj l) = bulkL l + 1 := by simp [bulkD]
    omega
set_option maxRecDepth 100000 in
theorem pick_bulk2 {k : Nat} {x : D} (h : Fits Tryd.prog (k + 1) 63 x) : bulkL (x.f 7).l + 1 ≤ bulkD x := by
  have h1 := pick_bulk h
  have h2 : bulkL (x.f 7).l < bulkD x := by
    unfold Fits at h
    rw [Tryd.underlying63] at h
    obtain ⟨l, rfl, hl, hf⟩ := h
    have hl7 : 7 < l.length := by rw [hl]; decide
    have hb := bulk_at hl7
    have h7 : Fits Tryd.prog k 25 (gD l 7) := hf 7 _ rfl
    cases k with
    | zero => exact h7.elim
    | succ k =>
      unfold Fits at h7
      rw [Tryd.underlying25] at h7
      obtain ⟨l2, e, -⟩ := h7
      have e2 : ((D.obj l).f 7).l = l2 := by show (gD l 7).l = l2; rw [e]; rfl
      rw [e2]
      rw [e] at hb
      have e3 : bulkD (D.list l2) = bulkL l2 + 1 := by simp [bulkD]
      have e4 : bulkD (D.obj l) = bulkL l + 1 := by simp [bulkD]
      omega
  omega
set_option maxRecDepth 100000 in
theorem bulk_sum (l : List D) : bulkL l = ((List.range l.length).map fun i => bulkD (gD l i)).sum := by
  have key : ∀ (l : List D), bulkL l = (l.map bulkD).sum := fun l => by
    induction l with
    | nil => rfl
    | cons d r ih => simp [bulkL, ih]
  rw [key]
  congr 1
  apply List.ext_getElem (by simp)
  intro i h1 h2
  simp [gD_get (l := l) (i := i) (by simpa using h1)]
set_option maxRecDepth 100000 in
theorem hints_upto (dl : List D) (k : Nat) (l : List D) (outer : Int) : hintsL dl (k + 1) l outer = upto dl k l outer l.length := rfl
set_option maxRecDepth 100000 in
theorem walk_acb (d : D) : ∀ (k : Nat) (l : List D) (outer : Int) (h s : Bool) (b : Int), (∀ i, i < l.length → Fits Tryd.prog k 63 (gD l i)) → bulkL l ≤ 100000000 →
    ACB EN5 Tryd.prog 28 ([.sl 63 l, .c (.int .i64 outer)] ++ walkA) (walkB d h s b) (.tup []) (walkB d (foldW (h, s, b) (hintsL (d.f 0).l k l outer)).1 (foldW (h, s, b) (hintsL (d.f 0).l k l outer)).2.1 (foldW (h, s, b) (hintsL (d.f 0).l k l outer)).2.2)
  | 0, l, outer, h, s, b, hf, hb => by
    have e : l = [] := by
      cases l with
      | nil => rfl
      | cons x r => exact (hf 0 (Nat.succ_pos _)).elim
    subst e
    exact walk_core d 0 [] outer h s b (by simp) fun i hi => absurd hi (Nat.not_lt_zero _)
  | k + 1, l, outer, h, s, b, hf, hb => by
    rw [hints_upto]
    have hl := bulkL_len l
    exact walk_core d k l outer h s b (by omega) fun i hi outer h s b => walk_acb d k _ outer h s b (pick_fits (hf i hi)) (by have := bulk_at hi; have := pick_bulk (hf i hi); omega)
set_option maxRecDepth 100000 in
theorem s_walk0 {X : Cx} {nn : Nat} {st : Vst nn} {o : Oper} {ops : Array Oper} {l : List Oper} {dst : Option Tmp} {KK : Vst nn → Prop} {vs : List V} {l2 : List D} {n b b' : Int} {h s h' s' : Bool} {d : D} (hX : X.P = Tryd.prog) (hE : X.e = EN5) (hg : o.guard = none) (hd : o.dst = dst)
    (ha : act1 X.P st.rs (ev st) o.op = .call 28 vs) (hv : vs = [.sl 63 l2, .c (.int .i64 n), .bx 2 0, .bx 7 0, .bx 6 0, .bx 5 0, .bx 8 0]) (r0 : st.rs 2 = some (.box 24 (cellsV Tryd.prog 12 24 d))) (r1 : st.rs 7 = some (.box 4 [.c (.bool h)])) (r2 : st.rs 6 = some (.box 4 [.c (.bool s)])) (r3 : st.rs 5 = some (.box 3 [.c (.int .i64 b)]))
    (r4 : st.rs 8 = some (.box 68 [.clo 28 [.bx 2 0, .bx 7 0, .bx 6 0, .bx 5 0, .bx 8 0]])) (hc : ACB EN5 Tryd.prog 28 ([.sl 63 l2, .c (.int .i64 n)] ++ walkA) (walkB d h s b) (.tup []) (walkB d h' s' b'))
    (hK : AWo X ops l ((st.resN [2, 7, 6, 5, 8] ((walkB d h' s' b').map (renR (φout [2, 7, 6, 5, 8])))).put dst (.tup [])) KK) : AWo X ops (o :: l) st KK := by
  subst hv
  rw [← hX, ← hE] at hc
  refine s_callB [2, 7, 6, 5, 8] hg hd ha hc (by decide) rfl ?_ hK
  simp only [List.map_cons, List.map_nil, r0, r1, r2, r3, r4, Option.map_some, walkB]
  rfl
def ofV (dl : List D) (K : Nat) (p : D) : Int × Bool :=
  if ((p.f 0).n != 1) = true then (0, false) else ((foldW (false, false, 0) (hintsL dl K (p.f 1).l 0)).2.2, (foldW (false, false, 0) (hintsL dl K (p.f 1).l 0)).1)
set_option maxRecDepth 100000 in
theorem of_ac (d p : D) (K : Nat) (hf : ∀ i, i < (p.f 1).l.length → Fits Tryd.prog K 63 (gD (p.f 1).l i)) (hb0 : bulkL (p.f 1).l ≤ 100000000) :
    AC EN5 Tryd.prog 13 [.agg (cellsV Tryd.prog 12 24 d), .agg (cellsV Tryd.prog 12 27 p)] (.agg [.c (.int .i64 (ofV (d.f 0).l K p).1), .c (.bool (ofV (d.f 0).l K p).2)]) := by
  have hw := walk_acb d K (p.f 1).l 0 false false 0 hf hb0
  refine ac_enter 21 Tryd.func13 rfl rfl rfl rfl ?_
  intro s w he
  repeat' (first
    | (apply s_walk0 rfl rfl rfl rfl
       · conv => lhs; whnf
       · rfl
       · rfl
       · rfl
       · rfl
       · rfl
       · rfl
       · exact hw)
    | refine aw_seq ?_
    | refine aw_region ?_
    | refine awo_nil ?_
    | refine k_seq ?_
    | refine k_block ?_
    | refine k_scope ?_
    | refine aw_block ?_
    | refine aw_skip ?_
    | refine aw_label ?_
    | refine aw_scope ?_
    | (apply s_val rfl
       · conv => lhs; whnf
       · conv => lhs; whnf; arg 2; whnf)
    | (apply s_call rfl
       · conv => lhs; whnf
       · conv => lhs; whnf
       · first | fail)
    | (apply s_box rfl rfl rfl rfl
       · conv => lhs; whnf; arg 1; whnf
       · rfl)
    | (apply s_alloc rfl rfl rfl rfl
       · conv => lhs; whnf; arg 1; whnf
       · rfl)
    | (apply s_store rfl rfl rfl
       · conv => lhs; whnf
       · conv => lhs; whnf; arg 1; whnf
       · conv => lhs; whnf; arg 1; whnf
       · exact ⟨by kernel_rfl, by kernel_rfl⟩
       · rfl)
    | (apply aw_cond_t
       · conv => lhs; whnf; arg 1; arg 1; whnf)
    | (apply aw_cond_f
       · conv => lhs; whnf; arg 1; arg 1; whnf)
    | (refine aw_cond (by conv => lhs; whnf) ?_ ?_ <;> intro hb)
    | refine aw_ret ?_
    | refine aw_exit ?_
    | refine k_seq_exit ?_
    | refine k_seq_ret ?_
    | refine k_block_ret ?_
    | refine k_block_hit rfl ?_
    | refine k_block_miss rfl ?_
    | refine k_scope_exit ?_
    | refine k_scope_ret ?_
    | refine k_loop_exit ?_
    | refine k_loop_ret ?_
    | refine k_end ?_
    | refine k_end_ret ?_
    | (refine ⟨_, by conv => lhs; whnf; arg 2; whnf, ?_⟩; conv => rhs; whnf)
    | exact trivial
    | intro hg)
  · have e : ofV (d.f 0).l K p = (0, false) := by unfold ofV; rw [if_pos hb]
    rw [e]; rfl
  · have e : ofV (d.f 0).l K p = ((foldW (false, false, 0) (hintsL (d.f 0).l K (p.f 1).l 0)).2.2, (foldW (false, false, 0) (hintsL (d.f 0).l K (p.f 1).l 0)).1) := by unfold ofV; rw [if_neg (by rw [hb]; decide)]
    rw [e]; rfl
end Go.Proofs.YtjhjleanihgopaaDoor
