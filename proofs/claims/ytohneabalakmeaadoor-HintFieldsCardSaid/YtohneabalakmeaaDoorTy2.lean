/- What the cells of each type are, with the fuel hidden. By a program of this repo (types2.py). -/
import Derived.Test.YtohneabalakmeaaDoorTy
namespace Go.Proofs.YtohneabalakmeaaDoor
open Go.RowKit
/-- the cells cs, of type T, read as d -/
def Rv (w : World) (T : TypeId) (cs : Array Value) (d : D) : Prop := ∃ k, Rep Tryd.prog w (fun b => b < w.heap.size) k T cs.toList d
/-- the slice at A reads as l, its elements of type e -/
def Rs (w : World) (e : TypeId) (A : Option Addr) (l : List D) : Prop := ∃ k, Sl Tryd.prog w (fun b => b < w.heap.size) k e A l
theorem Rv.under {w w' : World} {T : TypeId} {cs : Array Value} {d : D} (h : Rv w T cs d) (hb : Below w.heap.size w w') : Rv w' T cs d := by
  obtain ⟨k, h⟩ := h; exact ⟨k, h.under hb⟩
theorem Rs.under {w w' : World} {e : TypeId} {A : Option Addr} {l : List D} (h : Rs w e A l) (hb : Below w.heap.size w w') : Rs w' e A l := by
  obtain ⟨k, h⟩ := h; exact ⟨k, h.under hb⟩
theorem Rs.nil (w : World) (e : TypeId) (A : Option Addr) : Rs w e A [] := ⟨0, Sl.nil _ _ _⟩
theorem wfr {n : Int} (h : (Lit.int .i64 n).wf = true) : -9223372036854775808 ≤ n ∧ n ≤ 9223372036854775807 := by
  simp only [Lit.wf, Bool.and_eq_true, decide_eq_true_eq] at h
  obtain ⟨h1, h2⟩ := h
  have h3 : (n : Int) < 9223372036854775808 := Int.lt_of_le_of_lt h2 (by decide)
  exact ⟨Int.le_trans (by decide) h1, by omega⟩
theorem Rep.z_int {P : Program} {w : World} {I : Nat → Prop} {k : Nat} {t : TypeId} (ht : P.underlying t = some (.int .i64)) : Rep P w I (k + 1) t [.int .i64 0] default := by
  unfold Rep; rw [ht]; exact ⟨rfl, by decide⟩
theorem Rep.z_bool {P : Program} {w : World} {I : Nat → Prop} {k : Nat} {t : TypeId} (ht : P.underlying t = some .bool) : Rep P w I (k + 1) t [.bool false] default := by
  unfold Rep; rw [ht]; rfl
theorem Rep.z_string {P : Program} {w : World} {I : Nat → Prop} {k : Nat} {t : TypeId} (ht : P.underlying t = some .string) : Rep P w I (k + 1) t [.string ⟨#[]⟩] default := by
  unfold Rep; rw [ht]; exact ⟨rfl, by decide⟩
theorem Rep.z_slice {P : Program} {w : World} {I : Nat → Prop} {k : Nat} {t e : TypeId} (ht : P.underlying t = some (.slice e)) : Rep P w I (k + 1) t [.slice none 0 0] default := by
  unfold Rep; rw [ht]; exact ⟨none, 0, rfl, Nat.le_refl _, by decide, fun _ => rfl, fun h => absurd h (by decide)⟩
theorem default_f (j : Nat) : (default : D).f j = default := rfl
def In33 (w : World) (cs : Array Value) (d : D) : Prop := cs = #[.int .i64 (d.f 0).n, .bool (d.f 1).b] ∧ (-9223372036854775808 ≤ (d.f 0).n ∧ (d.f 0).n ≤ 9223372036854775807)
def At33 (w : World) (b o : Nat) (d : D) : Prop := w.cell? ⟨b, o, none⟩ = some (.int .i64 (d.f 0).n) ∧ w.cell? ⟨b, o + 1, none⟩ = some (.bool (d.f 1).b) ∧ (-9223372036854775808 ≤ (d.f 0).n ∧ (d.f 0).n ≤ 9223372036854775807) ∧ Rv w 33 #[.int .i64 (d.f 0).n, .bool (d.f 1).b] d
set_option maxRecDepth 100000 in
theorem in33 {w : World} {cs : Array Value} {d : D} (h : Rv w 33 cs d) : In33 w cs d := by
  obtain ⟨k, h⟩ := h
  obtain ⟨e, r0⟩ := open33_any h
  exact ⟨Array.ext' e, wfr r0⟩
set_option maxRecDepth 100000 in
theorem at33 {w : World} {A : Option Addr} {l : List D} (h : Rs w 33 A l) (hp : 0 < l.length) : ∃ b off, A = some ⟨b, off, none⟩ ∧ b < w.heap.size ∧ ∀ i, i < l.length → At33 w b (off + i * 2) (gD l i) := by
  obtain ⟨k, h⟩ := h
  obtain ⟨b, off, hA, hb, hi⟩ := h hp (by rw [cells33]; omega)
  refine ⟨b, off, hA, hb, fun i hil => ?_⟩
  obtain ⟨ys, y1, y2, y3⟩ := hi i hil
  rw [cells33] at y2
  have y4 : Rv w 33 ys.toArray (gD l i) := ⟨k, by simpa using y3⟩
  obtain ⟨rfl, r0⟩ := open33_any y3
  exact ⟨y2 0 _ rfl, y2 1 _ rfl, wfr r0, y4⟩
set_option maxRecDepth 100000 in
theorem At33.under {w w' : World} {b o : Nat} {d : D} (h : At33 w b o d) (hl : b < w.heap.size) (hb : Below w.heap.size w w') : At33 w' b o d := by
  obtain ⟨k0, k1, r0, y⟩ := h
  exact ⟨(hb.cell (p := ⟨b, _, none⟩) hl).trans k0, (hb.cell (p := ⟨b, _, none⟩) hl).trans k1, r0, y.under hb⟩
set_option maxRecDepth 100000 in
theorem zero33 {w : World} {I : Nat → Prop} (k : Nat) : Rep Tryd.prog w I (k + 3) 33 [.int .i64 0, .bool false] default := by
  refine Rep.mk_struct (ds := []) Tryd.underlying33 (by rw [cells33]; rfl) fun j f hf => ?_
  match j, hf with
  | 0, hf =>
    obtain rfl := Option.some.inj hf
    show Rep Tryd.prog w I (k + 2) 3 (([.int .i64 0, .bool false].drop 0).take (Tryd.prog.cellsOf 3)) default
    rw [cells3]
    exact Rep.z_int Tryd.underlying3
  | 1, hf =>
    obtain rfl := Option.some.inj hf
    show Rep Tryd.prog w I (k + 2) 4 (([.int .i64 0, .bool false].drop 1).take (Tryd.prog.cellsOf 4)) default
    rw [cells4]
    exact Rep.z_bool Tryd.underlying4
  | n + 2, hf => simp at hf
set_option maxRecDepth 100000 in
theorem zero33' {w : World} {I : Nat → Prop} (k : Nat) : Rep Tryd.prog w I (k + 2) 33 [.int .i64 0, .bool false] default := by
  refine Rep.mk_struct (ds := []) Tryd.underlying33 (by rw [cells33]; rfl) fun j f hf => ?_
  match j, hf with
  | 0, hf =>
    obtain rfl := Option.some.inj hf
    show Rep Tryd.prog w I (k + 1) 3 (([.int .i64 0, .bool false].drop 0).take (Tryd.prog.cellsOf 3)) default
    rw [cells3]
    exact Rep.z_int Tryd.underlying3
  | 1, hf =>
    obtain rfl := Option.some.inj hf
    show Rep Tryd.prog w I (k + 1) 4 (([.int .i64 0, .bool false].drop 1).take (Tryd.prog.cellsOf 4)) default
    rw [cells4]
    exact Rep.z_bool Tryd.underlying4
  | n + 2, hf => simp at hf
set_option maxRecDepth 100000 in
theorem rv_zero33 (w : World) : Rv w 33 #[.int .i64 0, .bool false] default := ⟨3, zero33 0⟩
def In42 (w : World) (cs : Array Value) (d : D) : Prop := ∃ (A0 : Option Addr) (c0 : Nat), cs = #[.slice A0 (d.f 0).l.length c0] ∧ ((d.f 0).l.length ≤ c0 ∧ c0 ≤ maxLen ∧ (A0 = none → c0 = 0) ∧ Rs w 58 A0 (d.f 0).l)
def At42 (w : World) (b o : Nat) (d : D) : Prop := ∃ (A0 : Option Addr) (c0 : Nat), w.cell? ⟨b, o, none⟩ = some (.slice A0 (d.f 0).l.length c0) ∧ ((d.f 0).l.length ≤ c0 ∧ c0 ≤ maxLen ∧ (A0 = none → c0 = 0) ∧ Rs w 58 A0 (d.f 0).l) ∧ Rv w 42 #[.slice A0 (d.f 0).l.length c0] d
set_option maxRecDepth 100000 in
theorem in42 {w : World} {cs : Array Value} {d : D} (h : Rv w 42 cs d) : In42 w cs d := by
  obtain ⟨k, h⟩ := h
  obtain ⟨A0, c0, e, ⟨s0a, s0b, s0c, s0⟩⟩ := open42_any h
  exact ⟨A0, c0, Array.ext' e, ⟨s0a, s0b, s0c, ⟨_, s0⟩⟩⟩
set_option maxRecDepth 100000 in
theorem at42 {w : World} {A : Option Addr} {l : List D} (h : Rs w 42 A l) (hp : 0 < l.length) : ∃ b off, A = some ⟨b, off, none⟩ ∧ b < w.heap.size ∧ ∀ i, i < l.length → At42 w b (off + i * 1) (gD l i) := by
  obtain ⟨k, h⟩ := h
  obtain ⟨b, off, hA, hb, hi⟩ := h hp (by rw [cells42]; omega)
  refine ⟨b, off, hA, hb, fun i hil => ?_⟩
  obtain ⟨ys, y1, y2, y3⟩ := hi i hil
  rw [cells42] at y2
  have y4 : Rv w 42 ys.toArray (gD l i) := ⟨k, by simpa using y3⟩
  obtain ⟨A0, c0, rfl, ⟨s0a, s0b, s0c, s0⟩⟩ := open42_any y3
  exact ⟨A0, c0, y2 0 _ rfl, ⟨s0a, s0b, s0c, ⟨_, s0⟩⟩, y4⟩
set_option maxRecDepth 100000 in
theorem At42.under {w w' : World} {b o : Nat} {d : D} (h : At42 w b o d) (hl : b < w.heap.size) (hb : Below w.heap.size w w') : At42 w' b o d := by
  obtain ⟨A0, c0, k0, ⟨s0a, s0b, s0c, s0⟩, y⟩ := h
  exact ⟨A0, c0, (hb.cell (p := ⟨b, _, none⟩) hl).trans k0, ⟨s0a, s0b, s0c, s0.under hb⟩, y.under hb⟩
set_option maxRecDepth 100000 in
theorem zero42 {w : World} {I : Nat → Prop} (k : Nat) : Rep Tryd.prog w I (k + 3) 42 [.slice none 0 0] default := by
  refine Rep.mk_struct (ds := []) Tryd.underlying42 (by rw [cells42]; rfl) fun j f hf => ?_
  match j, hf with
  | 0, hf =>
    obtain rfl := Option.some.inj hf
    show Rep Tryd.prog w I (k + 2) 40 (([.slice none 0 0].drop 0).take (Tryd.prog.cellsOf 40)) default
    rw [cells40]
    exact Rep.z_slice Tryd.underlying40
  | n + 1, hf => simp at hf
set_option maxRecDepth 100000 in
theorem zero42' {w : World} {I : Nat → Prop} (k : Nat) : Rep Tryd.prog w I (k + 2) 42 [.slice none 0 0] default := by
  refine Rep.mk_struct (ds := []) Tryd.underlying42 (by rw [cells42]; rfl) fun j f hf => ?_
  match j, hf with
  | 0, hf =>
    obtain rfl := Option.some.inj hf
    show Rep Tryd.prog w I (k + 1) 40 (([.slice none 0 0].drop 0).take (Tryd.prog.cellsOf 40)) default
    rw [cells40]
    exact Rep.z_slice Tryd.underlying40
  | n + 1, hf => simp at hf
set_option maxRecDepth 100000 in
theorem rv_zero42 (w : World) : Rv w 42 #[.slice none 0 0] default := ⟨3, zero42 0⟩
def In49 (w : World) (cs : Array Value) (d : D) : Prop := ∃ (A3 : Option Addr) (c3 : Nat) (A4 : Option Addr) (c4 : Nat), cs = #[.int .i64 (d.f 0).n, .int .i64 (d.f 1).n, .string (d.f 2).s, .slice A3 (d.f 3).l.length c3, .slice A4 (d.f 4).l.length c4] ∧ (-9223372036854775808 ≤ (d.f 0).n ∧ (d.f 0).n ≤ 9223372036854775807) ∧ (-9223372036854775808 ≤ (d.f 1).n ∧ (d.f 1).n ≤ 9223372036854775807) ∧ (d.f 2).s.size ≤ maxLen ∧ ((d.f 3).l.length ≤ c3 ∧ c3 ≤ maxLen ∧ (A3 = none → c3 = 0) ∧ Rs w 49 A3 (d.f 3).l) ∧ ((d.f 4).l.length ≤ c4 ∧ c4 ≤ maxLen ∧ (A4 = none → c4 = 0) ∧ Rs w 9 A4 (d.f 4).l)
def At49 (w : World) (b o : Nat) (d : D) : Prop := ∃ (A3 : Option Addr) (c3 : Nat) (A4 : Option Addr) (c4 : Nat), w.cell? ⟨b, o, none⟩ = some (.int .i64 (d.f 0).n) ∧ w.cell? ⟨b, o + 1, none⟩ = some (.int .i64 (d.f 1).n) ∧ w.cell? ⟨b, o + 2, none⟩ = some (.string (d.f 2).s) ∧ w.cell? ⟨b, o + 3, none⟩ = some (.slice A3 (d.f 3).l.length c3) ∧ w.cell? ⟨b, o + 4, none⟩ = some (.slice A4 (d.f 4).l.length c4) ∧ (-9223372036854775808 ≤ (d.f 0).n ∧ (d.f 0).n ≤ 9223372036854775807) ∧ (-9223372036854775808 ≤ (d.f 1).n ∧ (d.f 1).n ≤ 9223372036854775807) ∧ (d.f 2).s.size ≤ maxLen ∧ ((d.f 3).l.length ≤ c3 ∧ c3 ≤ maxLen ∧ (A3 = none → c3 = 0) ∧ Rs w 49 A3 (d.f 3).l) ∧ ((d.f 4).l.length ≤ c4 ∧ c4 ≤ maxLen ∧ (A4 = none → c4 = 0) ∧ Rs w 9 A4 (d.f 4).l) ∧ Rv w 49 #[.int .i64 (d.f 0).n, .int .i64 (d.f 1).n, .string (d.f 2).s, .slice A3 (d.f 3).l.length c3, .slice A4 (d.f 4).l.length c4] d
set_option maxRecDepth 100000 in
theorem in49 {w : World} {cs : Array Value} {d : D} (h : Rv w 49 cs d) : In49 w cs d := by
  obtain ⟨k, h⟩ := h
  obtain ⟨A3, c3, A4, c4, e, r0, r1, r2, ⟨s3a, s3b, s3c, s3⟩, ⟨s4a, s4b, s4c, s4⟩⟩ := open49_any h
  exact ⟨A3, c3, A4, c4, Array.ext' e, wfr r0, wfr r1, r2, ⟨s3a, s3b, s3c, ⟨_, s3⟩⟩, ⟨s4a, s4b, s4c, ⟨_, s4⟩⟩⟩
set_option maxRecDepth 100000 in
theorem at49 {w : World} {A : Option Addr} {l : List D} (h : Rs w 49 A l) (hp : 0 < l.length) : ∃ b off, A = some ⟨b, off, none⟩ ∧ b < w.heap.size ∧ ∀ i, i < l.length → At49 w b (off + i * 5) (gD l i) := by
  obtain ⟨k, h⟩ := h
  obtain ⟨b, off, hA, hb, hi⟩ := h hp (by rw [cells49]; omega)
  refine ⟨b, off, hA, hb, fun i hil => ?_⟩
  obtain ⟨ys, y1, y2, y3⟩ := hi i hil
  rw [cells49] at y2
  have y4 : Rv w 49 ys.toArray (gD l i) := ⟨k, by simpa using y3⟩
  obtain ⟨A3, c3, A4, c4, rfl, r0, r1, r2, ⟨s3a, s3b, s3c, s3⟩, ⟨s4a, s4b, s4c, s4⟩⟩ := open49_any y3
  exact ⟨A3, c3, A4, c4, y2 0 _ rfl, y2 1 _ rfl, y2 2 _ rfl, y2 3 _ rfl, y2 4 _ rfl, wfr r0, wfr r1, r2, ⟨s3a, s3b, s3c, ⟨_, s3⟩⟩, ⟨s4a, s4b, s4c, ⟨_, s4⟩⟩, y4⟩
set_option maxRecDepth 100000 in
theorem At49.under {w w' : World} {b o : Nat} {d : D} (h : At49 w b o d) (hl : b < w.heap.size) (hb : Below w.heap.size w w') : At49 w' b o d := by
  obtain ⟨A3, c3, A4, c4, k0, k1, k2, k3, k4, r0, r1, r2, ⟨s3a, s3b, s3c, s3⟩, ⟨s4a, s4b, s4c, s4⟩, y⟩ := h
  exact ⟨A3, c3, A4, c4, (hb.cell (p := ⟨b, _, none⟩) hl).trans k0, (hb.cell (p := ⟨b, _, none⟩) hl).trans k1, (hb.cell (p := ⟨b, _, none⟩) hl).trans k2, (hb.cell (p := ⟨b, _, none⟩) hl).trans k3, (hb.cell (p := ⟨b, _, none⟩) hl).trans k4, r0, r1, r2, ⟨s3a, s3b, s3c, s3.under hb⟩, ⟨s4a, s4b, s4c, s4.under hb⟩, y.under hb⟩
set_option maxRecDepth 100000 in
theorem zero49 {w : World} {I : Nat → Prop} (k : Nat) : Rep Tryd.prog w I (k + 3) 49 [.int .i64 0, .int .i64 0, .string ⟨#[]⟩, .slice none 0 0, .slice none 0 0] default := by
  refine Rep.mk_struct (ds := []) Tryd.underlying49 (by rw [cells49]; rfl) fun j f hf => ?_
  match j, hf with
  | 0, hf =>
    obtain rfl := Option.some.inj hf
    show Rep Tryd.prog w I (k + 2) 3 (([.int .i64 0, .int .i64 0, .string ⟨#[]⟩, .slice none 0 0, .slice none 0 0].drop 0).take (Tryd.prog.cellsOf 3)) default
    rw [cells3]
    exact Rep.z_int Tryd.underlying3
  | 1, hf =>
    obtain rfl := Option.some.inj hf
    show Rep Tryd.prog w I (k + 2) 3 (([.int .i64 0, .int .i64 0, .string ⟨#[]⟩, .slice none 0 0, .slice none 0 0].drop 1).take (Tryd.prog.cellsOf 3)) default
    rw [cells3]
    exact Rep.z_int Tryd.underlying3
  | 2, hf =>
    obtain rfl := Option.some.inj hf
    show Rep Tryd.prog w I (k + 2) 9 (([.int .i64 0, .int .i64 0, .string ⟨#[]⟩, .slice none 0 0, .slice none 0 0].drop 2).take (Tryd.prog.cellsOf 9)) default
    rw [cells9]
    exact Rep.z_string Tryd.underlying9
  | 3, hf =>
    obtain rfl := Option.some.inj hf
    show Rep Tryd.prog w I (k + 2) 46 (([.int .i64 0, .int .i64 0, .string ⟨#[]⟩, .slice none 0 0, .slice none 0 0].drop 3).take (Tryd.prog.cellsOf 46)) default
    rw [cells46]
    exact Rep.z_slice Tryd.underlying46
  | 4, hf =>
    obtain rfl := Option.some.inj hf
    show Rep Tryd.prog w I (k + 2) 47 (([.int .i64 0, .int .i64 0, .string ⟨#[]⟩, .slice none 0 0, .slice none 0 0].drop 4).take (Tryd.prog.cellsOf 47)) default
    rw [cells47]
    exact Rep.z_slice Tryd.underlying47
  | n + 5, hf => simp at hf
set_option maxRecDepth 100000 in
theorem zero49' {w : World} {I : Nat → Prop} (k : Nat) : Rep Tryd.prog w I (k + 2) 49 [.int .i64 0, .int .i64 0, .string ⟨#[]⟩, .slice none 0 0, .slice none 0 0] default := by
  refine Rep.mk_struct (ds := []) Tryd.underlying49 (by rw [cells49]; rfl) fun j f hf => ?_
  match j, hf with
  | 0, hf =>
    obtain rfl := Option.some.inj hf
    show Rep Tryd.prog w I (k + 1) 3 (([.int .i64 0, .int .i64 0, .string ⟨#[]⟩, .slice none 0 0, .slice none 0 0].drop 0).take (Tryd.prog.cellsOf 3)) default
    rw [cells3]
    exact Rep.z_int Tryd.underlying3
  | 1, hf =>
    obtain rfl := Option.some.inj hf
    show Rep Tryd.prog w I (k + 1) 3 (([.int .i64 0, .int .i64 0, .string ⟨#[]⟩, .slice none 0 0, .slice none 0 0].drop 1).take (Tryd.prog.cellsOf 3)) default
    rw [cells3]
    exact Rep.z_int Tryd.underlying3
  | 2, hf =>
    obtain rfl := Option.some.inj hf
    show Rep Tryd.prog w I (k + 1) 9 (([.int .i64 0, .int .i64 0, .string ⟨#[]⟩, .slice none 0 0, .slice none 0 0].drop 2).take (Tryd.prog.cellsOf 9)) default
    rw [cells9]
    exact Rep.z_string Tryd.underlying9
  | 3, hf =>
    obtain rfl := Option.some.inj hf
    show Rep Tryd.prog w I (k + 1) 46 (([.int .i64 0, .int .i64 0, .string ⟨#[]⟩, .slice none 0 0, .slice none 0 0].drop 3).take (Tryd.prog.cellsOf 46)) default
    rw [cells46]
    exact Rep.z_slice Tryd.underlying46
  | 4, hf =>
    obtain rfl := Option.some.inj hf
    show Rep Tryd.prog w I (k + 1) 47 (([.int .i64 0, .int .i64 0, .string ⟨#[]⟩, .slice none 0 0, .slice none 0 0].drop 4).take (Tryd.prog.cellsOf 47)) default
    rw [cells47]
    exact Rep.z_slice Tryd.underlying47
  | n + 5, hf => simp at hf
set_option maxRecDepth 100000 in
theorem rv_zero49 (w : World) : Rv w 49 #[.int .i64 0, .int .i64 0, .string ⟨#[]⟩, .slice none 0 0, .slice none 0 0] default := ⟨3, zero49 0⟩
def In62 (w : World) (cs : Array Value) (d : D) : Prop := ∃ (A1 : Option Addr) (c1 : Nat), cs = #[.string (d.f 0).s, .slice A1 (d.f 1).l.length c1] ∧ (d.f 0).s.size ≤ maxLen ∧ ((d.f 1).l.length ≤ c1 ∧ c1 ≤ maxLen ∧ (A1 = none → c1 = 0) ∧ Rs w 3 A1 (d.f 1).l)
def At62 (w : World) (b o : Nat) (d : D) : Prop := ∃ (A1 : Option Addr) (c1 : Nat), w.cell? ⟨b, o, none⟩ = some (.string (d.f 0).s) ∧ w.cell? ⟨b, o + 1, none⟩ = some (.slice A1 (d.f 1).l.length c1) ∧ (d.f 0).s.size ≤ maxLen ∧ ((d.f 1).l.length ≤ c1 ∧ c1 ≤ maxLen ∧ (A1 = none → c1 = 0) ∧ Rs w 3 A1 (d.f 1).l) ∧ Rv w 62 #[.string (d.f 0).s, .slice A1 (d.f 1).l.length c1] d
set_option maxRecDepth 100000 in
theorem in62 {w : World} {cs : Array Value} {d : D} (h : Rv w 62 cs d) : In62 w cs d := by
  obtain ⟨k, h⟩ := h
  obtain ⟨A1, c1, e, r0, ⟨s1a, s1b, s1c, s1⟩⟩ := open62_any h
  exact ⟨A1, c1, Array.ext' e, r0, ⟨s1a, s1b, s1c, ⟨_, s1⟩⟩⟩
set_option maxRecDepth 100000 in
theorem at62 {w : World} {A : Option Addr} {l : List D} (h : Rs w 62 A l) (hp : 0 < l.length) : ∃ b off, A = some ⟨b, off, none⟩ ∧ b < w.heap.size ∧ ∀ i, i < l.length → At62 w b (off + i * 2) (gD l i) := by
  obtain ⟨k, h⟩ := h
  obtain ⟨b, off, hA, hb, hi⟩ := h hp (by rw [cells62]; omega)
  refine ⟨b, off, hA, hb, fun i hil => ?_⟩
  obtain ⟨ys, y1, y2, y3⟩ := hi i hil
  rw [cells62] at y2
  have y4 : Rv w 62 ys.toArray (gD l i) := ⟨k, by simpa using y3⟩
  obtain ⟨A1, c1, rfl, r0, ⟨s1a, s1b, s1c, s1⟩⟩ := open62_any y3
  exact ⟨A1, c1, y2 0 _ rfl, y2 1 _ rfl, r0, ⟨s1a, s1b, s1c, ⟨_, s1⟩⟩, y4⟩
set_option maxRecDepth 100000 in
theorem At62.under {w w' : World} {b o : Nat} {d : D} (h : At62 w b o d) (hl : b < w.heap.size) (hb : Below w.heap.size w w') : At62 w' b o d := by
  obtain ⟨A1, c1, k0, k1, r0, ⟨s1a, s1b, s1c, s1⟩, y⟩ := h
  exact ⟨A1, c1, (hb.cell (p := ⟨b, _, none⟩) hl).trans k0, (hb.cell (p := ⟨b, _, none⟩) hl).trans k1, r0, ⟨s1a, s1b, s1c, s1.under hb⟩, y.under hb⟩
set_option maxRecDepth 100000 in
theorem zero62 {w : World} {I : Nat → Prop} (k : Nat) : Rep Tryd.prog w I (k + 3) 62 [.string ⟨#[]⟩, .slice none 0 0] default := by
  refine Rep.mk_struct (ds := []) Tryd.underlying62 (by rw [cells62]; rfl) fun j f hf => ?_
  match j, hf with
  | 0, hf =>
    obtain rfl := Option.some.inj hf
    show Rep Tryd.prog w I (k + 2) 9 (([.string ⟨#[]⟩, .slice none 0 0].drop 0).take (Tryd.prog.cellsOf 9)) default
    rw [cells9]
    exact Rep.z_string Tryd.underlying9
  | 1, hf =>
    obtain rfl := Option.some.inj hf
    show Rep Tryd.prog w I (k + 2) 60 (([.string ⟨#[]⟩, .slice none 0 0].drop 1).take (Tryd.prog.cellsOf 60)) default
    rw [cells60]
    exact Rep.z_slice Tryd.underlying60
  | n + 2, hf => simp at hf
set_option maxRecDepth 100000 in
theorem zero62' {w : World} {I : Nat → Prop} (k : Nat) : Rep Tryd.prog w I (k + 2) 62 [.string ⟨#[]⟩, .slice none 0 0] default := by
  refine Rep.mk_struct (ds := []) Tryd.underlying62 (by rw [cells62]; rfl) fun j f hf => ?_
  match j, hf with
  | 0, hf =>
    obtain rfl := Option.some.inj hf
    show Rep Tryd.prog w I (k + 1) 9 (([.string ⟨#[]⟩, .slice none 0 0].drop 0).take (Tryd.prog.cellsOf 9)) default
    rw [cells9]
    exact Rep.z_string Tryd.underlying9
  | 1, hf =>
    obtain rfl := Option.some.inj hf
    show Rep Tryd.prog w I (k + 1) 60 (([.string ⟨#[]⟩, .slice none 0 0].drop 1).take (Tryd.prog.cellsOf 60)) default
    rw [cells60]
    exact Rep.z_slice Tryd.underlying60
  | n + 2, hf => simp at hf
set_option maxRecDepth 100000 in
theorem rv_zero62 (w : World) : Rv w 62 #[.string ⟨#[]⟩, .slice none 0 0] default := ⟨3, zero62 0⟩
def In103 (w : World) (cs : Array Value) (d : D) : Prop := ∃ (A4 : Option Addr) (c4 : Nat) (A5 : Option Addr) (c5 : Nat), cs = #[.string (d.f 0).s, .int .i64 ((d.f 1).f 0).n, .int .i64 ((d.f 1).f 1).n, .string ((d.f 1).f 2).s, .slice A4 ((d.f 1).f 3).l.length c4, .slice A5 ((d.f 1).f 4).l.length c5] ∧ (d.f 0).s.size ≤ maxLen ∧ (-9223372036854775808 ≤ ((d.f 1).f 0).n ∧ ((d.f 1).f 0).n ≤ 9223372036854775807) ∧ (-9223372036854775808 ≤ ((d.f 1).f 1).n ∧ ((d.f 1).f 1).n ≤ 9223372036854775807) ∧ ((d.f 1).f 2).s.size ≤ maxLen ∧ (((d.f 1).f 3).l.length ≤ c4 ∧ c4 ≤ maxLen ∧ (A4 = none → c4 = 0) ∧ Rs w 49 A4 ((d.f 1).f 3).l) ∧ (((d.f 1).f 4).l.length ≤ c5 ∧ c5 ≤ maxLen ∧ (A5 = none → c5 = 0) ∧ Rs w 9 A5 ((d.f 1).f 4).l)
def At103 (w : World) (b o : Nat) (d : D) : Prop := ∃ (A4 : Option Addr) (c4 : Nat) (A5 : Option Addr) (c5 : Nat), w.cell? ⟨b, o, none⟩ = some (.string (d.f 0).s) ∧ w.cell? ⟨b, o + 1, none⟩ = some (.int .i64 ((d.f 1).f 0).n) ∧ w.cell? ⟨b, o + 2, none⟩ = some (.int .i64 ((d.f 1).f 1).n) ∧ w.cell? ⟨b, o + 3, none⟩ = some (.string ((d.f 1).f 2).s) ∧ w.cell? ⟨b, o + 4, none⟩ = some (.slice A4 ((d.f 1).f 3).l.length c4) ∧ w.cell? ⟨b, o + 5, none⟩ = some (.slice A5 ((d.f 1).f 4).l.length c5) ∧ (d.f 0).s.size ≤ maxLen ∧ (-9223372036854775808 ≤ ((d.f 1).f 0).n ∧ ((d.f 1).f 0).n ≤ 9223372036854775807) ∧ (-9223372036854775808 ≤ ((d.f 1).f 1).n ∧ ((d.f 1).f 1).n ≤ 9223372036854775807) ∧ ((d.f 1).f 2).s.size ≤ maxLen ∧ (((d.f 1).f 3).l.length ≤ c4 ∧ c4 ≤ maxLen ∧ (A4 = none → c4 = 0) ∧ Rs w 49 A4 ((d.f 1).f 3).l) ∧ (((d.f 1).f 4).l.length ≤ c5 ∧ c5 ≤ maxLen ∧ (A5 = none → c5 = 0) ∧ Rs w 9 A5 ((d.f 1).f 4).l) ∧ Rv w 103 #[.string (d.f 0).s, .int .i64 ((d.f 1).f 0).n, .int .i64 ((d.f 1).f 1).n, .string ((d.f 1).f 2).s, .slice A4 ((d.f 1).f 3).l.length c4, .slice A5 ((d.f 1).f 4).l.length c5] d
set_option maxRecDepth 100000 in
theorem in103 {w : World} {cs : Array Value} {d : D} (h : Rv w 103 cs d) : In103 w cs d := by
  obtain ⟨k, h⟩ := h
  obtain ⟨A4, c4, A5, c5, e, r0, r1, r2, r3, ⟨s4a, s4b, s4c, s4⟩, ⟨s5a, s5b, s5c, s5⟩⟩ := open103_any h
  exact ⟨A4, c4, A5, c5, Array.ext' e, r0, wfr r1, wfr r2, r3, ⟨s4a, s4b, s4c, ⟨_, s4⟩⟩, ⟨s5a, s5b, s5c, ⟨_, s5⟩⟩⟩
set_option maxRecDepth 100000 in
theorem at103 {w : World} {A : Option Addr} {l : List D} (h : Rs w 103 A l) (hp : 0 < l.length) : ∃ b off, A = some ⟨b, off, none⟩ ∧ b < w.heap.size ∧ ∀ i, i < l.length → At103 w b (off + i * 6) (gD l i) := by
  obtain ⟨k, h⟩ := h
  obtain ⟨b, off, hA, hb, hi⟩ := h hp (by rw [cells103]; omega)
  refine ⟨b, off, hA, hb, fun i hil => ?_⟩
  obtain ⟨ys, y1, y2, y3⟩ := hi i hil
  rw [cells103] at y2
  have y4 : Rv w 103 ys.toArray (gD l i) := ⟨k, by simpa using y3⟩
  obtain ⟨A4, c4, A5, c5, rfl, r0, r1, r2, r3, ⟨s4a, s4b, s4c, s4⟩, ⟨s5a, s5b, s5c, s5⟩⟩ := open103_any y3
  exact ⟨A4, c4, A5, c5, y2 0 _ rfl, y2 1 _ rfl, y2 2 _ rfl, y2 3 _ rfl, y2 4 _ rfl, y2 5 _ rfl, r0, wfr r1, wfr r2, r3, ⟨s4a, s4b, s4c, ⟨_, s4⟩⟩, ⟨s5a, s5b, s5c, ⟨_, s5⟩⟩, y4⟩
set_option maxRecDepth 100000 in
theorem At103.under {w w' : World} {b o : Nat} {d : D} (h : At103 w b o d) (hl : b < w.heap.size) (hb : Below w.heap.size w w') : At103 w' b o d := by
  obtain ⟨A4, c4, A5, c5, k0, k1, k2, k3, k4, k5, r0, r1, r2, r3, ⟨s4a, s4b, s4c, s4⟩, ⟨s5a, s5b, s5c, s5⟩, y⟩ := h
  exact ⟨A4, c4, A5, c5, (hb.cell (p := ⟨b, _, none⟩) hl).trans k0, (hb.cell (p := ⟨b, _, none⟩) hl).trans k1, (hb.cell (p := ⟨b, _, none⟩) hl).trans k2, (hb.cell (p := ⟨b, _, none⟩) hl).trans k3, (hb.cell (p := ⟨b, _, none⟩) hl).trans k4, (hb.cell (p := ⟨b, _, none⟩) hl).trans k5, r0, r1, r2, r3, ⟨s4a, s4b, s4c, s4.under hb⟩, ⟨s5a, s5b, s5c, s5.under hb⟩, y.under hb⟩
set_option maxRecDepth 100000 in
theorem zero103 {w : World} {I : Nat → Prop} (k : Nat) : Rep Tryd.prog w I (k + 3) 103 [.string ⟨#[]⟩, .int .i64 0, .int .i64 0, .string ⟨#[]⟩, .slice none 0 0, .slice none 0 0] default := by
  refine Rep.mk_struct (ds := []) Tryd.underlying103 (by rw [cells103]; rfl) fun j f hf => ?_
  match j, hf with
  | 0, hf =>
    obtain rfl := Option.some.inj hf
    show Rep Tryd.prog w I (k + 2) 9 (([.string ⟨#[]⟩, .int .i64 0, .int .i64 0, .string ⟨#[]⟩, .slice none 0 0, .slice none 0 0].drop 0).take (Tryd.prog.cellsOf 9)) default
    rw [cells9]
    exact Rep.z_string Tryd.underlying9
  | 1, hf =>
    obtain rfl := Option.some.inj hf
    show Rep Tryd.prog w I (k + 2) 49 (([.string ⟨#[]⟩, .int .i64 0, .int .i64 0, .string ⟨#[]⟩, .slice none 0 0, .slice none 0 0].drop 1).take (Tryd.prog.cellsOf 49)) default
    rw [cells49]
    exact zero49' k
  | n + 2, hf => simp at hf
set_option maxRecDepth 100000 in
theorem rv_zero103 (w : World) : Rv w 103 #[.string ⟨#[]⟩, .int .i64 0, .int .i64 0, .string ⟨#[]⟩, .slice none 0 0, .slice none 0 0] default := ⟨3, zero103 0⟩
def In101 (w : World) (cs : Array Value) (d : D) : Prop := ∃ (A1 : Option Addr) (c1 : Nat), cs = #[.string (d.f 0).s, .slice A1 (d.f 1).l.length c1] ∧ (d.f 0).s.size ≤ maxLen ∧ ((d.f 1).l.length ≤ c1 ∧ c1 ≤ maxLen ∧ (A1 = none → c1 = 0) ∧ Rs w 103 A1 (d.f 1).l)
def At101 (w : World) (b o : Nat) (d : D) : Prop := ∃ (A1 : Option Addr) (c1 : Nat), w.cell? ⟨b, o, none⟩ = some (.string (d.f 0).s) ∧ w.cell? ⟨b, o + 1, none⟩ = some (.slice A1 (d.f 1).l.length c1) ∧ (d.f 0).s.size ≤ maxLen ∧ ((d.f 1).l.length ≤ c1 ∧ c1 ≤ maxLen ∧ (A1 = none → c1 = 0) ∧ Rs w 103 A1 (d.f 1).l) ∧ Rv w 101 #[.string (d.f 0).s, .slice A1 (d.f 1).l.length c1] d
set_option maxRecDepth 100000 in
theorem in101 {w : World} {cs : Array Value} {d : D} (h : Rv w 101 cs d) : In101 w cs d := by
  obtain ⟨k, h⟩ := h
  obtain ⟨A1, c1, e, r0, ⟨s1a, s1b, s1c, s1⟩⟩ := open101_any h
  exact ⟨A1, c1, Array.ext' e, r0, ⟨s1a, s1b, s1c, ⟨_, s1⟩⟩⟩
set_option maxRecDepth 100000 in
theorem at101 {w : World} {A : Option Addr} {l : List D} (h : Rs w 101 A l) (hp : 0 < l.length) : ∃ b off, A = some ⟨b, off, none⟩ ∧ b < w.heap.size ∧ ∀ i, i < l.length → At101 w b (off + i * 2) (gD l i) := by
  obtain ⟨k, h⟩ := h
  obtain ⟨b, off, hA, hb, hi⟩ := h hp (by rw [cells101]; omega)
  refine ⟨b, off, hA, hb, fun i hil => ?_⟩
  obtain ⟨ys, y1, y2, y3⟩ := hi i hil
  rw [cells101] at y2
  have y4 : Rv w 101 ys.toArray (gD l i) := ⟨k, by simpa using y3⟩
  obtain ⟨A1, c1, rfl, r0, ⟨s1a, s1b, s1c, s1⟩⟩ := open101_any y3
  exact ⟨A1, c1, y2 0 _ rfl, y2 1 _ rfl, r0, ⟨s1a, s1b, s1c, ⟨_, s1⟩⟩, y4⟩
set_option maxRecDepth 100000 in
theorem At101.under {w w' : World} {b o : Nat} {d : D} (h : At101 w b o d) (hl : b < w.heap.size) (hb : Below w.heap.size w w') : At101 w' b o d := by
  obtain ⟨A1, c1, k0, k1, r0, ⟨s1a, s1b, s1c, s1⟩, y⟩ := h
  exact ⟨A1, c1, (hb.cell (p := ⟨b, _, none⟩) hl).trans k0, (hb.cell (p := ⟨b, _, none⟩) hl).trans k1, r0, ⟨s1a, s1b, s1c, s1.under hb⟩, y.under hb⟩
set_option maxRecDepth 100000 in
theorem zero101 {w : World} {I : Nat → Prop} (k : Nat) : Rep Tryd.prog w I (k + 3) 101 [.string ⟨#[]⟩, .slice none 0 0] default := by
  refine Rep.mk_struct (ds := []) Tryd.underlying101 (by rw [cells101]; rfl) fun j f hf => ?_
  match j, hf with
  | 0, hf =>
    obtain rfl := Option.some.inj hf
    show Rep Tryd.prog w I (k + 2) 9 (([.string ⟨#[]⟩, .slice none 0 0].drop 0).take (Tryd.prog.cellsOf 9)) default
    rw [cells9]
    exact Rep.z_string Tryd.underlying9
  | 1, hf =>
    obtain rfl := Option.some.inj hf
    show Rep Tryd.prog w I (k + 2) 99 (([.string ⟨#[]⟩, .slice none 0 0].drop 1).take (Tryd.prog.cellsOf 99)) default
    rw [cells99]
    exact Rep.z_slice Tryd.underlying99
  | n + 2, hf => simp at hf
set_option maxRecDepth 100000 in
theorem zero101' {w : World} {I : Nat → Prop} (k : Nat) : Rep Tryd.prog w I (k + 2) 101 [.string ⟨#[]⟩, .slice none 0 0] default := by
  refine Rep.mk_struct (ds := []) Tryd.underlying101 (by rw [cells101]; rfl) fun j f hf => ?_
  match j, hf with
  | 0, hf =>
    obtain rfl := Option.some.inj hf
    show Rep Tryd.prog w I (k + 1) 9 (([.string ⟨#[]⟩, .slice none 0 0].drop 0).take (Tryd.prog.cellsOf 9)) default
    rw [cells9]
    exact Rep.z_string Tryd.underlying9
  | 1, hf =>
    obtain rfl := Option.some.inj hf
    show Rep Tryd.prog w I (k + 1) 99 (([.string ⟨#[]⟩, .slice none 0 0].drop 1).take (Tryd.prog.cellsOf 99)) default
    rw [cells99]
    exact Rep.z_slice Tryd.underlying99
  | n + 2, hf => simp at hf
set_option maxRecDepth 100000 in
theorem rv_zero101 (w : World) : Rv w 101 #[.string ⟨#[]⟩, .slice none 0 0] default := ⟨3, zero101 0⟩
def In132 (w : World) (cs : Array Value) (d : D) : Prop := ∃ (A2 : Option Addr) (c2 : Nat) (A7 : Option Addr) (c7 : Nat) (A8 : Option Addr) (c8 : Nat) (A9 : Option Addr) (c9 : Nat), cs = #[.string (d.f 0).s, .string ((d.f 1).f 0).s, .slice A2 ((d.f 1).f 1).l.length c2, .bool (d.f 2).b, .int .i64 ((d.f 3).f 0).n, .int .i64 ((d.f 3).f 1).n, .string ((d.f 3).f 2).s, .slice A7 ((d.f 3).f 3).l.length c7, .slice A8 ((d.f 3).f 4).l.length c8, .slice A9 (d.f 4).l.length c9] ∧ (d.f 0).s.size ≤ maxLen ∧ ((d.f 1).f 0).s.size ≤ maxLen ∧ (((d.f 1).f 1).l.length ≤ c2 ∧ c2 ≤ maxLen ∧ (A2 = none → c2 = 0) ∧ Rs w 3 A2 ((d.f 1).f 1).l) ∧ (-9223372036854775808 ≤ ((d.f 3).f 0).n ∧ ((d.f 3).f 0).n ≤ 9223372036854775807) ∧ (-9223372036854775808 ≤ ((d.f 3).f 1).n ∧ ((d.f 3).f 1).n ≤ 9223372036854775807) ∧ ((d.f 3).f 2).s.size ≤ maxLen ∧ (((d.f 3).f 3).l.length ≤ c7 ∧ c7 ≤ maxLen ∧ (A7 = none → c7 = 0) ∧ Rs w 49 A7 ((d.f 3).f 3).l) ∧ (((d.f 3).f 4).l.length ≤ c8 ∧ c8 ≤ maxLen ∧ (A8 = none → c8 = 0) ∧ Rs w 9 A8 ((d.f 3).f 4).l) ∧ ((d.f 4).l.length ≤ c9 ∧ c9 ≤ maxLen ∧ (A9 = none → c9 = 0) ∧ Rs w 101 A9 (d.f 4).l)
def At132 (w : World) (b o : Nat) (d : D) : Prop := ∃ (A2 : Option Addr) (c2 : Nat) (A7 : Option Addr) (c7 : Nat) (A8 : Option Addr) (c8 : Nat) (A9 : Option Addr) (c9 : Nat), w.cell? ⟨b, o, none⟩ = some (.string (d.f 0).s) ∧ w.cell? ⟨b, o + 1, none⟩ = some (.string ((d.f 1).f 0).s) ∧ w.cell? ⟨b, o + 2, none⟩ = some (.slice A2 ((d.f 1).f 1).l.length c2) ∧ w.cell? ⟨b, o + 3, none⟩ = some (.bool (d.f 2).b) ∧ w.cell? ⟨b, o + 4, none⟩ = some (.int .i64 ((d.f 3).f 0).n) ∧ w.cell? ⟨b, o + 5, none⟩ = some (.int .i64 ((d.f 3).f 1).n) ∧ w.cell? ⟨b, o + 6, none⟩ = some (.string ((d.f 3).f 2).s) ∧ w.cell? ⟨b, o + 7, none⟩ = some (.slice A7 ((d.f 3).f 3).l.length c7) ∧ w.cell? ⟨b, o + 8, none⟩ = some (.slice A8 ((d.f 3).f 4).l.length c8) ∧ w.cell? ⟨b, o + 9, none⟩ = some (.slice A9 (d.f 4).l.length c9) ∧ (d.f 0).s.size ≤ maxLen ∧ ((d.f 1).f 0).s.size ≤ maxLen ∧ (((d.f 1).f 1).l.length ≤ c2 ∧ c2 ≤ maxLen ∧ (A2 = none → c2 = 0) ∧ Rs w 3 A2 ((d.f 1).f 1).l) ∧ (-9223372036854775808 ≤ ((d.f 3).f 0).n ∧ ((d.f 3).f 0).n ≤ 9223372036854775807) ∧ (-9223372036854775808 ≤ ((d.f 3).f 1).n ∧ ((d.f 3).f 1).n ≤ 9223372036854775807) ∧ ((d.f 3).f 2).s.size ≤ maxLen ∧ (((d.f 3).f 3).l.length ≤ c7 ∧ c7 ≤ maxLen ∧ (A7 = none → c7 = 0) ∧ Rs w 49 A7 ((d.f 3).f 3).l) ∧ (((d.f 3).f 4).l.length ≤ c8 ∧ c8 ≤ maxLen ∧ (A8 = none → c8 = 0) ∧ Rs w 9 A8 ((d.f 3).f 4).l) ∧ ((d.f 4).l.length ≤ c9 ∧ c9 ≤ maxLen ∧ (A9 = none → c9 = 0) ∧ Rs w 101 A9 (d.f 4).l) ∧ Rv w 132 #[.string (d.f 0).s, .string ((d.f 1).f 0).s, .slice A2 ((d.f 1).f 1).l.length c2, .bool (d.f 2).b, .int .i64 ((d.f 3).f 0).n, .int .i64 ((d.f 3).f 1).n, .string ((d.f 3).f 2).s, .slice A7 ((d.f 3).f 3).l.length c7, .slice A8 ((d.f 3).f 4).l.length c8, .slice A9 (d.f 4).l.length c9] d
set_option maxRecDepth 100000 in
theorem in132 {w : World} {cs : Array Value} {d : D} (h : Rv w 132 cs d) : In132 w cs d := by
  obtain ⟨k, h⟩ := h
  obtain ⟨A2, c2, A7, c7, A8, c8, A9, c9, e, r0, r1, ⟨s2a, s2b, s2c, s2⟩, r3, r4, r5, ⟨s6a, s6b, s6c, s6⟩, ⟨s7a, s7b, s7c, s7⟩, ⟨s8a, s8b, s8c, s8⟩⟩ := open132_any h
  exact ⟨A2, c2, A7, c7, A8, c8, A9, c9, Array.ext' e, r0, r1, ⟨s2a, s2b, s2c, ⟨_, s2⟩⟩, wfr r3, wfr r4, r5, ⟨s6a, s6b, s6c, ⟨_, s6⟩⟩, ⟨s7a, s7b, s7c, ⟨_, s7⟩⟩, ⟨s8a, s8b, s8c, ⟨_, s8⟩⟩⟩
set_option maxRecDepth 100000 in
theorem at132 {w : World} {A : Option Addr} {l : List D} (h : Rs w 132 A l) (hp : 0 < l.length) : ∃ b off, A = some ⟨b, off, none⟩ ∧ b < w.heap.size ∧ ∀ i, i < l.length → At132 w b (off + i * 10) (gD l i) := by
  obtain ⟨k, h⟩ := h
  obtain ⟨b, off, hA, hb, hi⟩ := h hp (by rw [cells132]; omega)
  refine ⟨b, off, hA, hb, fun i hil => ?_⟩
  obtain ⟨ys, y1, y2, y3⟩ := hi i hil
  rw [cells132] at y2
  have y4 : Rv w 132 ys.toArray (gD l i) := ⟨k, by simpa using y3⟩
  obtain ⟨A2, c2, A7, c7, A8, c8, A9, c9, rfl, r0, r1, ⟨s2a, s2b, s2c, s2⟩, r3, r4, r5, ⟨s6a, s6b, s6c, s6⟩, ⟨s7a, s7b, s7c, s7⟩, ⟨s8a, s8b, s8c, s8⟩⟩ := open132_any y3
  exact ⟨A2, c2, A7, c7, A8, c8, A9, c9, y2 0 _ rfl, y2 1 _ rfl, y2 2 _ rfl, y2 3 _ rfl, y2 4 _ rfl, y2 5 _ rfl, y2 6 _ rfl, y2 7 _ rfl, y2 8 _ rfl, y2 9 _ rfl, r0, r1, ⟨s2a, s2b, s2c, ⟨_, s2⟩⟩, wfr r3, wfr r4, r5, ⟨s6a, s6b, s6c, ⟨_, s6⟩⟩, ⟨s7a, s7b, s7c, ⟨_, s7⟩⟩, ⟨s8a, s8b, s8c, ⟨_, s8⟩⟩, y4⟩
set_option maxRecDepth 100000 in
theorem At132.under {w w' : World} {b o : Nat} {d : D} (h : At132 w b o d) (hl : b < w.heap.size) (hb : Below w.heap.size w w') : At132 w' b o d := by
  obtain ⟨A2, c2, A7, c7, A8, c8, A9, c9, k0, k1, k2, k3, k4, k5, k6, k7, k8, k9, r0, r1, ⟨s2a, s2b, s2c, s2⟩, r3, r4, r5, ⟨s6a, s6b, s6c, s6⟩, ⟨s7a, s7b, s7c, s7⟩, ⟨s8a, s8b, s8c, s8⟩, y⟩ := h
  exact ⟨A2, c2, A7, c7, A8, c8, A9, c9, (hb.cell (p := ⟨b, _, none⟩) hl).trans k0, (hb.cell (p := ⟨b, _, none⟩) hl).trans k1, (hb.cell (p := ⟨b, _, none⟩) hl).trans k2, (hb.cell (p := ⟨b, _, none⟩) hl).trans k3, (hb.cell (p := ⟨b, _, none⟩) hl).trans k4, (hb.cell (p := ⟨b, _, none⟩) hl).trans k5, (hb.cell (p := ⟨b, _, none⟩) hl).trans k6, (hb.cell (p := ⟨b, _, none⟩) hl).trans k7, (hb.cell (p := ⟨b, _, none⟩) hl).trans k8, (hb.cell (p := ⟨b, _, none⟩) hl).trans k9, r0, r1, ⟨s2a, s2b, s2c, s2.under hb⟩, r3, r4, r5, ⟨s6a, s6b, s6c, s6.under hb⟩, ⟨s7a, s7b, s7c, s7.under hb⟩, ⟨s8a, s8b, s8c, s8.under hb⟩, y.under hb⟩
set_option maxRecDepth 100000 in
theorem zero132 {w : World} {I : Nat → Prop} (k : Nat) : Rep Tryd.prog w I (k + 3) 132 [.string ⟨#[]⟩, .string ⟨#[]⟩, .slice none 0 0, .bool false, .int .i64 0, .int .i64 0, .string ⟨#[]⟩, .slice none 0 0, .slice none 0 0, .slice none 0 0] default := by
  refine Rep.mk_struct (ds := []) Tryd.underlying132 (by rw [cells132]; rfl) fun j f hf => ?_
  match j, hf with
  | 0, hf =>
    obtain rfl := Option.some.inj hf
    show Rep Tryd.prog w I (k + 2) 9 (([.string ⟨#[]⟩, .string ⟨#[]⟩, .slice none 0 0, .bool false, .int .i64 0, .int .i64 0, .string ⟨#[]⟩, .slice none 0 0, .slice none 0 0, .slice none 0 0].drop 0).take (Tryd.prog.cellsOf 9)) default
    rw [cells9]
    exact Rep.z_string Tryd.underlying9
  | 1, hf =>
    obtain rfl := Option.some.inj hf
    show Rep Tryd.prog w I (k + 2) 62 (([.string ⟨#[]⟩, .string ⟨#[]⟩, .slice none 0 0, .bool false, .int .i64 0, .int .i64 0, .string ⟨#[]⟩, .slice none 0 0, .slice none 0 0, .slice none 0 0].drop 1).take (Tryd.prog.cellsOf 62)) default
    rw [cells62]
    exact zero62' k
  | 2, hf =>
    obtain rfl := Option.some.inj hf
    show Rep Tryd.prog w I (k + 2) 4 (([.string ⟨#[]⟩, .string ⟨#[]⟩, .slice none 0 0, .bool false, .int .i64 0, .int .i64 0, .string ⟨#[]⟩, .slice none 0 0, .slice none 0 0, .slice none 0 0].drop 3).take (Tryd.prog.cellsOf 4)) default
    rw [cells4]
    exact Rep.z_bool Tryd.underlying4
  | 3, hf =>
    obtain rfl := Option.some.inj hf
    show Rep Tryd.prog w I (k + 2) 49 (([.string ⟨#[]⟩, .string ⟨#[]⟩, .slice none 0 0, .bool false, .int .i64 0, .int .i64 0, .string ⟨#[]⟩, .slice none 0 0, .slice none 0 0, .slice none 0 0].drop 4).take (Tryd.prog.cellsOf 49)) default
    rw [cells49]
    exact zero49' k
  | 4, hf =>
    obtain rfl := Option.some.inj hf
    show Rep Tryd.prog w I (k + 2) 53 (([.string ⟨#[]⟩, .string ⟨#[]⟩, .slice none 0 0, .bool false, .int .i64 0, .int .i64 0, .string ⟨#[]⟩, .slice none 0 0, .slice none 0 0, .slice none 0 0].drop 9).take (Tryd.prog.cellsOf 53)) default
    rw [cells53]
    exact Rep.z_slice Tryd.underlying53
  | n + 5, hf => simp at hf
set_option maxRecDepth 100000 in
theorem rv_zero132 (w : World) : Rv w 132 #[.string ⟨#[]⟩, .string ⟨#[]⟩, .slice none 0 0, .bool false, .int .i64 0, .int .i64 0, .string ⟨#[]⟩, .slice none 0 0, .slice none 0 0, .slice none 0 0] default := ⟨3, zero132 0⟩
def In64 (w : World) (cs : Array Value) (d : D) : Prop := ∃ (A1 : Option Addr) (c1 : Nat) (A3 : Option Addr) (c3 : Nat) (A4 : Option Addr) (c4 : Nat), cs = #[.string (d.f 0).s, .slice A1 (d.f 1).l.length c1, .string ((d.f 2).f 0).s, .slice A3 ((d.f 2).f 1).l.length c3, .slice A4 (d.f 3).l.length c4] ∧ (d.f 0).s.size ≤ maxLen ∧ ((d.f 1).l.length ≤ c1 ∧ c1 ≤ maxLen ∧ (A1 = none → c1 = 0) ∧ Rs w 132 A1 (d.f 1).l) ∧ ((d.f 2).f 0).s.size ≤ maxLen ∧ (((d.f 2).f 1).l.length ≤ c3 ∧ c3 ≤ maxLen ∧ (A3 = none → c3 = 0) ∧ Rs w 3 A3 ((d.f 2).f 1).l) ∧ ((d.f 3).l.length ≤ c4 ∧ c4 ≤ maxLen ∧ (A4 = none → c4 = 0) ∧ Rs w 101 A4 (d.f 3).l)
def At64 (w : World) (b o : Nat) (d : D) : Prop := ∃ (A1 : Option Addr) (c1 : Nat) (A3 : Option Addr) (c3 : Nat) (A4 : Option Addr) (c4 : Nat), w.cell? ⟨b, o, none⟩ = some (.string (d.f 0).s) ∧ w.cell? ⟨b, o + 1, none⟩ = some (.slice A1 (d.f 1).l.length c1) ∧ w.cell? ⟨b, o + 2, none⟩ = some (.string ((d.f 2).f 0).s) ∧ w.cell? ⟨b, o + 3, none⟩ = some (.slice A3 ((d.f 2).f 1).l.length c3) ∧ w.cell? ⟨b, o + 4, none⟩ = some (.slice A4 (d.f 3).l.length c4) ∧ (d.f 0).s.size ≤ maxLen ∧ ((d.f 1).l.length ≤ c1 ∧ c1 ≤ maxLen ∧ (A1 = none → c1 = 0) ∧ Rs w 132 A1 (d.f 1).l) ∧ ((d.f 2).f 0).s.size ≤ maxLen ∧ (((d.f 2).f 1).l.length ≤ c3 ∧ c3 ≤ maxLen ∧ (A3 = none → c3 = 0) ∧ Rs w 3 A3 ((d.f 2).f 1).l) ∧ ((d.f 3).l.length ≤ c4 ∧ c4 ≤ maxLen ∧ (A4 = none → c4 = 0) ∧ Rs w 101 A4 (d.f 3).l) ∧ Rv w 64 #[.string (d.f 0).s, .slice A1 (d.f 1).l.length c1, .string ((d.f 2).f 0).s, .slice A3 ((d.f 2).f 1).l.length c3, .slice A4 (d.f 3).l.length c4] d
set_option maxRecDepth 100000 in
theorem in64 {w : World} {cs : Array Value} {d : D} (h : Rv w 64 cs d) : In64 w cs d := by
  obtain ⟨k, h⟩ := h
  obtain ⟨A1, c1, A3, c3, A4, c4, e, r0, ⟨s1a, s1b, s1c, s1⟩, r2, ⟨s3a, s3b, s3c, s3⟩, ⟨s4a, s4b, s4c, s4⟩⟩ := open64_any h
  exact ⟨A1, c1, A3, c3, A4, c4, Array.ext' e, r0, ⟨s1a, s1b, s1c, ⟨_, s1⟩⟩, r2, ⟨s3a, s3b, s3c, ⟨_, s3⟩⟩, ⟨s4a, s4b, s4c, ⟨_, s4⟩⟩⟩
set_option maxRecDepth 100000 in
theorem at64 {w : World} {A : Option Addr} {l : List D} (h : Rs w 64 A l) (hp : 0 < l.length) : ∃ b off, A = some ⟨b, off, none⟩ ∧ b < w.heap.size ∧ ∀ i, i < l.length → At64 w b (off + i * 5) (gD l i) := by
  obtain ⟨k, h⟩ := h
  obtain ⟨b, off, hA, hb, hi⟩ := h hp (by rw [cells64]; omega)
  refine ⟨b, off, hA, hb, fun i hil => ?_⟩
  obtain ⟨ys, y1, y2, y3⟩ := hi i hil
  rw [cells64] at y2
  have y4 : Rv w 64 ys.toArray (gD l i) := ⟨k, by simpa using y3⟩
  obtain ⟨A1, c1, A3, c3, A4, c4, rfl, r0, ⟨s1a, s1b, s1c, s1⟩, r2, ⟨s3a, s3b, s3c, s3⟩, ⟨s4a, s4b, s4c, s4⟩⟩ := open64_any y3
  exact ⟨A1, c1, A3, c3, A4, c4, y2 0 _ rfl, y2 1 _ rfl, y2 2 _ rfl, y2 3 _ rfl, y2 4 _ rfl, r0, ⟨s1a, s1b, s1c, ⟨_, s1⟩⟩, r2, ⟨s3a, s3b, s3c, ⟨_, s3⟩⟩, ⟨s4a, s4b, s4c, ⟨_, s4⟩⟩, y4⟩
set_option maxRecDepth 100000 in
theorem At64.under {w w' : World} {b o : Nat} {d : D} (h : At64 w b o d) (hl : b < w.heap.size) (hb : Below w.heap.size w w') : At64 w' b o d := by
  obtain ⟨A1, c1, A3, c3, A4, c4, k0, k1, k2, k3, k4, r0, ⟨s1a, s1b, s1c, s1⟩, r2, ⟨s3a, s3b, s3c, s3⟩, ⟨s4a, s4b, s4c, s4⟩, y⟩ := h
  exact ⟨A1, c1, A3, c3, A4, c4, (hb.cell (p := ⟨b, _, none⟩) hl).trans k0, (hb.cell (p := ⟨b, _, none⟩) hl).trans k1, (hb.cell (p := ⟨b, _, none⟩) hl).trans k2, (hb.cell (p := ⟨b, _, none⟩) hl).trans k3, (hb.cell (p := ⟨b, _, none⟩) hl).trans k4, r0, ⟨s1a, s1b, s1c, s1.under hb⟩, r2, ⟨s3a, s3b, s3c, s3.under hb⟩, ⟨s4a, s4b, s4c, s4.under hb⟩, y.under hb⟩
set_option maxRecDepth 100000 in
theorem zero64 {w : World} {I : Nat → Prop} (k : Nat) : Rep Tryd.prog w I (k + 3) 64 [.string ⟨#[]⟩, .slice none 0 0, .string ⟨#[]⟩, .slice none 0 0, .slice none 0 0] default := by
  refine Rep.mk_struct (ds := []) Tryd.underlying64 (by rw [cells64]; rfl) fun j f hf => ?_
  match j, hf with
  | 0, hf =>
    obtain rfl := Option.some.inj hf
    show Rep Tryd.prog w I (k + 2) 9 (([.string ⟨#[]⟩, .slice none 0 0, .string ⟨#[]⟩, .slice none 0 0, .slice none 0 0].drop 0).take (Tryd.prog.cellsOf 9)) default
    rw [cells9]
    exact Rep.z_string Tryd.underlying9
  | 1, hf =>
    obtain rfl := Option.some.inj hf
    show Rep Tryd.prog w I (k + 2) 56 (([.string ⟨#[]⟩, .slice none 0 0, .string ⟨#[]⟩, .slice none 0 0, .slice none 0 0].drop 1).take (Tryd.prog.cellsOf 56)) default
    rw [cells56]
    exact Rep.z_slice Tryd.underlying56
  | 2, hf =>
    obtain rfl := Option.some.inj hf
    show Rep Tryd.prog w I (k + 2) 62 (([.string ⟨#[]⟩, .slice none 0 0, .string ⟨#[]⟩, .slice none 0 0, .slice none 0 0].drop 2).take (Tryd.prog.cellsOf 62)) default
    rw [cells62]
    exact zero62' k
  | 3, hf =>
    obtain rfl := Option.some.inj hf
    show Rep Tryd.prog w I (k + 2) 53 (([.string ⟨#[]⟩, .slice none 0 0, .string ⟨#[]⟩, .slice none 0 0, .slice none 0 0].drop 4).take (Tryd.prog.cellsOf 53)) default
    rw [cells53]
    exact Rep.z_slice Tryd.underlying53
  | n + 4, hf => simp at hf
set_option maxRecDepth 100000 in
theorem rv_zero64 (w : World) : Rv w 64 #[.string ⟨#[]⟩, .slice none 0 0, .string ⟨#[]⟩, .slice none 0 0, .slice none 0 0] default := ⟨3, zero64 0⟩
def In112 (w : World) (cs : Array Value) (d : D) : Prop := ∃ (A1 : Option Addr) (c1 : Nat), cs = #[.string (d.f 0).s, .slice A1 (d.f 1).l.length c1] ∧ (d.f 0).s.size ≤ maxLen ∧ ((d.f 1).l.length ≤ c1 ∧ c1 ≤ maxLen ∧ (A1 = none → c1 = 0) ∧ Rs w 101 A1 (d.f 1).l)
def At112 (w : World) (b o : Nat) (d : D) : Prop := ∃ (A1 : Option Addr) (c1 : Nat), w.cell? ⟨b, o, none⟩ = some (.string (d.f 0).s) ∧ w.cell? ⟨b, o + 1, none⟩ = some (.slice A1 (d.f 1).l.length c1) ∧ (d.f 0).s.size ≤ maxLen ∧ ((d.f 1).l.length ≤ c1 ∧ c1 ≤ maxLen ∧ (A1 = none → c1 = 0) ∧ Rs w 101 A1 (d.f 1).l) ∧ Rv w 112 #[.string (d.f 0).s, .slice A1 (d.f 1).l.length c1] d
set_option maxRecDepth 100000 in
theorem in112 {w : World} {cs : Array Value} {d : D} (h : Rv w 112 cs d) : In112 w cs d := by
  obtain ⟨k, h⟩ := h
  obtain ⟨A1, c1, e, r0, ⟨s1a, s1b, s1c, s1⟩⟩ := open112_any h
  exact ⟨A1, c1, Array.ext' e, r0, ⟨s1a, s1b, s1c, ⟨_, s1⟩⟩⟩
set_option maxRecDepth 100000 in
theorem at112 {w : World} {A : Option Addr} {l : List D} (h : Rs w 112 A l) (hp : 0 < l.length) : ∃ b off, A = some ⟨b, off, none⟩ ∧ b < w.heap.size ∧ ∀ i, i < l.length → At112 w b (off + i * 2) (gD l i) := by
  obtain ⟨k, h⟩ := h
  obtain ⟨b, off, hA, hb, hi⟩ := h hp (by rw [cells112]; omega)
  refine ⟨b, off, hA, hb, fun i hil => ?_⟩
  obtain ⟨ys, y1, y2, y3⟩ := hi i hil
  rw [cells112] at y2
  have y4 : Rv w 112 ys.toArray (gD l i) := ⟨k, by simpa using y3⟩
  obtain ⟨A1, c1, rfl, r0, ⟨s1a, s1b, s1c, s1⟩⟩ := open112_any y3
  exact ⟨A1, c1, y2 0 _ rfl, y2 1 _ rfl, r0, ⟨s1a, s1b, s1c, ⟨_, s1⟩⟩, y4⟩
set_option maxRecDepth 100000 in
theorem At112.under {w w' : World} {b o : Nat} {d : D} (h : At112 w b o d) (hl : b < w.heap.size) (hb : Below w.heap.size w w') : At112 w' b o d := by
  obtain ⟨A1, c1, k0, k1, r0, ⟨s1a, s1b, s1c, s1⟩, y⟩ := h
  exact ⟨A1, c1, (hb.cell (p := ⟨b, _, none⟩) hl).trans k0, (hb.cell (p := ⟨b, _, none⟩) hl).trans k1, r0, ⟨s1a, s1b, s1c, s1.under hb⟩, y.under hb⟩
set_option maxRecDepth 100000 in
theorem zero112 {w : World} {I : Nat → Prop} (k : Nat) : Rep Tryd.prog w I (k + 3) 112 [.string ⟨#[]⟩, .slice none 0 0] default := by
  refine Rep.mk_struct (ds := []) Tryd.underlying112 (by rw [cells112]; rfl) fun j f hf => ?_
  match j, hf with
  | 0, hf =>
    obtain rfl := Option.some.inj hf
    show Rep Tryd.prog w I (k + 2) 9 (([.string ⟨#[]⟩, .slice none 0 0].drop 0).take (Tryd.prog.cellsOf 9)) default
    rw [cells9]
    exact Rep.z_string Tryd.underlying9
  | 1, hf =>
    obtain rfl := Option.some.inj hf
    show Rep Tryd.prog w I (k + 2) 53 (([.string ⟨#[]⟩, .slice none 0 0].drop 1).take (Tryd.prog.cellsOf 53)) default
    rw [cells53]
    exact Rep.z_slice Tryd.underlying53
  | n + 2, hf => simp at hf
set_option maxRecDepth 100000 in
theorem zero112' {w : World} {I : Nat → Prop} (k : Nat) : Rep Tryd.prog w I (k + 2) 112 [.string ⟨#[]⟩, .slice none 0 0] default := by
  refine Rep.mk_struct (ds := []) Tryd.underlying112 (by rw [cells112]; rfl) fun j f hf => ?_
  match j, hf with
  | 0, hf =>
    obtain rfl := Option.some.inj hf
    show Rep Tryd.prog w I (k + 1) 9 (([.string ⟨#[]⟩, .slice none 0 0].drop 0).take (Tryd.prog.cellsOf 9)) default
    rw [cells9]
    exact Rep.z_string Tryd.underlying9
  | 1, hf =>
    obtain rfl := Option.some.inj hf
    show Rep Tryd.prog w I (k + 1) 53 (([.string ⟨#[]⟩, .slice none 0 0].drop 1).take (Tryd.prog.cellsOf 53)) default
    rw [cells53]
    exact Rep.z_slice Tryd.underlying53
  | n + 2, hf => simp at hf
set_option maxRecDepth 100000 in
theorem rv_zero112 (w : World) : Rv w 112 #[.string ⟨#[]⟩, .slice none 0 0] default := ⟨3, zero112 0⟩
def In58 (w : World) (cs : Array Value) (d : D) : Prop := ∃ (A2 : Option Addr) (c2 : Nat) (A3 : Option Addr) (c3 : Nat) (A4 : Option Addr) (c4 : Nat) (A5 : Option Addr) (c5 : Nat) (A6 : Option Addr) (c6 : Nat), cs = #[.int .i64 (d.f 0).n, .string (d.f 1).s, .slice A2 (d.f 2).l.length c2, .slice A3 (d.f 3).l.length c3, .slice A4 (d.f 4).l.length c4, .slice A5 (d.f 5).l.length c5, .slice A6 (d.f 6).l.length c6] ∧ (-9223372036854775808 ≤ (d.f 0).n ∧ (d.f 0).n ≤ 9223372036854775807) ∧ (d.f 1).s.size ≤ maxLen ∧ ((d.f 2).l.length ≤ c2 ∧ c2 ≤ maxLen ∧ (A2 = none → c2 = 0) ∧ Rs w 9 A2 (d.f 2).l) ∧ ((d.f 3).l.length ≤ c3 ∧ c3 ≤ maxLen ∧ (A3 = none → c3 = 0) ∧ Rs w 101 A3 (d.f 3).l) ∧ ((d.f 4).l.length ≤ c4 ∧ c4 ≤ maxLen ∧ (A4 = none → c4 = 0) ∧ Rs w 64 A4 (d.f 4).l) ∧ ((d.f 5).l.length ≤ c5 ∧ c5 ≤ maxLen ∧ (A5 = none → c5 = 0) ∧ Rs w 112 A5 (d.f 5).l) ∧ ((d.f 6).l.length ≤ c6 ∧ c6 ≤ maxLen ∧ (A6 = none → c6 = 0) ∧ Rs w 132 A6 (d.f 6).l)
def At58 (w : World) (b o : Nat) (d : D) : Prop := ∃ (A2 : Option Addr) (c2 : Nat) (A3 : Option Addr) (c3 : Nat) (A4 : Option Addr) (c4 : Nat) (A5 : Option Addr) (c5 : Nat) (A6 : Option Addr) (c6 : Nat), w.cell? ⟨b, o, none⟩ = some (.int .i64 (d.f 0).n) ∧ w.cell? ⟨b, o + 1, none⟩ = some (.string (d.f 1).s) ∧ w.cell? ⟨b, o + 2, none⟩ = some (.slice A2 (d.f 2).l.length c2) ∧ w.cell? ⟨b, o + 3, none⟩ = some (.slice A3 (d.f 3).l.length c3) ∧ w.cell? ⟨b, o + 4, none⟩ = some (.slice A4 (d.f 4).l.length c4) ∧ w.cell? ⟨b, o + 5, none⟩ = some (.slice A5 (d.f 5).l.length c5) ∧ w.cell? ⟨b, o + 6, none⟩ = some (.slice A6 (d.f 6).l.length c6) ∧ (-9223372036854775808 ≤ (d.f 0).n ∧ (d.f 0).n ≤ 9223372036854775807) ∧ (d.f 1).s.size ≤ maxLen ∧ ((d.f 2).l.length ≤ c2 ∧ c2 ≤ maxLen ∧ (A2 = none → c2 = 0) ∧ Rs w 9 A2 (d.f 2).l) ∧ ((d.f 3).l.length ≤ c3 ∧ c3 ≤ maxLen ∧ (A3 = none → c3 = 0) ∧ Rs w 101 A3 (d.f 3).l) ∧ ((d.f 4).l.length ≤ c4 ∧ c4 ≤ maxLen ∧ (A4 = none → c4 = 0) ∧ Rs w 64 A4 (d.f 4).l) ∧ ((d.f 5).l.length ≤ c5 ∧ c5 ≤ maxLen ∧ (A5 = none → c5 = 0) ∧ Rs w 112 A5 (d.f 5).l) ∧ ((d.f 6).l.length ≤ c6 ∧ c6 ≤ maxLen ∧ (A6 = none → c6 = 0) ∧ Rs w 132 A6 (d.f 6).l) ∧ Rv w 58 #[.int .i64 (d.f 0).n, .string (d.f 1).s, .slice A2 (d.f 2).l.length c2, .slice A3 (d.f 3).l.length c3, .slice A4 (d.f 4).l.length c4, .slice A5 (d.f 5).l.length c5, .slice A6 (d.f 6).l.length c6] d
set_option maxRecDepth 100000 in
theorem in58 {w : World} {cs : Array Value} {d : D} (h : Rv w 58 cs d) : In58 w cs d := by
  obtain ⟨k, h⟩ := h
  obtain ⟨A2, c2, A3, c3, A4, c4, A5, c5, A6, c6, e, r0, r1, ⟨s2a, s2b, s2c, s2⟩, ⟨s3a, s3b, s3c, s3⟩, ⟨s4a, s4b, s4c, s4⟩, ⟨s5a, s5b, s5c, s5⟩, ⟨s6a, s6b, s6c, s6⟩⟩ := open58_any h
  exact ⟨A2, c2, A3, c3, A4, c4, A5, c5, A6, c6, Array.ext' e, wfr r0, r1, ⟨s2a, s2b, s2c, ⟨_, s2⟩⟩, ⟨s3a, s3b, s3c, ⟨_, s3⟩⟩, ⟨s4a, s4b, s4c, ⟨_, s4⟩⟩, ⟨s5a, s5b, s5c, ⟨_, s5⟩⟩, ⟨s6a, s6b, s6c, ⟨_, s6⟩⟩⟩
set_option maxRecDepth 100000 in
theorem at58 {w : World} {A : Option Addr} {l : List D} (h : Rs w 58 A l) (hp : 0 < l.length) : ∃ b off, A = some ⟨b, off, none⟩ ∧ b < w.heap.size ∧ ∀ i, i < l.length → At58 w b (off + i * 7) (gD l i) := by
  obtain ⟨k, h⟩ := h
  obtain ⟨b, off, hA, hb, hi⟩ := h hp (by rw [cells58]; omega)
  refine ⟨b, off, hA, hb, fun i hil => ?_⟩
  obtain ⟨ys, y1, y2, y3⟩ := hi i hil
  rw [cells58] at y2
  have y4 : Rv w 58 ys.toArray (gD l i) := ⟨k, by simpa using y3⟩
  obtain ⟨A2, c2, A3, c3, A4, c4, A5, c5, A6, c6, rfl, r0, r1, ⟨s2a, s2b, s2c, s2⟩, ⟨s3a, s3b, s3c, s3⟩, ⟨s4a, s4b, s4c, s4⟩, ⟨s5a, s5b, s5c, s5⟩, ⟨s6a, s6b, s6c, s6⟩⟩ := open58_any y3
  exact ⟨A2, c2, A3, c3, A4, c4, A5, c5, A6, c6, y2 0 _ rfl, y2 1 _ rfl, y2 2 _ rfl, y2 3 _ rfl, y2 4 _ rfl, y2 5 _ rfl, y2 6 _ rfl, wfr r0, r1, ⟨s2a, s2b, s2c, ⟨_, s2⟩⟩, ⟨s3a, s3b, s3c, ⟨_, s3⟩⟩, ⟨s4a, s4b, s4c, ⟨_, s4⟩⟩, ⟨s5a, s5b, s5c, ⟨_, s5⟩⟩, ⟨s6a, s6b, s6c, ⟨_, s6⟩⟩, y4⟩
set_option maxRecDepth 100000 in
theorem At58.under {w w' : World} {b o : Nat} {d : D} (h : At58 w b o d) (hl : b < w.heap.size) (hb : Below w.heap.size w w') : At58 w' b o d := by
  obtain ⟨A2, c2, A3, c3, A4, c4, A5, c5, A6, c6, k0, k1, k2, k3, k4, k5, k6, r0, r1, ⟨s2a, s2b, s2c, s2⟩, ⟨s3a, s3b, s3c, s3⟩, ⟨s4a, s4b, s4c, s4⟩, ⟨s5a, s5b, s5c, s5⟩, ⟨s6a, s6b, s6c, s6⟩, y⟩ := h
  exact ⟨A2, c2, A3, c3, A4, c4, A5, c5, A6, c6, (hb.cell (p := ⟨b, _, none⟩) hl).trans k0, (hb.cell (p := ⟨b, _, none⟩) hl).trans k1, (hb.cell (p := ⟨b, _, none⟩) hl).trans k2, (hb.cell (p := ⟨b, _, none⟩) hl).trans k3, (hb.cell (p := ⟨b, _, none⟩) hl).trans k4, (hb.cell (p := ⟨b, _, none⟩) hl).trans k5, (hb.cell (p := ⟨b, _, none⟩) hl).trans k6, r0, r1, ⟨s2a, s2b, s2c, s2.under hb⟩, ⟨s3a, s3b, s3c, s3.under hb⟩, ⟨s4a, s4b, s4c, s4.under hb⟩, ⟨s5a, s5b, s5c, s5.under hb⟩, ⟨s6a, s6b, s6c, s6.under hb⟩, y.under hb⟩
set_option maxRecDepth 100000 in
theorem zero58 {w : World} {I : Nat → Prop} (k : Nat) : Rep Tryd.prog w I (k + 3) 58 [.int .i64 0, .string ⟨#[]⟩, .slice none 0 0, .slice none 0 0, .slice none 0 0, .slice none 0 0, .slice none 0 0] default := by
  refine Rep.mk_struct (ds := []) Tryd.underlying58 (by rw [cells58]; rfl) fun j f hf => ?_
  match j, hf with
  | 0, hf =>
    obtain rfl := Option.some.inj hf
    show Rep Tryd.prog w I (k + 2) 3 (([.int .i64 0, .string ⟨#[]⟩, .slice none 0 0, .slice none 0 0, .slice none 0 0, .slice none 0 0, .slice none 0 0].drop 0).take (Tryd.prog.cellsOf 3)) default
    rw [cells3]
    exact Rep.z_int Tryd.underlying3
  | 1, hf =>
    obtain rfl := Option.some.inj hf
    show Rep Tryd.prog w I (k + 2) 9 (([.int .i64 0, .string ⟨#[]⟩, .slice none 0 0, .slice none 0 0, .slice none 0 0, .slice none 0 0, .slice none 0 0].drop 1).take (Tryd.prog.cellsOf 9)) default
    rw [cells9]
    exact Rep.z_string Tryd.underlying9
  | 2, hf =>
    obtain rfl := Option.some.inj hf
    show Rep Tryd.prog w I (k + 2) 47 (([.int .i64 0, .string ⟨#[]⟩, .slice none 0 0, .slice none 0 0, .slice none 0 0, .slice none 0 0, .slice none 0 0].drop 2).take (Tryd.prog.cellsOf 47)) default
    rw [cells47]
    exact Rep.z_slice Tryd.underlying47
  | 3, hf =>
    obtain rfl := Option.some.inj hf
    show Rep Tryd.prog w I (k + 2) 53 (([.int .i64 0, .string ⟨#[]⟩, .slice none 0 0, .slice none 0 0, .slice none 0 0, .slice none 0 0, .slice none 0 0].drop 3).take (Tryd.prog.cellsOf 53)) default
    rw [cells53]
    exact Rep.z_slice Tryd.underlying53
  | 4, hf =>
    obtain rfl := Option.some.inj hf
    show Rep Tryd.prog w I (k + 2) 54 (([.int .i64 0, .string ⟨#[]⟩, .slice none 0 0, .slice none 0 0, .slice none 0 0, .slice none 0 0, .slice none 0 0].drop 4).take (Tryd.prog.cellsOf 54)) default
    rw [cells54]
    exact Rep.z_slice Tryd.underlying54
  | 5, hf =>
    obtain rfl := Option.some.inj hf
    show Rep Tryd.prog w I (k + 2) 55 (([.int .i64 0, .string ⟨#[]⟩, .slice none 0 0, .slice none 0 0, .slice none 0 0, .slice none 0 0, .slice none 0 0].drop 5).take (Tryd.prog.cellsOf 55)) default
    rw [cells55]
    exact Rep.z_slice Tryd.underlying55
  | 6, hf =>
    obtain rfl := Option.some.inj hf
    show Rep Tryd.prog w I (k + 2) 56 (([.int .i64 0, .string ⟨#[]⟩, .slice none 0 0, .slice none 0 0, .slice none 0 0, .slice none 0 0, .slice none 0 0].drop 6).take (Tryd.prog.cellsOf 56)) default
    rw [cells56]
    exact Rep.z_slice Tryd.underlying56
  | n + 7, hf => simp at hf
set_option maxRecDepth 100000 in
theorem zero58' {w : World} {I : Nat → Prop} (k : Nat) : Rep Tryd.prog w I (k + 2) 58 [.int .i64 0, .string ⟨#[]⟩, .slice none 0 0, .slice none 0 0, .slice none 0 0, .slice none 0 0, .slice none 0 0] default := by
  refine Rep.mk_struct (ds := []) Tryd.underlying58 (by rw [cells58]; rfl) fun j f hf => ?_
  match j, hf with
  | 0, hf =>
    obtain rfl := Option.some.inj hf
    show Rep Tryd.prog w I (k + 1) 3 (([.int .i64 0, .string ⟨#[]⟩, .slice none 0 0, .slice none 0 0, .slice none 0 0, .slice none 0 0, .slice none 0 0].drop 0).take (Tryd.prog.cellsOf 3)) default
    rw [cells3]
    exact Rep.z_int Tryd.underlying3
  | 1, hf =>
    obtain rfl := Option.some.inj hf
    show Rep Tryd.prog w I (k + 1) 9 (([.int .i64 0, .string ⟨#[]⟩, .slice none 0 0, .slice none 0 0, .slice none 0 0, .slice none 0 0, .slice none 0 0].drop 1).take (Tryd.prog.cellsOf 9)) default
    rw [cells9]
    exact Rep.z_string Tryd.underlying9
  | 2, hf =>
    obtain rfl := Option.some.inj hf
    show Rep Tryd.prog w I (k + 1) 47 (([.int .i64 0, .string ⟨#[]⟩, .slice none 0 0, .slice none 0 0, .slice none 0 0, .slice none 0 0, .slice none 0 0].drop 2).take (Tryd.prog.cellsOf 47)) default
    rw [cells47]
    exact Rep.z_slice Tryd.underlying47
  | 3, hf =>
    obtain rfl := Option.some.inj hf
    show Rep Tryd.prog w I (k + 1) 53 (([.int .i64 0, .string ⟨#[]⟩, .slice none 0 0, .slice none 0 0, .slice none 0 0, .slice none 0 0, .slice none 0 0].drop 3).take (Tryd.prog.cellsOf 53)) default
    rw [cells53]
    exact Rep.z_slice Tryd.underlying53
  | 4, hf =>
    obtain rfl := Option.some.inj hf
    show Rep Tryd.prog w I (k + 1) 54 (([.int .i64 0, .string ⟨#[]⟩, .slice none 0 0, .slice none 0 0, .slice none 0 0, .slice none 0 0, .slice none 0 0].drop 4).take (Tryd.prog.cellsOf 54)) default
    rw [cells54]
    exact Rep.z_slice Tryd.underlying54
  | 5, hf =>
    obtain rfl := Option.some.inj hf
    show Rep Tryd.prog w I (k + 1) 55 (([.int .i64 0, .string ⟨#[]⟩, .slice none 0 0, .slice none 0 0, .slice none 0 0, .slice none 0 0, .slice none 0 0].drop 5).take (Tryd.prog.cellsOf 55)) default
    rw [cells55]
    exact Rep.z_slice Tryd.underlying55
  | 6, hf =>
    obtain rfl := Option.some.inj hf
    show Rep Tryd.prog w I (k + 1) 56 (([.int .i64 0, .string ⟨#[]⟩, .slice none 0 0, .slice none 0 0, .slice none 0 0, .slice none 0 0, .slice none 0 0].drop 6).take (Tryd.prog.cellsOf 56)) default
    rw [cells56]
    exact Rep.z_slice Tryd.underlying56
  | n + 7, hf => simp at hf
set_option maxRecDepth 100000 in
theorem rv_zero58 (w : World) : Rv w 58 #[.int .i64 0, .string ⟨#[]⟩, .slice none 0 0, .slice none 0 0, .slice none 0 0, .slice none 0 0, .slice none 0 0] default := ⟨3, zero58 0⟩
end Go.Proofs.YtohneabalakmeaaDoor
