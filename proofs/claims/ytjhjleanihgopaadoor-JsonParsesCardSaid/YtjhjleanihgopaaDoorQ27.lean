/- Parts of a proof, merged by a program (shake.py). -/
import Derived.Test.YtjhjleanihgopaaDoorRows
import Derived.Test.YtjhjleanihgopaaDoorQ26
set_option linter.unusedVariables false
set_option linter.unusedSimpArgs false
namespace Go.Proofs.YtjhjleanihgopaaDoor
open Go.RowKit
variable {w : World} {I : Nat → Prop} {k : Nat} {cs : List Value} {d : D}
theorem cells3 : Tryd.prog.cellsOf 3 = 1 := by kernel_rfl
theorem cells39 : Tryd.prog.cellsOf 39 = 5 := by kernel_rfl
theorem cells9 : Tryd.prog.cellsOf 9 = 1 := by kernel_rfl
theorem cells36 : Tryd.prog.cellsOf 36 = 1 := by kernel_rfl
theorem cells37 : Tryd.prog.cellsOf 37 = 1 := by kernel_rfl
set_option maxRecDepth 100000 in
theorem open39 (h : Rep Tryd.prog w I (k + 1) 39 cs d) : ∃ (A3 : Option Addr) (c3 : Nat) (A4 : Option Addr) (c4 : Nat), cs = [.int .i64 (d.f 0).n, .int .i64 (d.f 1).n, .string (d.f 2).s, .slice A3 (d.f 3).l.length c3, .slice A4 (d.f 4).l.length c4] ∧ (Lit.int .i64 (d.f 0).n).wf = true ∧ (Lit.int .i64 (d.f 1).n).wf = true ∧ (d.f 2).s.size ≤ maxLen ∧ ((d.f 3).l.length ≤ c3 ∧ c3 ≤ maxLen ∧ (A3 = none → c3 = 0) ∧ Sl Tryd.prog w I k 39 A3 (d.f 3).l) ∧ ((d.f 4).l.length ≤ c4 ∧ c4 ≤ maxLen ∧ (A4 = none → c4 = 0) ∧ Sl Tryd.prog w I k 9 A4 (d.f 4).l) := by
  obtain ⟨hl, hf⟩ := h.struct Tryd.underlying39
  rw [cells39] at hl
  match cs, hl, hf with
  | [x0, x1, x2, x3, x4], _, hf =>
    have g0 : Rep Tryd.prog w I k 3 (([x0, x1, x2, x3, x4].drop 0).take (Tryd.prog.cellsOf 3)) (d.f 0) := hf 0 _ rfl
    simp only [cells3, List.drop_zero, List.drop_succ_cons, List.take_succ_cons, List.take_zero] at g0
    obtain ⟨e0, r0⟩ := g0.int Tryd.underlying3
    have g1 : Rep Tryd.prog w I k 3 (([x0, x1, x2, x3, x4].drop 1).take (Tryd.prog.cellsOf 3)) (d.f 1) := hf 1 _ rfl
    simp only [cells3, List.drop_zero, List.drop_succ_cons, List.take_succ_cons, List.take_zero] at g1
    obtain ⟨e1, r1⟩ := g1.int Tryd.underlying3
    have g2 : Rep Tryd.prog w I k 9 (([x0, x1, x2, x3, x4].drop 2).take (Tryd.prog.cellsOf 9)) (d.f 2) := hf 2 _ rfl
    simp only [cells9, List.drop_zero, List.drop_succ_cons, List.take_succ_cons, List.take_zero] at g2
    obtain ⟨e2, r2⟩ := g2.str Tryd.underlying9
    have g3 : Rep Tryd.prog w I k 36 (([x0, x1, x2, x3, x4].drop 3).take (Tryd.prog.cellsOf 36)) (d.f 3) := hf 3 _ rfl
    simp only [cells36, List.drop_zero, List.drop_succ_cons, List.take_succ_cons, List.take_zero] at g3
    obtain ⟨a3, b3, e3, r3⟩ := g3.sliceAny Tryd.underlying36
    have g4 : Rep Tryd.prog w I k 37 (([x0, x1, x2, x3, x4].drop 4).take (Tryd.prog.cellsOf 37)) (d.f 4) := hf 4 _ rfl
    simp only [cells37, List.drop_zero, List.drop_succ_cons, List.take_succ_cons, List.take_zero] at g4
    obtain ⟨a4, b4, e4, r4⟩ := g4.sliceAny Tryd.underlying37
    simp only [List.cons.injEq, and_true] at e0 e1 e2 e3 e4
    rw [e0, e1, e2, e3, e4]
    exact ⟨a3, b3, a4, b4, rfl, r0, r1, r2, r3, r4⟩
set_option maxRecDepth 100000 in
theorem open39_any (h : Rep Tryd.prog w I k 39 cs d) : ∃ (A3 : Option Addr) (c3 : Nat) (A4 : Option Addr) (c4 : Nat), cs = [.int .i64 (d.f 0).n, .int .i64 (d.f 1).n, .string (d.f 2).s, .slice A3 (d.f 3).l.length c3, .slice A4 (d.f 4).l.length c4] ∧ (Lit.int .i64 (d.f 0).n).wf = true ∧ (Lit.int .i64 (d.f 1).n).wf = true ∧ (d.f 2).s.size ≤ maxLen ∧ ((d.f 3).l.length ≤ c3 ∧ c3 ≤ maxLen ∧ (A3 = none → c3 = 0) ∧ Sl Tryd.prog w I k 39 A3 (d.f 3).l) ∧ ((d.f 4).l.length ≤ c4 ∧ c4 ≤ maxLen ∧ (A4 = none → c4 = 0) ∧ Sl Tryd.prog w I k 9 A4 (d.f 4).l) := by
  cases k with
  | zero => exact h.elim
  | succ k =>
    obtain ⟨A3, c3, A4, c4, rfl, r0, r1, r2, ⟨s3a, s3b, s3c, s3⟩, ⟨s4a, s4b, s4c, s4⟩⟩ := open39 h
    exact ⟨A3, c3, A4, c4, rfl, r0, r1, r2, ⟨s3a, s3b, s3c, s3.up⟩, ⟨s4a, s4b, s4c, s4.up⟩⟩
end Go.Proofs.YtjhjleanihgopaaDoor
namespace Go.Proofs.YtjhjleanihgopaaDoor
open Go.RowKit
/-- the cells cs, of type T, read as d -/
def Rv (w : World) (T : TypeId) (cs : Array Value) (d : D) : Prop := ∃ k, Rep Tryd.prog w (fun b => b < w.heap.size) k T cs.toList d
/-- the slice at A reads as l, its elements of type e -/
def Rs (w : World) (e : TypeId) (A : Option Addr) (l : List D) : Prop := ∃ k, Sl Tryd.prog w (fun b => b < w.heap.size) k e A l
theorem Rv.under {w w' : World} {T : TypeId} {cs : Array Value} {d : D} (h : Rv w T cs d) (hb : Below w.heap.size w w') : Rv w' T cs d := by
  obtain ⟨k, h⟩ := h; exact ⟨k, h.under hb⟩
theorem Rs.under {w w' : World} {e : TypeId} {A : Option Addr} {l : List D} (h : Rs w e A l) (hb : Below w.heap.size w w') : Rs w' e A l := by
  obtain ⟨k, h⟩ := h; exact ⟨k, h.under hb⟩
theorem Rs.nil (w : World) (e : TypeId) (A : Option Addr) : Rs w e A [] := ⟨0, Sl.nil _ _ _⟩
theorem wfr {n : Int} (h : (Lit.int .i64 n).wf = true) : -9223372036854775808 ≤ n ∧ n ≤ 9223372036854775807 := by
  simp only [Lit.wf, Bool.and_eq_true, decide_eq_true_eq] at h
  obtain ⟨h1, h2⟩ := h
  have h3 : (n : Int) < 9223372036854775808 := Int.lt_of_le_of_lt h2 (by decide)
  exact ⟨Int.le_trans (by decide) h1, by omega⟩
def At32 (w : World) (b o : Nat) (d : D) : Prop := w.cell? ⟨b, o, none⟩ = some (.int .i64 (d.f 0).n) ∧ w.cell? ⟨b, o + 1, none⟩ = some (.bool (d.f 1).b) ∧ (-9223372036854775808 ≤ (d.f 0).n ∧ (d.f 0).n ≤ 9223372036854775807) ∧ Rv w 32 #[.int .i64 (d.f 0).n, .bool (d.f 1).b] d
set_option maxRecDepth 100000 in
theorem At32.under {w w' : World} {b o : Nat} {d : D} (h : At32 w b o d) (hl : b < w.heap.size) (hb : Below w.heap.size w w') : At32 w' b o d := by
  obtain ⟨k0, k1, r0, y⟩ := h
  exact ⟨(hb.cell (p := ⟨b, _, none⟩) hl).trans k0, (hb.cell (p := ⟨b, _, none⟩) hl).trans k1, r0, y.under hb⟩
def At24 (w : World) (b o : Nat) (d : D) : Prop := ∃ (A0 : Option Addr) (c0 : Nat), w.cell? ⟨b, o, none⟩ = some (.slice A0 (d.f 0).l.length c0) ∧ ((d.f 0).l.length ≤ c0 ∧ c0 ≤ maxLen ∧ (A0 = none → c0 = 0) ∧ Rs w 55 A0 (d.f 0).l) ∧ Rv w 24 #[.slice A0 (d.f 0).l.length c0] d
set_option maxRecDepth 100000 in
theorem At24.under {w w' : World} {b o : Nat} {d : D} (h : At24 w b o d) (hl : b < w.heap.size) (hb : Below w.heap.size w w') : At24 w' b o d := by
  obtain ⟨A0, c0, k0, ⟨s0a, s0b, s0c, s0⟩, y⟩ := h
  exact ⟨A0, c0, (hb.cell (p := ⟨b, _, none⟩) hl).trans k0, ⟨s0a, s0b, s0c, s0.under hb⟩, y.under hb⟩
def In39 (w : World) (cs : Array Value) (d : D) : Prop := ∃ (A3 : Option Addr) (c3 : Nat) (A4 : Option Addr) (c4 : Nat), cs = #[.int .i64 (d.f 0).n, .int .i64 (d.f 1).n, .string (d.f 2).s, .slice A3 (d.f 3).l.length c3, .slice A4 (d.f 4).l.length c4] ∧ (-9223372036854775808 ≤ (d.f 0).n ∧ (d.f 0).n ≤ 9223372036854775807) ∧ (-9223372036854775808 ≤ (d.f 1).n ∧ (d.f 1).n ≤ 9223372036854775807) ∧ (d.f 2).s.size ≤ maxLen ∧ ((d.f 3).l.length ≤ c3 ∧ c3 ≤ maxLen ∧ (A3 = none → c3 = 0) ∧ Rs w 39 A3 (d.f 3).l) ∧ ((d.f 4).l.length ≤ c4 ∧ c4 ≤ maxLen ∧ (A4 = none → c4 = 0) ∧ Rs w 9 A4 (d.f 4).l)
def At39 (w : World) (b o : Nat) (d : D) : Prop := ∃ (A3 : Option Addr) (c3 : Nat) (A4 : Option Addr) (c4 : Nat), w.cell? ⟨b, o, none⟩ = some (.int .i64 (d.f 0).n) ∧ w.cell? ⟨b, o + 1, none⟩ = some (.int .i64 (d.f 1).n) ∧ w.cell? ⟨b, o + 2, none⟩ = some (.string (d.f 2).s) ∧ w.cell? ⟨b, o + 3, none⟩ = some (.slice A3 (d.f 3).l.length c3) ∧ w.cell? ⟨b, o + 4, none⟩ = some (.slice A4 (d.f 4).l.length c4) ∧ (-9223372036854775808 ≤ (d.f 0).n ∧ (d.f 0).n ≤ 9223372036854775807) ∧ (-9223372036854775808 ≤ (d.f 1).n ∧ (d.f 1).n ≤ 9223372036854775807) ∧ (d.f 2).s.size ≤ maxLen ∧ ((d.f 3).l.length ≤ c3 ∧ c3 ≤ maxLen ∧ (A3 = none → c3 = 0) ∧ Rs w 39 A3 (d.f 3).l) ∧ ((d.f 4).l.length ≤ c4 ∧ c4 ≤ maxLen ∧ (A4 = none → c4 = 0) ∧ Rs w 9 A4 (d.f 4).l) ∧ Rv w 39 #[.int .i64 (d.f 0).n, .int .i64 (d.f 1).n, .string (d.f 2).s, .slice A3 (d.f 3).l.length c3, .slice A4 (d.f 4).l.length c4] d
set_option maxRecDepth 100000 in
theorem in39 {w : World} {cs : Array Value} {d : D} (h : Rv w 39 cs d) : In39 w cs d := by
  obtain ⟨k, h⟩ := h
  obtain ⟨A3, c3, A4, c4, e, r0, r1, r2, ⟨s3a, s3b, s3c, s3⟩, ⟨s4a, s4b, s4c, s4⟩⟩ := open39_any h
  exact ⟨A3, c3, A4, c4, Array.ext' e, wfr r0, wfr r1, r2, ⟨s3a, s3b, s3c, ⟨_, s3⟩⟩, ⟨s4a, s4b, s4c, ⟨_, s4⟩⟩⟩
set_option maxRecDepth 100000 in
theorem at39 {w : World} {A : Option Addr} {l : List D} (h : Rs w 39 A l) (hp : 0 < l.length) : ∃ b off, A = some ⟨b, off, none⟩ ∧ b < w.heap.size ∧ ∀ i, i < l.length → At39 w b (off + i * 5) (gD l i) := by
  obtain ⟨k, h⟩ := h
  obtain ⟨b, off, hA, hb, hi⟩ := h hp (by rw [cells39]; omega)
  refine ⟨b, off, hA, hb, fun i hil => ?_⟩
  obtain ⟨ys, y1, y2, y3⟩ := hi i hil
  rw [cells39] at y2
  have y4 : Rv w 39 ys.toArray (gD l i) := ⟨k, by simpa using y3⟩
  obtain ⟨A3, c3, A4, c4, rfl, r0, r1, r2, ⟨s3a, s3b, s3c, s3⟩, ⟨s4a, s4b, s4c, s4⟩⟩ := open39_any y3
  exact ⟨A3, c3, A4, c4, y2 0 _ rfl, y2 1 _ rfl, y2 2 _ rfl, y2 3 _ rfl, y2 4 _ rfl, wfr r0, wfr r1, r2, ⟨s3a, s3b, s3c, ⟨_, s3⟩⟩, ⟨s4a, s4b, s4c, ⟨_, s4⟩⟩, y4⟩
set_option maxRecDepth 100000 in
theorem At39.under {w w' : World} {b o : Nat} {d : D} (h : At39 w b o d) (hl : b < w.heap.size) (hb : Below w.heap.size w w') : At39 w' b o d := by
  obtain ⟨A3, c3, A4, c4, k0, k1, k2, k3, k4, r0, r1, r2, ⟨s3a, s3b, s3c, s3⟩, ⟨s4a, s4b, s4c, s4⟩, y⟩ := h
  exact ⟨A3, c3, A4, c4, (hb.cell (p := ⟨b, _, none⟩) hl).trans k0, (hb.cell (p := ⟨b, _, none⟩) hl).trans k1, (hb.cell (p := ⟨b, _, none⟩) hl).trans k2, (hb.cell (p := ⟨b, _, none⟩) hl).trans k3, (hb.cell (p := ⟨b, _, none⟩) hl).trans k4, r0, r1, r2, ⟨s3a, s3b, s3c, s3.under hb⟩, ⟨s4a, s4b, s4c, s4.under hb⟩, y.under hb⟩
def At58 (w : World) (b o : Nat) (d : D) : Prop := ∃ (A1 : Option Addr) (c1 : Nat), w.cell? ⟨b, o, none⟩ = some (.string (d.f 0).s) ∧ w.cell? ⟨b, o + 1, none⟩ = some (.slice A1 (d.f 1).l.length c1) ∧ (d.f 0).s.size ≤ maxLen ∧ ((d.f 1).l.length ≤ c1 ∧ c1 ≤ maxLen ∧ (A1 = none → c1 = 0) ∧ Rs w 3 A1 (d.f 1).l) ∧ Rv w 58 #[.string (d.f 0).s, .slice A1 (d.f 1).l.length c1] d
set_option maxRecDepth 100000 in
theorem At58.under {w w' : World} {b o : Nat} {d : D} (h : At58 w b o d) (hl : b < w.heap.size) (hb : Below w.heap.size w w') : At58 w' b o d := by
  obtain ⟨A1, c1, k0, k1, r0, ⟨s1a, s1b, s1c, s1⟩, y⟩ := h
  exact ⟨A1, c1, (hb.cell (p := ⟨b, _, none⟩) hl).trans k0, (hb.cell (p := ⟨b, _, none⟩) hl).trans k1, r0, ⟨s1a, s1b, s1c, s1.under hb⟩, y.under hb⟩
def At155 (w : World) (b o : Nat) (d : D) : Prop := ∃ (A4 : Option Addr) (c4 : Nat) (A5 : Option Addr) (c5 : Nat), w.cell? ⟨b, o, none⟩ = some (.string (d.f 0).s) ∧ w.cell? ⟨b, o + 1, none⟩ = some (.int .i64 ((d.f 1).f 0).n) ∧ w.cell? ⟨b, o + 2, none⟩ = some (.int .i64 ((d.f 1).f 1).n) ∧ w.cell? ⟨b, o + 3, none⟩ = some (.string ((d.f 1).f 2).s) ∧ w.cell? ⟨b, o + 4, none⟩ = some (.slice A4 ((d.f 1).f 3).l.length c4) ∧ w.cell? ⟨b, o + 5, none⟩ = some (.slice A5 ((d.f 1).f 4).l.length c5) ∧ (d.f 0).s.size ≤ maxLen ∧ (-9223372036854775808 ≤ ((d.f 1).f 0).n ∧ ((d.f 1).f 0).n ≤ 9223372036854775807) ∧ (-9223372036854775808 ≤ ((d.f 1).f 1).n ∧ ((d.f 1).f 1).n ≤ 9223372036854775807) ∧ ((d.f 1).f 2).s.size ≤ maxLen ∧ (((d.f 1).f 3).l.length ≤ c4 ∧ c4 ≤ maxLen ∧ (A4 = none → c4 = 0) ∧ Rs w 39 A4 ((d.f 1).f 3).l) ∧ (((d.f 1).f 4).l.length ≤ c5 ∧ c5 ≤ maxLen ∧ (A5 = none → c5 = 0) ∧ Rs w 9 A5 ((d.f 1).f 4).l) ∧ Rv w 155 #[.string (d.f 0).s, .int .i64 ((d.f 1).f 0).n, .int .i64 ((d.f 1).f 1).n, .string ((d.f 1).f 2).s, .slice A4 ((d.f 1).f 3).l.length c4, .slice A5 ((d.f 1).f 4).l.length c5] d
set_option maxRecDepth 100000 in
theorem At155.under {w w' : World} {b o : Nat} {d : D} (h : At155 w b o d) (hl : b < w.heap.size) (hb : Below w.heap.size w w') : At155 w' b o d := by
  obtain ⟨A4, c4, A5, c5, k0, k1, k2, k3, k4, k5, r0, r1, r2, r3, ⟨s4a, s4b, s4c, s4⟩, ⟨s5a, s5b, s5c, s5⟩, y⟩ := h
  exact ⟨A4, c4, A5, c5, (hb.cell (p := ⟨b, _, none⟩) hl).trans k0, (hb.cell (p := ⟨b, _, none⟩) hl).trans k1, (hb.cell (p := ⟨b, _, none⟩) hl).trans k2, (hb.cell (p := ⟨b, _, none⟩) hl).trans k3, (hb.cell (p := ⟨b, _, none⟩) hl).trans k4, (hb.cell (p := ⟨b, _, none⟩) hl).trans k5, r0, r1, r2, r3, ⟨s4a, s4b, s4c, s4.under hb⟩, ⟨s5a, s5b, s5c, s5.under hb⟩, y.under hb⟩
def At136 (w : World) (b o : Nat) (d : D) : Prop := ∃ (A1 : Option Addr) (c1 : Nat), w.cell? ⟨b, o, none⟩ = some (.string (d.f 0).s) ∧ w.cell? ⟨b, o + 1, none⟩ = some (.slice A1 (d.f 1).l.length c1) ∧ (d.f 0).s.size ≤ maxLen ∧ ((d.f 1).l.length ≤ c1 ∧ c1 ≤ maxLen ∧ (A1 = none → c1 = 0) ∧ Rs w 155 A1 (d.f 1).l) ∧ Rv w 136 #[.string (d.f 0).s, .slice A1 (d.f 1).l.length c1] d
set_option maxRecDepth 100000 in
theorem At136.under {w w' : World} {b o : Nat} {d : D} (h : At136 w b o d) (hl : b < w.heap.size) (hb : Below w.heap.size w w') : At136 w' b o d := by
  obtain ⟨A1, c1, k0, k1, r0, ⟨s1a, s1b, s1c, s1⟩, y⟩ := h
  exact ⟨A1, c1, (hb.cell (p := ⟨b, _, none⟩) hl).trans k0, (hb.cell (p := ⟨b, _, none⟩) hl).trans k1, r0, ⟨s1a, s1b, s1c, s1.under hb⟩, y.under hb⟩
def At196 (w : World) (b o : Nat) (d : D) : Prop := ∃ (A2 : Option Addr) (c2 : Nat) (A7 : Option Addr) (c7 : Nat) (A8 : Option Addr) (c8 : Nat) (A9 : Option Addr) (c9 : Nat), w.cell? ⟨b, o, none⟩ = some (.string (d.f 0).s) ∧ w.cell? ⟨b, o + 1, none⟩ = some (.string ((d.f 1).f 0).s) ∧ w.cell? ⟨b, o + 2, none⟩ = some (.slice A2 ((d.f 1).f 1).l.length c2) ∧ w.cell? ⟨b, o + 3, none⟩ = some (.bool (d.f 2).b) ∧ w.cell? ⟨b, o + 4, none⟩ = some (.int .i64 ((d.f 3).f 0).n) ∧ w.cell? ⟨b, o + 5, none⟩ = some (.int .i64 ((d.f 3).f 1).n) ∧ w.cell? ⟨b, o + 6, none⟩ = some (.string ((d.f 3).f 2).s) ∧ w.cell? ⟨b, o + 7, none⟩ = some (.slice A7 ((d.f 3).f 3).l.length c7) ∧ w.cell? ⟨b, o + 8, none⟩ = some (.slice A8 ((d.f 3).f 4).l.length c8) ∧ w.cell? ⟨b, o + 9, none⟩ = some (.slice A9 (d.f 4).l.length c9) ∧ (d.f 0).s.size ≤ maxLen ∧ ((d.f 1).f 0).s.size ≤ maxLen ∧ (((d.f 1).f 1).l.length ≤ c2 ∧ c2 ≤ maxLen ∧ (A2 = none → c2 = 0) ∧ Rs w 3 A2 ((d.f 1).f 1).l) ∧ (-9223372036854775808 ≤ ((d.f 3).f 0).n ∧ ((d.f 3).f 0).n ≤ 9223372036854775807) ∧ (-9223372036854775808 ≤ ((d.f 3).f 1).n ∧ ((d.f 3).f 1).n ≤ 9223372036854775807) ∧ ((d.f 3).f 2).s.size ≤ maxLen ∧ (((d.f 3).f 3).l.length ≤ c7 ∧ c7 ≤ maxLen ∧ (A7 = none → c7 = 0) ∧ Rs w 39 A7 ((d.f 3).f 3).l) ∧ (((d.f 3).f 4).l.length ≤ c8 ∧ c8 ≤ maxLen ∧ (A8 = none → c8 = 0) ∧ Rs w 9 A8 ((d.f 3).f 4).l) ∧ ((d.f 4).l.length ≤ c9 ∧ c9 ≤ maxLen ∧ (A9 = none → c9 = 0) ∧ Rs w 136 A9 (d.f 4).l) ∧ Rv w 196 #[.string (d.f 0).s, .string ((d.f 1).f 0).s, .slice A2 ((d.f 1).f 1).l.length c2, .bool (d.f 2).b, .int .i64 ((d.f 3).f 0).n, .int .i64 ((d.f 3).f 1).n, .string ((d.f 3).f 2).s, .slice A7 ((d.f 3).f 3).l.length c7, .slice A8 ((d.f 3).f 4).l.length c8, .slice A9 (d.f 4).l.length c9] d
set_option maxRecDepth 100000 in
theorem At196.under {w w' : World} {b o : Nat} {d : D} (h : At196 w b o d) (hl : b < w.heap.size) (hb : Below w.heap.size w w') : At196 w' b o d := by
  obtain ⟨A2, c2, A7, c7, A8, c8, A9, c9, k0, k1, k2, k3, k4, k5, k6, k7, k8, k9, r0, r1, ⟨s2a, s2b, s2c, s2⟩, r3, r4, r5, ⟨s6a, s6b, s6c, s6⟩, ⟨s7a, s7b, s7c, s7⟩, ⟨s8a, s8b, s8c, s8⟩, y⟩ := h
  exact ⟨A2, c2, A7, c7, A8, c8, A9, c9, (hb.cell (p := ⟨b, _, none⟩) hl).trans k0, (hb.cell (p := ⟨b, _, none⟩) hl).trans k1, (hb.cell (p := ⟨b, _, none⟩) hl).trans k2, (hb.cell (p := ⟨b, _, none⟩) hl).trans k3, (hb.cell (p := ⟨b, _, none⟩) hl).trans k4, (hb.cell (p := ⟨b, _, none⟩) hl).trans k5, (hb.cell (p := ⟨b, _, none⟩) hl).trans k6, (hb.cell (p := ⟨b, _, none⟩) hl).trans k7, (hb.cell (p := ⟨b, _, none⟩) hl).trans k8, (hb.cell (p := ⟨b, _, none⟩) hl).trans k9, r0, r1, ⟨s2a, s2b, s2c, s2.under hb⟩, r3, r4, r5, ⟨s6a, s6b, s6c, s6.under hb⟩, ⟨s7a, s7b, s7c, s7.under hb⟩, ⟨s8a, s8b, s8c, s8.under hb⟩, y.under hb⟩
def At60 (w : World) (b o : Nat) (d : D) : Prop := ∃ (A1 : Option Addr) (c1 : Nat) (A3 : Option Addr) (c3 : Nat) (A4 : Option Addr) (c4 : Nat), w.cell? ⟨b, o, none⟩ = some (.string (d.f 0).s) ∧ w.cell? ⟨b, o + 1, none⟩ = some (.slice A1 (d.f 1).l.length c1) ∧ w.cell? ⟨b, o + 2, none⟩ = some (.string ((d.f 2).f 0).s) ∧ w.cell? ⟨b, o + 3, none⟩ = some (.slice A3 ((d.f 2).f 1).l.length c3) ∧ w.cell? ⟨b, o + 4, none⟩ = some (.slice A4 (d.f 3).l.length c4) ∧ (d.f 0).s.size ≤ maxLen ∧ ((d.f 1).l.length ≤ c1 ∧ c1 ≤ maxLen ∧ (A1 = none → c1 = 0) ∧ Rs w 196 A1 (d.f 1).l) ∧ ((d.f 2).f 0).s.size ≤ maxLen ∧ (((d.f 2).f 1).l.length ≤ c3 ∧ c3 ≤ maxLen ∧ (A3 = none → c3 = 0) ∧ Rs w 3 A3 ((d.f 2).f 1).l) ∧ ((d.f 3).l.length ≤ c4 ∧ c4 ≤ maxLen ∧ (A4 = none → c4 = 0) ∧ Rs w 136 A4 (d.f 3).l) ∧ Rv w 60 #[.string (d.f 0).s, .slice A1 (d.f 1).l.length c1, .string ((d.f 2).f 0).s, .slice A3 ((d.f 2).f 1).l.length c3, .slice A4 (d.f 3).l.length c4] d
set_option maxRecDepth 100000 in
theorem At60.under {w w' : World} {b o : Nat} {d : D} (h : At60 w b o d) (hl : b < w.heap.size) (hb : Below w.heap.size w w') : At60 w' b o d := by
  obtain ⟨A1, c1, A3, c3, A4, c4, k0, k1, k2, k3, k4, r0, ⟨s1a, s1b, s1c, s1⟩, r2, ⟨s3a, s3b, s3c, s3⟩, ⟨s4a, s4b, s4c, s4⟩, y⟩ := h
  exact ⟨A1, c1, A3, c3, A4, c4, (hb.cell (p := ⟨b, _, none⟩) hl).trans k0, (hb.cell (p := ⟨b, _, none⟩) hl).trans k1, (hb.cell (p := ⟨b, _, none⟩) hl).trans k2, (hb.cell (p := ⟨b, _, none⟩) hl).trans k3, (hb.cell (p := ⟨b, _, none⟩) hl).trans k4, r0, ⟨s1a, s1b, s1c, s1.under hb⟩, r2, ⟨s3a, s3b, s3c, s3.under hb⟩, ⟨s4a, s4b, s4c, s4.under hb⟩, y.under hb⟩
def At194 (w : World) (b o : Nat) (d : D) : Prop := ∃ (A1 : Option Addr) (c1 : Nat), w.cell? ⟨b, o, none⟩ = some (.string (d.f 0).s) ∧ w.cell? ⟨b, o + 1, none⟩ = some (.slice A1 (d.f 1).l.length c1) ∧ (d.f 0).s.size ≤ maxLen ∧ ((d.f 1).l.length ≤ c1 ∧ c1 ≤ maxLen ∧ (A1 = none → c1 = 0) ∧ Rs w 136 A1 (d.f 1).l) ∧ Rv w 194 #[.string (d.f 0).s, .slice A1 (d.f 1).l.length c1] d
set_option maxRecDepth 100000 in
theorem At194.under {w w' : World} {b o : Nat} {d : D} (h : At194 w b o d) (hl : b < w.heap.size) (hb : Below w.heap.size w w') : At194 w' b o d := by
  obtain ⟨A1, c1, k0, k1, r0, ⟨s1a, s1b, s1c, s1⟩, y⟩ := h
  exact ⟨A1, c1, (hb.cell (p := ⟨b, _, none⟩) hl).trans k0, (hb.cell (p := ⟨b, _, none⟩) hl).trans k1, r0, ⟨s1a, s1b, s1c, s1.under hb⟩, y.under hb⟩
def At55 (w : World) (b o : Nat) (d : D) : Prop := ∃ (A2 : Option Addr) (c2 : Nat) (A3 : Option Addr) (c3 : Nat) (A4 : Option Addr) (c4 : Nat) (A5 : Option Addr) (c5 : Nat) (A6 : Option Addr) (c6 : Nat), w.cell? ⟨b, o, none⟩ = some (.int .i64 (d.f 0).n) ∧ w.cell? ⟨b, o + 1, none⟩ = some (.string (d.f 1).s) ∧ w.cell? ⟨b, o + 2, none⟩ = some (.slice A2 (d.f 2).l.length c2) ∧ w.cell? ⟨b, o + 3, none⟩ = some (.slice A3 (d.f 3).l.length c3) ∧ w.cell? ⟨b, o + 4, none⟩ = some (.slice A4 (d.f 4).l.length c4) ∧ w.cell? ⟨b, o + 5, none⟩ = some (.slice A5 (d.f 5).l.length c5) ∧ w.cell? ⟨b, o + 6, none⟩ = some (.slice A6 (d.f 6).l.length c6) ∧ (-9223372036854775808 ≤ (d.f 0).n ∧ (d.f 0).n ≤ 9223372036854775807) ∧ (d.f 1).s.size ≤ maxLen ∧ ((d.f 2).l.length ≤ c2 ∧ c2 ≤ maxLen ∧ (A2 = none → c2 = 0) ∧ Rs w 9 A2 (d.f 2).l) ∧ ((d.f 3).l.length ≤ c3 ∧ c3 ≤ maxLen ∧ (A3 = none → c3 = 0) ∧ Rs w 136 A3 (d.f 3).l) ∧ ((d.f 4).l.length ≤ c4 ∧ c4 ≤ maxLen ∧ (A4 = none → c4 = 0) ∧ Rs w 60 A4 (d.f 4).l) ∧ ((d.f 5).l.length ≤ c5 ∧ c5 ≤ maxLen ∧ (A5 = none → c5 = 0) ∧ Rs w 194 A5 (d.f 5).l) ∧ ((d.f 6).l.length ≤ c6 ∧ c6 ≤ maxLen ∧ (A6 = none → c6 = 0) ∧ Rs w 196 A6 (d.f 6).l) ∧ Rv w 55 #[.int .i64 (d.f 0).n, .string (d.f 1).s, .slice A2 (d.f 2).l.length c2, .slice A3 (d.f 3).l.length c3, .slice A4 (d.f 4).l.length c4, .slice A5 (d.f 5).l.length c5, .slice A6 (d.f 6).l.length c6] d
set_option maxRecDepth 100000 in
theorem At55.under {w w' : World} {b o : Nat} {d : D} (h : At55 w b o d) (hl : b < w.heap.size) (hb : Below w.heap.size w w') : At55 w' b o d := by
  obtain ⟨A2, c2, A3, c3, A4, c4, A5, c5, A6, c6, k0, k1, k2, k3, k4, k5, k6, r0, r1, ⟨s2a, s2b, s2c, s2⟩, ⟨s3a, s3b, s3c, s3⟩, ⟨s4a, s4b, s4c, s4⟩, ⟨s5a, s5b, s5c, s5⟩, ⟨s6a, s6b, s6c, s6⟩, y⟩ := h
  exact ⟨A2, c2, A3, c3, A4, c4, A5, c5, A6, c6, (hb.cell (p := ⟨b, _, none⟩) hl).trans k0, (hb.cell (p := ⟨b, _, none⟩) hl).trans k1, (hb.cell (p := ⟨b, _, none⟩) hl).trans k2, (hb.cell (p := ⟨b, _, none⟩) hl).trans k3, (hb.cell (p := ⟨b, _, none⟩) hl).trans k4, (hb.cell (p := ⟨b, _, none⟩) hl).trans k5, (hb.cell (p := ⟨b, _, none⟩) hl).trans k6, r0, r1, ⟨s2a, s2b, s2c, s2.under hb⟩, ⟨s3a, s3b, s3c, s3.under hb⟩, ⟨s4a, s4b, s4c, s4.under hb⟩, ⟨s5a, s5b, s5c, s5.under hb⟩, ⟨s6a, s6b, s6c, s6.under hb⟩, y.under hb⟩
end Go.Proofs.YtjhjleanihgopaaDoor
namespace Go.Proofs.YtjhjleanihgopaaDoor
open Go.RowKit
attribute [local irreducible] wpList Calls Code.wp
set_option maxRecDepth 100000 in
theorem var_stays {P : Program} {w w' : World} {n : String} {g G : Nat} {cs : Array Value} (hg : P.globalNamed n = some g) (hG : g < G) (h : w.var? P n = some cs) (hs : ∀ k, k < G → w'.heap[k]? = w.heap[k]?) : w'.var? P n = some cs := by
  unfold World.var? at h ⊢
  rw [hg] at h ⊢
  simp only [Option.bind_some] at h ⊢
  rw [hs g hG]; exact h
def EN5 : Ge where
  G := 4
  E := Env
  stays w w' h hs := by
    obtain ⟨h1, ⟨tp, p, h2⟩, ⟨tp', p', h3⟩⟩ := h
    exact ⟨var_stays (g := 3) (by kernel_rfl) (by omega) h1 hs, ⟨tp, p, var_stays (g := 2) (by kernel_rfl) (by omega) h2 hs⟩, ⟨tp', p', var_stays (g := 1) (by kernel_rfl) (by omega) h3 hs⟩⟩
  le w h := by
    have h1 := h.1
    unfold Lib.TabIs World.var? at h1
    rw [show Tryd.prog.globalNamed "internal/strconv.uint64pow10" = some 3 by kernel_rfl] at h1
    simp only [Option.bind_some] at h1
    rcases Nat.lt_or_ge 3 w.heap.size with h' | h'
    · exact h'
    · rw [Array.getElem?_eq_none h'] at h1; cases h1
set_option maxRecDepth 100000 in
/-- a contract over blocks that turns nothing old and hands back values that read no memory -/
theorem ac_of5 {f : FuncId} {args : List V} {r : V} {u : Value} (h : ∀ s w us, relL Tryd.prog s w args us.toList → Env w → (∀ s' w', rel Tryd.prog s' w' r u) ∧ Calls Tryd.prog f us w fun e w' => e = .returned u ∧ Below w.heap.size w w') : AC EN5 Tryd.prog f args r := by
  intro s w us hus hfx he
  obtain ⟨hr, hc⟩ := h s w us hus he
  refine hc.mono ?_
  rintro e w' ⟨rfl, hb⟩
  have hc : ∀ b o, s.F b o → w'.cell? ⟨b, o, none⟩ = w.cell? ⟨b, o, none⟩ := fun b o hF => by
    obtain ⟨x, hx⟩ := Option.isSome_iff_exists.1 (hfx b o hF)
    exact hb.cell (p := ⟨b, o, none⟩) (block_lt_of_cell hx)
  exact ⟨u, s.F, rfl, Frm.of_below hb, fun b o hF => ⟨hc b o hF, hF⟩, fun b o hF => by rw [hc b o hF]; exact hfx b o hF, fun _ _ _ h => h, hr _ _⟩
def R64 (n : Int) : Prop := -9223372036854775808 ≤ n ∧ n ≤ 9223372036854775807
set_option maxRecDepth 100000 in
theorem rel_i64 {P : Program} {s : Sg} {w : World} {n : Int} (h : R64 n) : rel P s w (.c (.int .i64 n)) (.int .i64 n) := by
  rw [rel]
  refine ⟨rfl, ?_⟩
  show (Lit.int .i64 n).wf = true
  rw [wf_int]; exact h
set_option maxRecDepth 100000 in
theorem rel_bool {P : Program} {s : Sg} {w : World} {b : Bool} : rel P s w (.c (.bool b)) (.bool b) := by rw [rel]; exact ⟨rfl, trivial⟩
set_option maxRecDepth 100000 in
theorem R64.zero : R64 0 := ⟨by decide, by decide⟩
end Go.Proofs.YtjhjleanihgopaaDoor
