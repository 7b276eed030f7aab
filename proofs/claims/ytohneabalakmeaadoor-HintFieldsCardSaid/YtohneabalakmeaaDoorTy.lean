/- What the cells of each type are. By a program of this repo (types.py). -/
import Derived.Test.YtohneabalakmeaaDoorGen
import Derived.Test.YtohneabalakmeaaDoorRows
namespace Go.Proofs.YtohneabalakmeaaDoor
open Go.RowKit
variable {w : World} {I : Nat → Prop} {k : Nat} {cs : List Value} {d : D}
theorem cells33 : Tryd.prog.cellsOf 33 = 2 := by kernel_rfl
theorem cells3 : Tryd.prog.cellsOf 3 = 1 := by kernel_rfl
theorem cells4 : Tryd.prog.cellsOf 4 = 1 := by kernel_rfl
set_option maxRecDepth 100000 in
theorem open33 (h : Rep Tryd.prog w I (k + 1) 33 cs d) : cs = [.int .i64 (d.f 0).n, .bool (d.f 1).b] ∧ (Lit.int .i64 (d.f 0).n).wf = true := by
  obtain ⟨hl, hf⟩ := h.struct Tryd.underlying33
  rw [cells33] at hl
  match cs, hl, hf with
  | [x0, x1], _, hf =>
    have g0 : Rep Tryd.prog w I k 3 (([x0, x1].drop 0).take (Tryd.prog.cellsOf 3)) (d.f 0) := hf 0 _ rfl
    simp only [cells3, List.drop_zero, List.drop_succ_cons, List.take_succ_cons, List.take_zero] at g0
    obtain ⟨e0, r0⟩ := g0.int Tryd.underlying3
    have g1 : Rep Tryd.prog w I k 4 (([x0, x1].drop 1).take (Tryd.prog.cellsOf 4)) (d.f 1) := hf 1 _ rfl
    simp only [cells4, List.drop_zero, List.drop_succ_cons, List.take_succ_cons, List.take_zero] at g1
    have e1 := g1.bool Tryd.underlying4
    simp only [List.cons.injEq, and_true] at e0 e1
    rw [e0, e1]
    exact ⟨rfl, r0⟩
set_option maxRecDepth 100000 in
theorem open33_any (h : Rep Tryd.prog w I k 33 cs d) : cs = [.int .i64 (d.f 0).n, .bool (d.f 1).b] ∧ (Lit.int .i64 (d.f 0).n).wf = true := by
  cases k with
  | zero => exact h.elim
  | succ k =>
    obtain ⟨rfl, r0⟩ := open33 h
    exact ⟨rfl, r0⟩
theorem cells42 : Tryd.prog.cellsOf 42 = 1 := by kernel_rfl
theorem cells40 : Tryd.prog.cellsOf 40 = 1 := by kernel_rfl
theorem cells58 : Tryd.prog.cellsOf 58 = 7 := by kernel_rfl
set_option maxRecDepth 100000 in
theorem open42 (h : Rep Tryd.prog w I (k + 1) 42 cs d) : ∃ (A0 : Option Addr) (c0 : Nat), cs = [.slice A0 (d.f 0).l.length c0] ∧ ((d.f 0).l.length ≤ c0 ∧ c0 ≤ maxLen ∧ (A0 = none → c0 = 0) ∧ Sl Tryd.prog w I k 58 A0 (d.f 0).l) := by
  obtain ⟨hl, hf⟩ := h.struct Tryd.underlying42
  rw [cells42] at hl
  match cs, hl, hf with
  | [x0], _, hf =>
    have g0 : Rep Tryd.prog w I k 40 (([x0].drop 0).take (Tryd.prog.cellsOf 40)) (d.f 0) := hf 0 _ rfl
    simp only [cells40, List.drop_zero, List.drop_succ_cons, List.take_succ_cons, List.take_zero] at g0
    obtain ⟨a0, b0, e0, r0⟩ := g0.sliceAny Tryd.underlying40
    simp only [List.cons.injEq, and_true] at e0
    rw [e0]
    exact ⟨a0, b0, rfl, r0⟩
set_option maxRecDepth 100000 in
theorem open42_any (h : Rep Tryd.prog w I k 42 cs d) : ∃ (A0 : Option Addr) (c0 : Nat), cs = [.slice A0 (d.f 0).l.length c0] ∧ ((d.f 0).l.length ≤ c0 ∧ c0 ≤ maxLen ∧ (A0 = none → c0 = 0) ∧ Sl Tryd.prog w I k 58 A0 (d.f 0).l) := by
  cases k with
  | zero => exact h.elim
  | succ k =>
    obtain ⟨A0, c0, rfl, ⟨s0a, s0b, s0c, s0⟩⟩ := open42 h
    exact ⟨A0, c0, rfl, ⟨s0a, s0b, s0c, s0.up⟩⟩
theorem cells49 : Tryd.prog.cellsOf 49 = 5 := by kernel_rfl
theorem cells9 : Tryd.prog.cellsOf 9 = 1 := by kernel_rfl
theorem cells46 : Tryd.prog.cellsOf 46 = 1 := by kernel_rfl
theorem cells47 : Tryd.prog.cellsOf 47 = 1 := by kernel_rfl
set_option maxRecDepth 100000 in
theorem open49 (h : Rep Tryd.prog w I (k + 1) 49 cs d) : ∃ (A3 : Option Addr) (c3 : Nat) (A4 : Option Addr) (c4 : Nat), cs = [.int .i64 (d.f 0).n, .int .i64 (d.f 1).n, .string (d.f 2).s, .slice A3 (d.f 3).l.length c3, .slice A4 (d.f 4).l.length c4] ∧ (Lit.int .i64 (d.f 0).n).wf = true ∧ (Lit.int .i64 (d.f 1).n).wf = true ∧ (d.f 2).s.size ≤ maxLen ∧ ((d.f 3).l.length ≤ c3 ∧ c3 ≤ maxLen ∧ (A3 = none → c3 = 0) ∧ Sl Tryd.prog w I k 49 A3 (d.f 3).l) ∧ ((d.f 4).l.length ≤ c4 ∧ c4 ≤ maxLen ∧ (A4 = none → c4 = 0) ∧ Sl Tryd.prog w I k 9 A4 (d.f 4).l) := by
  obtain ⟨hl, hf⟩ := h.struct Tryd.underlying49
  rw [cells49] at hl
  match cs, hl, hf with
  | [x0, x1, x2, x3, x4], _, hf =>
    have g0 : Rep Tryd.prog w I k 3 (([x0, x1, x2, x3, x4].drop 0).take (Tryd.prog.cellsOf 3)) (d.f 0) := hf 0 _ rfl
    simp only [cells3, List.drop_zero, List.drop_succ_cons, List.take_succ_cons, List.take_zero] at g0
    obtain ⟨e0, r0⟩ := g0.int Tryd.underlying3
    have g1 : Rep Tryd.prog w I k 3 (([x0, x1, x2, x3, x4].drop 1).take (Tryd.prog.cellsOf 3)) (d.f 1) := hf 1 _ rfl
    simp only [cells3, List.drop_zero, List.drop_succ_cons, List.take_succ_cons, List.take_zero] at g1
    obtain ⟨e1, r1⟩ := g1.int Tryd.underlying3
    have g2 : Rep Tryd.prog w I k 9 (([x0, x1, x2, x3, x4].drop 2).take (Tryd.prog.cellsOf 9)) (d.f 2) := hf 2 _ rfl
    simp only [cells9, List.drop_zero, List.drop_succ_cons, List.take_succ_cons, List.take_zero] at g2
    obtain ⟨e2, r2⟩ := g2.str Tryd.underlying9
    have g3 : Rep Tryd.prog w I k 46 (([x0, x1, x2, x3, x4].drop 3).take (Tryd.prog.cellsOf 46)) (d.f 3) := hf 3 _ rfl
    simp only [cells46, List.drop_zero, List.drop_succ_cons, List.take_succ_cons, List.take_zero] at g3
    obtain ⟨a3, b3, e3, r3⟩ := g3.sliceAny Tryd.underlying46
    have g4 : Rep Tryd.prog w I k 47 (([x0, x1, x2, x3, x4].drop 4).take (Tryd.prog.cellsOf 47)) (d.f 4) := hf 4 _ rfl
    simp only [cells47, List.drop_zero, List.drop_succ_cons, List.take_succ_cons, List.take_zero] at g4
    obtain ⟨a4, b4, e4, r4⟩ := g4.sliceAny Tryd.underlying47
    simp only [List.cons.injEq, and_true] at e0 e1 e2 e3 e4
    rw [e0, e1, e2, e3, e4]
    exact ⟨a3, b3, a4, b4, rfl, r0, r1, r2, r3, r4⟩
set_option maxRecDepth 100000 in
theorem open49_any (h : Rep Tryd.prog w I k 49 cs d) : ∃ (A3 : Option Addr) (c3 : Nat) (A4 : Option Addr) (c4 : Nat), cs = [.int .i64 (d.f 0).n, .int .i64 (d.f 1).n, .string (d.f 2).s, .slice A3 (d.f 3).l.length c3, .slice A4 (d.f 4).l.length c4] ∧ (Lit.int .i64 (d.f 0).n).wf = true ∧ (Lit.int .i64 (d.f 1).n).wf = true ∧ (d.f 2).s.size ≤ maxLen ∧ ((d.f 3).l.length ≤ c3 ∧ c3 ≤ maxLen ∧ (A3 = none → c3 = 0) ∧ Sl Tryd.prog w I k 49 A3 (d.f 3).l) ∧ ((d.f 4).l.length ≤ c4 ∧ c4 ≤ maxLen ∧ (A4 = none → c4 = 0) ∧ Sl Tryd.prog w I k 9 A4 (d.f 4).l) := by
  cases k with
  | zero => exact h.elim
  | succ k =>
    obtain ⟨A3, c3, A4, c4, rfl, r0, r1, r2, ⟨s3a, s3b, s3c, s3⟩, ⟨s4a, s4b, s4c, s4⟩⟩ := open49 h
    exact ⟨A3, c3, A4, c4, rfl, r0, r1, r2, ⟨s3a, s3b, s3c, s3.up⟩, ⟨s4a, s4b, s4c, s4.up⟩⟩
theorem cells62 : Tryd.prog.cellsOf 62 = 2 := by kernel_rfl
theorem cells60 : Tryd.prog.cellsOf 60 = 1 := by kernel_rfl
set_option maxRecDepth 100000 in
theorem open62 (h : Rep Tryd.prog w I (k + 1) 62 cs d) : ∃ (A1 : Option Addr) (c1 : Nat), cs = [.string (d.f 0).s, .slice A1 (d.f 1).l.length c1] ∧ (d.f 0).s.size ≤ maxLen ∧ ((d.f 1).l.length ≤ c1 ∧ c1 ≤ maxLen ∧ (A1 = none → c1 = 0) ∧ Sl Tryd.prog w I k 3 A1 (d.f 1).l) := by
  obtain ⟨hl, hf⟩ := h.struct Tryd.underlying62
  rw [cells62] at hl
  match cs, hl, hf with
  | [x0, x1], _, hf =>
    have g0 : Rep Tryd.prog w I k 9 (([x0, x1].drop 0).take (Tryd.prog.cellsOf 9)) (d.f 0) := hf 0 _ rfl
    simp only [cells9, List.drop_zero, List.drop_succ_cons, List.take_succ_cons, List.take_zero] at g0
    obtain ⟨e0, r0⟩ := g0.str Tryd.underlying9
    have g1 : Rep Tryd.prog w I k 60 (([x0, x1].drop 1).take (Tryd.prog.cellsOf 60)) (d.f 1) := hf 1 _ rfl
    simp only [cells60, List.drop_zero, List.drop_succ_cons, List.take_succ_cons, List.take_zero] at g1
    obtain ⟨a1, b1, e1, r1⟩ := g1.sliceAny Tryd.underlying60
    simp only [List.cons.injEq, and_true] at e0 e1
    rw [e0, e1]
    exact ⟨a1, b1, rfl, r0, r1⟩
set_option maxRecDepth 100000 in
theorem open62_any (h : Rep Tryd.prog w I k 62 cs d) : ∃ (A1 : Option Addr) (c1 : Nat), cs = [.string (d.f 0).s, .slice A1 (d.f 1).l.length c1] ∧ (d.f 0).s.size ≤ maxLen ∧ ((d.f 1).l.length ≤ c1 ∧ c1 ≤ maxLen ∧ (A1 = none → c1 = 0) ∧ Sl Tryd.prog w I k 3 A1 (d.f 1).l) := by
  cases k with
  | zero => exact h.elim
  | succ k =>
    obtain ⟨A1, c1, rfl, r0, ⟨s1a, s1b, s1c, s1⟩⟩ := open62 h
    exact ⟨A1, c1, rfl, r0, ⟨s1a, s1b, s1c, s1.up⟩⟩
theorem cells103 : Tryd.prog.cellsOf 103 = 6 := by kernel_rfl
set_option maxRecDepth 100000 in
theorem open103 (h : Rep Tryd.prog w I (k + 1) 103 cs d) : ∃ (A4 : Option Addr) (c4 : Nat) (A5 : Option Addr) (c5 : Nat), cs = [.string (d.f 0).s, .int .i64 ((d.f 1).f 0).n, .int .i64 ((d.f 1).f 1).n, .string ((d.f 1).f 2).s, .slice A4 ((d.f 1).f 3).l.length c4, .slice A5 ((d.f 1).f 4).l.length c5] ∧ (d.f 0).s.size ≤ maxLen ∧ (Lit.int .i64 ((d.f 1).f 0).n).wf = true ∧ (Lit.int .i64 ((d.f 1).f 1).n).wf = true ∧ ((d.f 1).f 2).s.size ≤ maxLen ∧ (((d.f 1).f 3).l.length ≤ c4 ∧ c4 ≤ maxLen ∧ (A4 = none → c4 = 0) ∧ Sl Tryd.prog w I k 49 A4 ((d.f 1).f 3).l) ∧ (((d.f 1).f 4).l.length ≤ c5 ∧ c5 ≤ maxLen ∧ (A5 = none → c5 = 0) ∧ Sl Tryd.prog w I k 9 A5 ((d.f 1).f 4).l) := by
  obtain ⟨hl, hf⟩ := h.struct Tryd.underlying103
  rw [cells103] at hl
  match cs, hl, hf with
  | [x0, x1, x2, x3, x4, x5], _, hf =>
    have g0 : Rep Tryd.prog w I k 9 (([x0, x1, x2, x3, x4, x5].drop 0).take (Tryd.prog.cellsOf 9)) (d.f 0) := hf 0 _ rfl
    simp only [cells9, List.drop_zero, List.drop_succ_cons, List.take_succ_cons, List.take_zero] at g0
    obtain ⟨e0, r0⟩ := g0.str Tryd.underlying9
    have g1 : Rep Tryd.prog w I k 49 (([x0, x1, x2, x3, x4, x5].drop 1).take (Tryd.prog.cellsOf 49)) (d.f 1) := hf 1 _ rfl
    simp only [cells49, List.drop_zero, List.drop_succ_cons, List.take_succ_cons, List.take_zero] at g1
    obtain ⟨a1_3, b1_3, a1_4, b1_4, e1, r1_0, r1_1, r1_2, r1_3, r1_4⟩ := open49_any g1
    simp only [List.cons.injEq, and_true] at e0 e1
    obtain ⟨e1_0, e1_1, e1_2, e1_3, e1_4⟩ := e1
    rw [e0, e1_0, e1_1, e1_2, e1_3, e1_4]
    exact ⟨a1_3, b1_3, a1_4, b1_4, rfl, r0, r1_0, r1_1, r1_2, r1_3, r1_4⟩
set_option maxRecDepth 100000 in
theorem open103_any (h : Rep Tryd.prog w I k 103 cs d) : ∃ (A4 : Option Addr) (c4 : Nat) (A5 : Option Addr) (c5 : Nat), cs = [.string (d.f 0).s, .int .i64 ((d.f 1).f 0).n, .int .i64 ((d.f 1).f 1).n, .string ((d.f 1).f 2).s, .slice A4 ((d.f 1).f 3).l.length c4, .slice A5 ((d.f 1).f 4).l.length c5] ∧ (d.f 0).s.size ≤ maxLen ∧ (Lit.int .i64 ((d.f 1).f 0).n).wf = true ∧ (Lit.int .i64 ((d.f 1).f 1).n).wf = true ∧ ((d.f 1).f 2).s.size ≤ maxLen ∧ (((d.f 1).f 3).l.length ≤ c4 ∧ c4 ≤ maxLen ∧ (A4 = none → c4 = 0) ∧ Sl Tryd.prog w I k 49 A4 ((d.f 1).f 3).l) ∧ (((d.f 1).f 4).l.length ≤ c5 ∧ c5 ≤ maxLen ∧ (A5 = none → c5 = 0) ∧ Sl Tryd.prog w I k 9 A5 ((d.f 1).f 4).l) := by
  cases k with
  | zero => exact h.elim
  | succ k =>
    obtain ⟨A4, c4, A5, c5, rfl, r0, r1, r2, r3, ⟨s4a, s4b, s4c, s4⟩, ⟨s5a, s5b, s5c, s5⟩⟩ := open103 h
    exact ⟨A4, c4, A5, c5, rfl, r0, r1, r2, r3, ⟨s4a, s4b, s4c, s4.up⟩, ⟨s5a, s5b, s5c, s5.up⟩⟩
theorem cells101 : Tryd.prog.cellsOf 101 = 2 := by kernel_rfl
theorem cells99 : Tryd.prog.cellsOf 99 = 1 := by kernel_rfl
set_option maxRecDepth 100000 in
theorem open101 (h : Rep Tryd.prog w I (k + 1) 101 cs d) : ∃ (A1 : Option Addr) (c1 : Nat), cs = [.string (d.f 0).s, .slice A1 (d.f 1).l.length c1] ∧ (d.f 0).s.size ≤ maxLen ∧ ((d.f 1).l.length ≤ c1 ∧ c1 ≤ maxLen ∧ (A1 = none → c1 = 0) ∧ Sl Tryd.prog w I k 103 A1 (d.f 1).l) := by
  obtain ⟨hl, hf⟩ := h.struct Tryd.underlying101
  rw [cells101] at hl
  match cs, hl, hf with
  | [x0, x1], _, hf =>
    have g0 : Rep Tryd.prog w I k 9 (([x0, x1].drop 0).take (Tryd.prog.cellsOf 9)) (d.f 0) := hf 0 _ rfl
    simp only [cells9, List.drop_zero, List.drop_succ_cons, List.take_succ_cons, List.take_zero] at g0
    obtain ⟨e0, r0⟩ := g0.str Tryd.underlying9
    have g1 : Rep Tryd.prog w I k 99 (([x0, x1].drop 1).take (Tryd.prog.cellsOf 99)) (d.f 1) := hf 1 _ rfl
    simp only [cells99, List.drop_zero, List.drop_succ_cons, List.take_succ_cons, List.take_zero] at g1
    obtain ⟨a1, b1, e1, r1⟩ := g1.sliceAny Tryd.underlying99
    simp only [List.cons.injEq, and_true] at e0 e1
    rw [e0, e1]
    exact ⟨a1, b1, rfl, r0, r1⟩
set_option maxRecDepth 100000 in
theorem open101_any (h : Rep Tryd.prog w I k 101 cs d) : ∃ (A1 : Option Addr) (c1 : Nat), cs = [.string (d.f 0).s, .slice A1 (d.f 1).l.length c1] ∧ (d.f 0).s.size ≤ maxLen ∧ ((d.f 1).l.length ≤ c1 ∧ c1 ≤ maxLen ∧ (A1 = none → c1 = 0) ∧ Sl Tryd.prog w I k 103 A1 (d.f 1).l) := by
  cases k with
  | zero => exact h.elim
  | succ k =>
    obtain ⟨A1, c1, rfl, r0, ⟨s1a, s1b, s1c, s1⟩⟩ := open101 h
    exact ⟨A1, c1, rfl, r0, ⟨s1a, s1b, s1c, s1.up⟩⟩
theorem cells132 : Tryd.prog.cellsOf 132 = 10 := by kernel_rfl
theorem cells53 : Tryd.prog.cellsOf 53 = 1 := by kernel_rfl
set_option maxRecDepth 100000 in
theorem open132 (h : Rep Tryd.prog w I (k + 1) 132 cs d) : ∃ (A2 : Option Addr) (c2 : Nat) (A7 : Option Addr) (c7 : Nat) (A8 : Option Addr) (c8 : Nat) (A9 : Option Addr) (c9 : Nat), cs = [.string (d.f 0).s, .string ((d.f 1).f 0).s, .slice A2 ((d.f 1).f 1).l.length c2, .bool (d.f 2).b, .int .i64 ((d.f 3).f 0).n, .int .i64 ((d.f 3).f 1).n, .string ((d.f 3).f 2).s, .slice A7 ((d.f 3).f 3).l.length c7, .slice A8 ((d.f 3).f 4).l.length c8, .slice A9 (d.f 4).l.length c9] ∧ (d.f 0).s.size ≤ maxLen ∧ ((d.f 1).f 0).s.size ≤ maxLen ∧ (((d.f 1).f 1).l.length ≤ c2 ∧ c2 ≤ maxLen ∧ (A2 = none → c2 = 0) ∧ Sl Tryd.prog w I k 3 A2 ((d.f 1).f 1).l) ∧ (Lit.int .i64 ((d.f 3).f 0).n).wf = true ∧ (Lit.int .i64 ((d.f 3).f 1).n).wf = true ∧ ((d.f 3).f 2).s.size ≤ maxLen ∧ (((d.f 3).f 3).l.length ≤ c7 ∧ c7 ≤ maxLen ∧ (A7 = none → c7 = 0) ∧ Sl Tryd.prog w I k 49 A7 ((d.f 3).f 3).l) ∧ (((d.f 3).f 4).l.length ≤ c8 ∧ c8 ≤ maxLen ∧ (A8 = none → c8 = 0) ∧ Sl Tryd.prog w I k 9 A8 ((d.f 3).f 4).l) ∧ ((d.f 4).l.length ≤ c9 ∧ c9 ≤ maxLen ∧ (A9 = none → c9 = 0) ∧ Sl Tryd.prog w I k 101 A9 (d.f 4).l) := by
  obtain ⟨hl, hf⟩ := h.struct Tryd.underlying132
  rw [cells132] at hl
  match cs, hl, hf with
  | [x0, x1, x2, x3, x4, x5, x6, x7, x8, x9], _, hf =>
    have g0 : Rep Tryd.prog w I k 9 (([x0, x1, x2, x3, x4, x5, x6, x7, x8, x9].drop 0).take (Tryd.prog.cellsOf 9)) (d.f 0) := hf 0 _ rfl
    simp only [cells9, List.drop_zero, List.drop_succ_cons, List.take_succ_cons, List.take_zero] at g0
    obtain ⟨e0, r0⟩ := g0.str Tryd.underlying9
    have g1 : Rep Tryd.prog w I k 62 (([x0, x1, x2, x3, x4, x5, x6, x7, x8, x9].drop 1).take (Tryd.prog.cellsOf 62)) (d.f 1) := hf 1 _ rfl
    simp only [cells62, List.drop_zero, List.drop_succ_cons, List.take_succ_cons, List.take_zero] at g1
    obtain ⟨a1_1, b1_1, e1, r1_0, r1_1⟩ := open62_any g1
    have g2 : Rep Tryd.prog w I k 4 (([x0, x1, x2, x3, x4, x5, x6, x7, x8, x9].drop 3).take (Tryd.prog.cellsOf 4)) (d.f 2) := hf 2 _ rfl
    simp only [cells4, List.drop_zero, List.drop_succ_cons, List.take_succ_cons, List.take_zero] at g2
    have e2 := g2.bool Tryd.underlying4
    have g3 : Rep Tryd.prog w I k 49 (([x0, x1, x2, x3, x4, x5, x6, x7, x8, x9].drop 4).take (Tryd.prog.cellsOf 49)) (d.f 3) := hf 3 _ rfl
    simp only [cells49, List.drop_zero, List.drop_succ_cons, List.take_succ_cons, List.take_zero] at g3
    obtain ⟨a3_3, b3_3, a3_4, b3_4, e3, r3_0, r3_1, r3_2, r3_3, r3_4⟩ := open49_any g3
    have g4 : Rep Tryd.prog w I k 53 (([x0, x1, x2, x3, x4, x5, x6, x7, x8, x9].drop 9).take (Tryd.prog.cellsOf 53)) (d.f 4) := hf 4 _ rfl
    simp only [cells53, List.drop_zero, List.drop_succ_cons, List.take_succ_cons, List.take_zero] at g4
    obtain ⟨a4, b4, e4, r4⟩ := g4.sliceAny Tryd.underlying53
    simp only [List.cons.injEq, and_true] at e0 e1 e2 e3 e4
    obtain ⟨e1_0, e1_1⟩ := e1
    obtain ⟨e3_0, e3_1, e3_2, e3_3, e3_4⟩ := e3
    rw [e0, e1_0, e1_1, e2, e3_0, e3_1, e3_2, e3_3, e3_4, e4]
    exact ⟨a1_1, b1_1, a3_3, b3_3, a3_4, b3_4, a4, b4, rfl, r0, r1_0, r1_1, r3_0, r3_1, r3_2, r3_3, r3_4, r4⟩
set_option maxRecDepth 100000 in
theorem open132_any (h : Rep Tryd.prog w I k 132 cs d) : ∃ (A2 : Option Addr) (c2 : Nat) (A7 : Option Addr) (c7 : Nat) (A8 : Option Addr) (c8 : Nat) (A9 : Option Addr) (c9 : Nat), cs = [.string (d.f 0).s, .string ((d.f 1).f 0).s, .slice A2 ((d.f 1).f 1).l.length c2, .bool (d.f 2).b, .int .i64 ((d.f 3).f 0).n, .int .i64 ((d.f 3).f 1).n, .string ((d.f 3).f 2).s, .slice A7 ((d.f 3).f 3).l.length c7, .slice A8 ((d.f 3).f 4).l.length c8, .slice A9 (d.f 4).l.length c9] ∧ (d.f 0).s.size ≤ maxLen ∧ ((d.f 1).f 0).s.size ≤ maxLen ∧ (((d.f 1).f 1).l.length ≤ c2 ∧ c2 ≤ maxLen ∧ (A2 = none → c2 = 0) ∧ Sl Tryd.prog w I k 3 A2 ((d.f 1).f 1).l) ∧ (Lit.int .i64 ((d.f 3).f 0).n).wf = true ∧ (Lit.int .i64 ((d.f 3).f 1).n).wf = true ∧ ((d.f 3).f 2).s.size ≤ maxLen ∧ (((d.f 3).f 3).l.length ≤ c7 ∧ c7 ≤ maxLen ∧ (A7 = none → c7 = 0) ∧ Sl Tryd.prog w I k 49 A7 ((d.f 3).f 3).l) ∧ (((d.f 3).f 4).l.length ≤ c8 ∧ c8 ≤ maxLen ∧ (A8 = none → c8 = 0) ∧ Sl Tryd.prog w I k 9 A8 ((d.f 3).f 4).l) ∧ ((d.f 4).l.length ≤ c9 ∧ c9 ≤ maxLen ∧ (A9 = none → c9 = 0) ∧ Sl Tryd.prog w I k 101 A9 (d.f 4).l) := by
  cases k with
  | zero => exact h.elim
  | succ k =>
    obtain ⟨A2, c2, A7, c7, A8, c8, A9, c9, rfl, r0, r1, ⟨s2a, s2b, s2c, s2⟩, r3, r4, r5, ⟨s6a, s6b, s6c, s6⟩, ⟨s7a, s7b, s7c, s7⟩, ⟨s8a, s8b, s8c, s8⟩⟩ := open132 h
    exact ⟨A2, c2, A7, c7, A8, c8, A9, c9, rfl, r0, r1, ⟨s2a, s2b, s2c, s2.up⟩, r3, r4, r5, ⟨s6a, s6b, s6c, s6.up⟩, ⟨s7a, s7b, s7c, s7.up⟩, ⟨s8a, s8b, s8c, s8.up⟩⟩
theorem cells64 : Tryd.prog.cellsOf 64 = 5 := by kernel_rfl
theorem cells56 : Tryd.prog.cellsOf 56 = 1 := by kernel_rfl
set_option maxRecDepth 100000 in
theorem open64 (h : Rep Tryd.prog w I (k + 1) 64 cs d) : ∃ (A1 : Option Addr) (c1 : Nat) (A3 : Option Addr) (c3 : Nat) (A4 : Option Addr) (c4 : Nat), cs = [.string (d.f 0).s, .slice A1 (d.f 1).l.length c1, .string ((d.f 2).f 0).s, .slice A3 ((d.f 2).f 1).l.length c3, .slice A4 (d.f 3).l.length c4] ∧ (d.f 0).s.size ≤ maxLen ∧ ((d.f 1).l.length ≤ c1 ∧ c1 ≤ maxLen ∧ (A1 = none → c1 = 0) ∧ Sl Tryd.prog w I k 132 A1 (d.f 1).l) ∧ ((d.f 2).f 0).s.size ≤ maxLen ∧ (((d.f 2).f 1).l.length ≤ c3 ∧ c3 ≤ maxLen ∧ (A3 = none → c3 = 0) ∧ Sl Tryd.prog w I k 3 A3 ((d.f 2).f 1).l) ∧ ((d.f 3).l.length ≤ c4 ∧ c4 ≤ maxLen ∧ (A4 = none → c4 = 0) ∧ Sl Tryd.prog w I k 101 A4 (d.f 3).l) := by
  obtain ⟨hl, hf⟩ := h.struct Tryd.underlying64
  rw [cells64] at hl
  match cs, hl, hf with
  | [x0, x1, x2, x3, x4], _, hf =>
    have g0 : Rep Tryd.prog w I k 9 (([x0, x1, x2, x3, x4].drop 0).take (Tryd.prog.cellsOf 9)) (d.f 0) := hf 0 _ rfl
    simp only [cells9, List.drop_zero, List.drop_succ_cons, List.take_succ_cons, List.take_zero] at g0
    obtain ⟨e0, r0⟩ := g0.str Tryd.underlying9
    have g1 : Rep Tryd.prog w I k 56 (([x0, x1, x2, x3, x4].drop 1).take (Tryd.prog.cellsOf 56)) (d.f 1) := hf 1 _ rfl
    simp only [cells56, List.drop_zero, List.drop_succ_cons, List.take_succ_cons, List.take_zero] at g1
    obtain ⟨a1, b1, e1, r1⟩ := g1.sliceAny Tryd.underlying56
    have g2 : Rep Tryd.prog w I k 62 (([x0, x1, x2, x3, x4].drop 2).take (Tryd.prog.cellsOf 62)) (d.f 2) := hf 2 _ rfl
    simp only [cells62, List.drop_zero, List.drop_succ_cons, List.take_succ_cons, List.take_zero] at g2
    obtain ⟨a2_1, b2_1, e2, r2_0, r2_1⟩ := open62_any g2
    have g3 : Rep Tryd.prog w I k 53 (([x0, x1, x2, x3, x4].drop 4).take (Tryd.prog.cellsOf 53)) (d.f 3) := hf 3 _ rfl
    simp only [cells53, List.drop_zero, List.drop_succ_cons, List.take_succ_cons, List.take_zero] at g3
    obtain ⟨a3, b3, e3, r3⟩ := g3.sliceAny Tryd.underlying53
    simp only [List.cons.injEq, and_true] at e0 e1 e2 e3
    obtain ⟨e2_0, e2_1⟩ := e2
    rw [e0, e1, e2_0, e2_1, e3]
    exact ⟨a1, b1, a2_1, b2_1, a3, b3, rfl, r0, r1, r2_0, r2_1, r3⟩
set_option maxRecDepth 100000 in
theorem open64_any (h : Rep Tryd.prog w I k 64 cs d) : ∃ (A1 : Option Addr) (c1 : Nat) (A3 : Option Addr) (c3 : Nat) (A4 : Option Addr) (c4 : Nat), cs = [.string (d.f 0).s, .slice A1 (d.f 1).l.length c1, .string ((d.f 2).f 0).s, .slice A3 ((d.f 2).f 1).l.length c3, .slice A4 (d.f 3).l.length c4] ∧ (d.f 0).s.size ≤ maxLen ∧ ((d.f 1).l.length ≤ c1 ∧ c1 ≤ maxLen ∧ (A1 = none → c1 = 0) ∧ Sl Tryd.prog w I k 132 A1 (d.f 1).l) ∧ ((d.f 2).f 0).s.size ≤ maxLen ∧ (((d.f 2).f 1).l.length ≤ c3 ∧ c3 ≤ maxLen ∧ (A3 = none → c3 = 0) ∧ Sl Tryd.prog w I k 3 A3 ((d.f 2).f 1).l) ∧ ((d.f 3).l.length ≤ c4 ∧ c4 ≤ maxLen ∧ (A4 = none → c4 = 0) ∧ Sl Tryd.prog w I k 101 A4 (d.f 3).l) := by
  cases k with
  | zero => exact h.elim
  | succ k =>
    obtain ⟨A1, c1, A3, c3, A4, c4, rfl, r0, ⟨s1a, s1b, s1c, s1⟩, r2, ⟨s3a, s3b, s3c, s3⟩, ⟨s4a, s4b, s4c, s4⟩⟩ := open64 h
    exact ⟨A1, c1, A3, c3, A4, c4, rfl, r0, ⟨s1a, s1b, s1c, s1.up⟩, r2, ⟨s3a, s3b, s3c, s3.up⟩, ⟨s4a, s4b, s4c, s4.up⟩⟩
theorem cells112 : Tryd.prog.cellsOf 112 = 2 := by kernel_rfl
set_option maxRecDepth 100000 in
theorem open112 (h : Rep Tryd.prog w I (k + 1) 112 cs d) : ∃ (A1 : Option Addr) (c1 : Nat), cs = [.string (d.f 0).s, .slice A1 (d.f 1).l.length c1] ∧ (d.f 0).s.size ≤ maxLen ∧ ((d.f 1).l.length ≤ c1 ∧ c1 ≤ maxLen ∧ (A1 = none → c1 = 0) ∧ Sl Tryd.prog w I k 101 A1 (d.f 1).l) := by
  obtain ⟨hl, hf⟩ := h.struct Tryd.underlying112
  rw [cells112] at hl
  match cs, hl, hf with
  | [x0, x1], _, hf =>
    have g0 : Rep Tryd.prog w I k 9 (([x0, x1].drop 0).take (Tryd.prog.cellsOf 9)) (d.f 0) := hf 0 _ rfl
    simp only [cells9, List.drop_zero, List.drop_succ_cons, List.take_succ_cons, List.take_zero] at g0
    obtain ⟨e0, r0⟩ := g0.str Tryd.underlying9
    have g1 : Rep Tryd.prog w I k 53 (([x0, x1].drop 1).take (Tryd.prog.cellsOf 53)) (d.f 1) := hf 1 _ rfl
    simp only [cells53, List.drop_zero, List.drop_succ_cons, List.take_succ_cons, List.take_zero] at g1
    obtain ⟨a1, b1, e1, r1⟩ := g1.sliceAny Tryd.underlying53
    simp only [List.cons.injEq, and_true] at e0 e1
    rw [e0, e1]
    exact ⟨a1, b1, rfl, r0, r1⟩
set_option maxRecDepth 100000 in
theorem open112_any (h : Rep Tryd.prog w I k 112 cs d) : ∃ (A1 : Option Addr) (c1 : Nat), cs = [.string (d.f 0).s, .slice A1 (d.f 1).l.length c1] ∧ (d.f 0).s.size ≤ maxLen ∧ ((d.f 1).l.length ≤ c1 ∧ c1 ≤ maxLen ∧ (A1 = none → c1 = 0) ∧ Sl Tryd.prog w I k 101 A1 (d.f 1).l) := by
  cases k with
  | zero => exact h.elim
  | succ k =>
    obtain ⟨A1, c1, rfl, r0, ⟨s1a, s1b, s1c, s1⟩⟩ := open112 h
    exact ⟨A1, c1, rfl, r0, ⟨s1a, s1b, s1c, s1.up⟩⟩
theorem cells54 : Tryd.prog.cellsOf 54 = 1 := by kernel_rfl
theorem cells55 : Tryd.prog.cellsOf 55 = 1 := by kernel_rfl
set_option maxRecDepth 100000 in
theorem open58 (h : Rep Tryd.prog w I (k + 1) 58 cs d) : ∃ (A2 : Option Addr) (c2 : Nat) (A3 : Option Addr) (c3 : Nat) (A4 : Option Addr) (c4 : Nat) (A5 : Option Addr) (c5 : Nat) (A6 : Option Addr) (c6 : Nat), cs = [.int .i64 (d.f 0).n, .string (d.f 1).s, .slice A2 (d.f 2).l.length c2, .slice A3 (d.f 3).l.length c3, .slice A4 (d.f 4).l.length c4, .slice A5 (d.f 5).l.length c5, .slice A6 (d.f 6).l.length c6] ∧ (Lit.int .i64 (d.f 0).n).wf = true ∧ (d.f 1).s.size ≤ maxLen ∧ ((d.f 2).l.length ≤ c2 ∧ c2 ≤ maxLen ∧ (A2 = none → c2 = 0) ∧ Sl Tryd.prog w I k 9 A2 (d.f 2).l) ∧ ((d.f 3).l.length ≤ c3 ∧ c3 ≤ maxLen ∧ (A3 = none → c3 = 0) ∧ Sl Tryd.prog w I k 101 A3 (d.f 3).l) ∧ ((d.f 4).l.length ≤ c4 ∧ c4 ≤ maxLen ∧ (A4 = none → c4 = 0) ∧ Sl Tryd.prog w I k 64 A4 (d.f 4).l) ∧ ((d.f 5).l.length ≤ c5 ∧ c5 ≤ maxLen ∧ (A5 = none → c5 = 0) ∧ Sl Tryd.prog w I k 112 A5 (d.f 5).l) ∧ ((d.f 6).l.length ≤ c6 ∧ c6 ≤ maxLen ∧ (A6 = none → c6 = 0) ∧ Sl Tryd.prog w I k 132 A6 (d.f 6).l) := by
  obtain ⟨hl, hf⟩ := h.struct Tryd.underlying58
  rw [cells58] at hl
  match cs, hl, hf with
  | [x0, x1, x2, x3, x4, x5, x6], _, hf =>
    have g0 : Rep Tryd.prog w I k 3 (([x0, x1, x2, x3, x4, x5, x6].drop 0).take (Tryd.prog.cellsOf 3)) (d.f 0) := hf 0 _ rfl
    simp only [cells3, List.drop_zero, List.drop_succ_cons, List.take_succ_cons, List.take_zero] at g0
    obtain ⟨e0, r0⟩ := g0.int Tryd.underlying3
    have g1 : Rep Tryd.prog w I k 9 (([x0, x1, x2, x3, x4, x5, x6].drop 1).take (Tryd.prog.cellsOf 9)) (d.f 1) := hf 1 _ rfl
    simp only [cells9, List.drop_zero, List.drop_succ_cons, List.take_succ_cons, List.take_zero] at g1
    obtain ⟨e1, r1⟩ := g1.str Tryd.underlying9
    have g2 : Rep Tryd.prog w I k 47 (([x0, x1, x2, x3, x4, x5, x6].drop 2).take (Tryd.prog.cellsOf 47)) (d.f 2) := hf 2 _ rfl
    simp only [cells47, List.drop_zero, List.drop_succ_cons, List.take_succ_cons, List.take_zero] at g2
    obtain ⟨a2, b2, e2, r2⟩ := g2.sliceAny Tryd.underlying47
    have g3 : Rep Tryd.prog w I k 53 (([x0, x1, x2, x3, x4, x5, x6].drop 3).take (Tryd.prog.cellsOf 53)) (d.f 3) := hf 3 _ rfl
    simp only [cells53, List.drop_zero, List.drop_succ_cons, List.take_succ_cons, List.take_zero] at g3
    obtain ⟨a3, b3, e3, r3⟩ := g3.sliceAny Tryd.underlying53
    have g4 : Rep Tryd.prog w I k 54 (([x0, x1, x2, x3, x4, x5, x6].drop 4).take (Tryd.prog.cellsOf 54)) (d.f 4) := hf 4 _ rfl
    simp only [cells54, List.drop_zero, List.drop_succ_cons, List.take_succ_cons, List.take_zero] at g4
    obtain ⟨a4, b4, e4, r4⟩ := g4.sliceAny Tryd.underlying54
    have g5 : Rep Tryd.prog w I k 55 (([x0, x1, x2, x3, x4, x5, x6].drop 5).take (Tryd.prog.cellsOf 55)) (d.f 5) := hf 5 _ rfl
    simp only [cells55, List.drop_zero, List.drop_succ_cons, List.take_succ_cons, List.take_zero] at g5
    obtain ⟨a5, b5, e5, r5⟩ := g5.sliceAny Tryd.underlying55
    have g6 : Rep Tryd.prog w I k 56 (([x0, x1, x2, x3, x4, x5, x6].drop 6).take (Tryd.prog.cellsOf 56)) (d.f 6) := hf 6 _ rfl
    simp only [cells56, List.drop_zero, List.drop_succ_cons, List.take_succ_cons, List.take_zero] at g6
    obtain ⟨a6, b6, e6, r6⟩ := g6.sliceAny Tryd.underlying56
    simp only [List.cons.injEq, and_true] at e0 e1 e2 e3 e4 e5 e6
    rw [e0, e1, e2, e3, e4, e5, e6]
    exact ⟨a2, b2, a3, b3, a4, b4, a5, b5, a6, b6, rfl, r0, r1, r2, r3, r4, r5, r6⟩
set_option maxRecDepth 100000 in
theorem open58_any (h : Rep Tryd.prog w I k 58 cs d) : ∃ (A2 : Option Addr) (c2 : Nat) (A3 : Option Addr) (c3 : Nat) (A4 : Option Addr) (c4 : Nat) (A5 : Option Addr) (c5 : Nat) (A6 : Option Addr) (c6 : Nat), cs = [.int .i64 (d.f 0).n, .string (d.f 1).s, .slice A2 (d.f 2).l.length c2, .slice A3 (d.f 3).l.length c3, .slice A4 (d.f 4).l.length c4, .slice A5 (d.f 5).l.length c5, .slice A6 (d.f 6).l.length c6] ∧ (Lit.int .i64 (d.f 0).n).wf = true ∧ (d.f 1).s.size ≤ maxLen ∧ ((d.f 2).l.length ≤ c2 ∧ c2 ≤ maxLen ∧ (A2 = none → c2 = 0) ∧ Sl Tryd.prog w I k 9 A2 (d.f 2).l) ∧ ((d.f 3).l.length ≤ c3 ∧ c3 ≤ maxLen ∧ (A3 = none → c3 = 0) ∧ Sl Tryd.prog w I k 101 A3 (d.f 3).l) ∧ ((d.f 4).l.length ≤ c4 ∧ c4 ≤ maxLen ∧ (A4 = none → c4 = 0) ∧ Sl Tryd.prog w I k 64 A4 (d.f 4).l) ∧ ((d.f 5).l.length ≤ c5 ∧ c5 ≤ maxLen ∧ (A5 = none → c5 = 0) ∧ Sl Tryd.prog w I k 112 A5 (d.f 5).l) ∧ ((d.f 6).l.length ≤ c6 ∧ c6 ≤ maxLen ∧ (A6 = none → c6 = 0) ∧ Sl Tryd.prog w I k 132 A6 (d.f 6).l) := by
  cases k with
  | zero => exact h.elim
  | succ k =>
    obtain ⟨A2, c2, A3, c3, A4, c4, A5, c5, A6, c6, rfl, r0, r1, ⟨s2a, s2b, s2c, s2⟩, ⟨s3a, s3b, s3c, s3⟩, ⟨s4a, s4b, s4c, s4⟩, ⟨s5a, s5b, s5c, s5⟩, ⟨s6a, s6b, s6c, s6⟩⟩ := open58 h
    exact ⟨A2, c2, A3, c3, A4, c4, A5, c5, A6, c6, rfl, r0, r1, ⟨s2a, s2b, s2c, s2.up⟩, ⟨s3a, s3b, s3c, s3.up⟩, ⟨s4a, s4b, s4c, s4.up⟩, ⟨s5a, s5b, s5c, s5.up⟩, ⟨s6a, s6b, s6c, s6.up⟩⟩
end Go.Proofs.YtohneabalakmeaaDoor
