/- What the cells of each type are. By a program of this repo (types.py). -/
import Derived.Test.YtkldeelhlbhlmaaGen
import Derived.Test.YtkldeelhlbhlmaaRows
namespace Go.Proofs.Ytkldeelhlbhlmaa
open Go.RowKit
variable {w : World} {I : Nat → Prop} {k : Nat} {cs : List Value} {d : D}
theorem cells25 : Try.prog.cellsOf 25 = 3 := by kernel_rfl
theorem cells3 : Try.prog.cellsOf 3 = 1 := by kernel_rfl
theorem cells22 : Try.prog.cellsOf 22 = 1 := by kernel_rfl
theorem cells23 : Try.prog.cellsOf 23 = 1 := by kernel_rfl
theorem cells81 : Try.prog.cellsOf 81 = 9 := by kernel_rfl
theorem cells45 : Try.prog.cellsOf 45 = 8 := by kernel_rfl
theorem open25 (h : Rep Try.prog w I (k + 1) 25 cs d) : ∃ (A1 : Option Addr) (c1 : Nat) (A2 : Option Addr) (c2 : Nat), cs = [.int .i64 (d.f 0).n, .slice A1 (d.f 1).l.length c1, .slice A2 (d.f 2).l.length c2] ∧ (Lit.int .i64 (d.f 0).n).wf = true ∧ ((d.f 1).l.length ≤ c1 ∧ c1 ≤ maxLen ∧ (A1 = none → c1 = 0) ∧ Sl Try.prog w I k 81 A1 (d.f 1).l) ∧ ((d.f 2).l.length ≤ c2 ∧ c2 ≤ maxLen ∧ (A2 = none → c2 = 0) ∧ Sl Try.prog w I k 45 A2 (d.f 2).l) := by
  obtain ⟨hl, hf⟩ := h.struct Try.underlying25
  rw [cells25] at hl
  match cs, hl, hf with
  | [x0, x1, x2], _, hf =>
    have g0 : Rep Try.prog w I k 3 (([x0, x1, x2].drop 0).take (Try.prog.cellsOf 3)) (d.f 0) := hf 0 _ rfl
    simp only [cells3, List.drop_zero, List.drop_succ_cons, List.take_succ_cons, List.take_zero] at g0
    obtain ⟨e0, r0⟩ := g0.int Try.underlying3
    have g1 : Rep Try.prog w I k 22 (([x0, x1, x2].drop 1).take (Try.prog.cellsOf 22)) (d.f 1) := hf 1 _ rfl
    simp only [cells22, List.drop_zero, List.drop_succ_cons, List.take_succ_cons, List.take_zero] at g1
    obtain ⟨a1, b1, e1, r1⟩ := g1.sliceAny Try.underlying22
    have g2 : Rep Try.prog w I k 23 (([x0, x1, x2].drop 2).take (Try.prog.cellsOf 23)) (d.f 2) := hf 2 _ rfl
    simp only [cells23, List.drop_zero, List.drop_succ_cons, List.take_succ_cons, List.take_zero] at g2
    obtain ⟨a2, b2, e2, r2⟩ := g2.sliceAny Try.underlying23
    simp only [List.cons.injEq, and_true] at e0 e1 e2
    rw [e0, e1, e2]
    exact ⟨a1, b1, a2, b2, rfl, r0, r1, r2⟩
theorem open25_any (h : Rep Try.prog w I k 25 cs d) : ∃ (A1 : Option Addr) (c1 : Nat) (A2 : Option Addr) (c2 : Nat), cs = [.int .i64 (d.f 0).n, .slice A1 (d.f 1).l.length c1, .slice A2 (d.f 2).l.length c2] ∧ (Lit.int .i64 (d.f 0).n).wf = true ∧ ((d.f 1).l.length ≤ c1 ∧ c1 ≤ maxLen ∧ (A1 = none → c1 = 0) ∧ Sl Try.prog w I k 81 A1 (d.f 1).l) ∧ ((d.f 2).l.length ≤ c2 ∧ c2 ≤ maxLen ∧ (A2 = none → c2 = 0) ∧ Sl Try.prog w I k 45 A2 (d.f 2).l) := by
  cases k with
  | zero => exact h.elim
  | succ k =>
    obtain ⟨A1, c1, A2, c2, rfl, r0, ⟨s1a, s1b, s1c, s1⟩, ⟨s2a, s2b, s2c, s2⟩⟩ := open25 h
    exact ⟨A1, c1, A2, c2, rfl, r0, ⟨s1a, s1b, s1c, s1.up⟩, ⟨s2a, s2b, s2c, s2.up⟩⟩
theorem cells42 : Try.prog.cellsOf 42 = 1 := by kernel_rfl
theorem cells9 : Try.prog.cellsOf 9 = 1 := by kernel_rfl
theorem cells43 : Try.prog.cellsOf 43 = 1 := by kernel_rfl
theorem cells31 : Try.prog.cellsOf 31 = 1 := by kernel_rfl
theorem cells83 : Try.prog.cellsOf 83 = 2 := by kernel_rfl
theorem open45 (h : Rep Try.prog w I (k + 1) 45 cs d) : ∃ (A2 : Option Addr) (c2 : Nat) (A4 : Option Addr) (c4 : Nat) (A6 : Option Addr) (c6 : Nat) (A7 : Option Addr) (c7 : Nat), cs = [.int .i64 (d.f 0).n, .int .i64 (d.f 1).n, .slice A2 (d.f 2).l.length c2, .string (d.f 3).s, .slice A4 (d.f 4).l.length c4, .int .i64 (d.f 5).n, .slice A6 (d.f 6).l.length c6, .slice A7 (d.f 7).l.length c7] ∧ (Lit.int .i64 (d.f 0).n).wf = true ∧ (Lit.int .i64 (d.f 1).n).wf = true ∧ ((d.f 2).l.length ≤ c2 ∧ c2 ≤ maxLen ∧ (A2 = none → c2 = 0) ∧ Sl Try.prog w I k 83 A2 (d.f 2).l) ∧ (d.f 3).s.size ≤ maxLen ∧ ((d.f 4).l.length ≤ c4 ∧ c4 ≤ maxLen ∧ (A4 = none → c4 = 0) ∧ Sl Try.prog w I k 9 A4 (d.f 4).l) ∧ (Lit.int .i64 (d.f 5).n).wf = true ∧ ((d.f 6).l.length ≤ c6 ∧ c6 ≤ maxLen ∧ (A6 = none → c6 = 0) ∧ Sl Try.prog w I k 81 A6 (d.f 6).l) ∧ ((d.f 7).l.length ≤ c7 ∧ c7 ≤ maxLen ∧ (A7 = none → c7 = 0) ∧ Sl Try.prog w I k 3 A7 (d.f 7).l) := by
  obtain ⟨hl, hf⟩ := h.struct Try.underlying45
  rw [cells45] at hl
  match cs, hl, hf with
  | [x0, x1, x2, x3, x4, x5, x6, x7], _, hf =>
    have g0 : Rep Try.prog w I k 3 (([x0, x1, x2, x3, x4, x5, x6, x7].drop 0).take (Try.prog.cellsOf 3)) (d.f 0) := hf 0 _ rfl
    simp only [cells3, List.drop_zero, List.drop_succ_cons, List.take_succ_cons, List.take_zero] at g0
    obtain ⟨e0, r0⟩ := g0.int Try.underlying3
    have g1 : Rep Try.prog w I k 3 (([x0, x1, x2, x3, x4, x5, x6, x7].drop 1).take (Try.prog.cellsOf 3)) (d.f 1) := hf 1 _ rfl
    simp only [cells3, List.drop_zero, List.drop_succ_cons, List.take_succ_cons, List.take_zero] at g1
    obtain ⟨e1, r1⟩ := g1.int Try.underlying3
    have g2 : Rep Try.prog w I k 42 (([x0, x1, x2, x3, x4, x5, x6, x7].drop 2).take (Try.prog.cellsOf 42)) (d.f 2) := hf 2 _ rfl
    simp only [cells42, List.drop_zero, List.drop_succ_cons, List.take_succ_cons, List.take_zero] at g2
    obtain ⟨a2, b2, e2, r2⟩ := g2.sliceAny Try.underlying42
    have g3 : Rep Try.prog w I k 9 (([x0, x1, x2, x3, x4, x5, x6, x7].drop 3).take (Try.prog.cellsOf 9)) (d.f 3) := hf 3 _ rfl
    simp only [cells9, List.drop_zero, List.drop_succ_cons, List.take_succ_cons, List.take_zero] at g3
    obtain ⟨e3, r3⟩ := g3.str Try.underlying9
    have g4 : Rep Try.prog w I k 43 (([x0, x1, x2, x3, x4, x5, x6, x7].drop 4).take (Try.prog.cellsOf 43)) (d.f 4) := hf 4 _ rfl
    simp only [cells43, List.drop_zero, List.drop_succ_cons, List.take_succ_cons, List.take_zero] at g4
    obtain ⟨a4, b4, e4, r4⟩ := g4.sliceAny Try.underlying43
    have g5 : Rep Try.prog w I k 3 (([x0, x1, x2, x3, x4, x5, x6, x7].drop 5).take (Try.prog.cellsOf 3)) (d.f 5) := hf 5 _ rfl
    simp only [cells3, List.drop_zero, List.drop_succ_cons, List.take_succ_cons, List.take_zero] at g5
    obtain ⟨e5, r5⟩ := g5.int Try.underlying3
    have g6 : Rep Try.prog w I k 22 (([x0, x1, x2, x3, x4, x5, x6, x7].drop 6).take (Try.prog.cellsOf 22)) (d.f 6) := hf 6 _ rfl
    simp only [cells22, List.drop_zero, List.drop_succ_cons, List.take_succ_cons, List.take_zero] at g6
    obtain ⟨a6, b6, e6, r6⟩ := g6.sliceAny Try.underlying22
    have g7 : Rep Try.prog w I k 31 (([x0, x1, x2, x3, x4, x5, x6, x7].drop 7).take (Try.prog.cellsOf 31)) (d.f 7) := hf 7 _ rfl
    simp only [cells31, List.drop_zero, List.drop_succ_cons, List.take_succ_cons, List.take_zero] at g7
    obtain ⟨a7, b7, e7, r7⟩ := g7.sliceAny Try.underlying31
    simp only [List.cons.injEq, and_true] at e0 e1 e2 e3 e4 e5 e6 e7
    rw [e0, e1, e2, e3, e4, e5, e6, e7]
    exact ⟨a2, b2, a4, b4, a6, b6, a7, b7, rfl, r0, r1, r2, r3, r4, r5, r6, r7⟩
theorem open45_any (h : Rep Try.prog w I k 45 cs d) : ∃ (A2 : Option Addr) (c2 : Nat) (A4 : Option Addr) (c4 : Nat) (A6 : Option Addr) (c6 : Nat) (A7 : Option Addr) (c7 : Nat), cs = [.int .i64 (d.f 0).n, .int .i64 (d.f 1).n, .slice A2 (d.f 2).l.length c2, .string (d.f 3).s, .slice A4 (d.f 4).l.length c4, .int .i64 (d.f 5).n, .slice A6 (d.f 6).l.length c6, .slice A7 (d.f 7).l.length c7] ∧ (Lit.int .i64 (d.f 0).n).wf = true ∧ (Lit.int .i64 (d.f 1).n).wf = true ∧ ((d.f 2).l.length ≤ c2 ∧ c2 ≤ maxLen ∧ (A2 = none → c2 = 0) ∧ Sl Try.prog w I k 83 A2 (d.f 2).l) ∧ (d.f 3).s.size ≤ maxLen ∧ ((d.f 4).l.length ≤ c4 ∧ c4 ≤ maxLen ∧ (A4 = none → c4 = 0) ∧ Sl Try.prog w I k 9 A4 (d.f 4).l) ∧ (Lit.int .i64 (d.f 5).n).wf = true ∧ ((d.f 6).l.length ≤ c6 ∧ c6 ≤ maxLen ∧ (A6 = none → c6 = 0) ∧ Sl Try.prog w I k 81 A6 (d.f 6).l) ∧ ((d.f 7).l.length ≤ c7 ∧ c7 ≤ maxLen ∧ (A7 = none → c7 = 0) ∧ Sl Try.prog w I k 3 A7 (d.f 7).l) := by
  cases k with
  | zero => exact h.elim
  | succ k =>
    obtain ⟨A2, c2, A4, c4, A6, c6, A7, c7, rfl, r0, r1, ⟨s2a, s2b, s2c, s2⟩, r3, ⟨s4a, s4b, s4c, s4⟩, r5, ⟨s6a, s6b, s6c, s6⟩, ⟨s7a, s7b, s7c, s7⟩⟩ := open45 h
    exact ⟨A2, c2, A4, c4, A6, c6, A7, c7, rfl, r0, r1, ⟨s2a, s2b, s2c, s2.up⟩, r3, ⟨s4a, s4b, s4c, s4.up⟩, r5, ⟨s6a, s6b, s6c, s6.up⟩, ⟨s7a, s7b, s7c, s7.up⟩⟩
theorem cells60 : Try.prog.cellsOf 60 = 2 := by kernel_rfl
theorem open60 (h : Rep Try.prog w I (k + 1) 60 cs d) : cs = [.int .i64 (d.f 0).n, .int .i64 (d.f 1).n] ∧ (Lit.int .i64 (d.f 0).n).wf = true ∧ (Lit.int .i64 (d.f 1).n).wf = true := by
  obtain ⟨hl, hf⟩ := h.struct Try.underlying60
  rw [cells60] at hl
  match cs, hl, hf with
  | [x0, x1], _, hf =>
    have g0 : Rep Try.prog w I k 3 (([x0, x1].drop 0).take (Try.prog.cellsOf 3)) (d.f 0) := hf 0 _ rfl
    simp only [cells3, List.drop_zero, List.drop_succ_cons, List.take_succ_cons, List.take_zero] at g0
    obtain ⟨e0, r0⟩ := g0.int Try.underlying3
    have g1 : Rep Try.prog w I k 3 (([x0, x1].drop 1).take (Try.prog.cellsOf 3)) (d.f 1) := hf 1 _ rfl
    simp only [cells3, List.drop_zero, List.drop_succ_cons, List.take_succ_cons, List.take_zero] at g1
    obtain ⟨e1, r1⟩ := g1.int Try.underlying3
    simp only [List.cons.injEq, and_true] at e0 e1
    rw [e0, e1]
    exact ⟨rfl, r0, r1⟩
theorem open60_any (h : Rep Try.prog w I k 60 cs d) : cs = [.int .i64 (d.f 0).n, .int .i64 (d.f 1).n] ∧ (Lit.int .i64 (d.f 0).n).wf = true ∧ (Lit.int .i64 (d.f 1).n).wf = true := by
  cases k with
  | zero => exact h.elim
  | succ k =>
    obtain ⟨rfl, r0, r1⟩ := open60 h
    exact ⟨rfl, r0, r1⟩
theorem cells79 : Try.prog.cellsOf 79 = 2 := by kernel_rfl
theorem open79 (h : Rep Try.prog w I (k + 1) 79 cs d) : ∃ (A1 : Option Addr) (c1 : Nat), cs = [.string (d.f 0).s, .slice A1 (d.f 1).l.length c1] ∧ (d.f 0).s.size ≤ maxLen ∧ ((d.f 1).l.length ≤ c1 ∧ c1 ≤ maxLen ∧ (A1 = none → c1 = 0) ∧ Sl Try.prog w I k 3 A1 (d.f 1).l) := by
  obtain ⟨hl, hf⟩ := h.struct Try.underlying79
  rw [cells79] at hl
  match cs, hl, hf with
  | [x0, x1], _, hf =>
    have g0 : Rep Try.prog w I k 9 (([x0, x1].drop 0).take (Try.prog.cellsOf 9)) (d.f 0) := hf 0 _ rfl
    simp only [cells9, List.drop_zero, List.drop_succ_cons, List.take_succ_cons, List.take_zero] at g0
    obtain ⟨e0, r0⟩ := g0.str Try.underlying9
    have g1 : Rep Try.prog w I k 31 (([x0, x1].drop 1).take (Try.prog.cellsOf 31)) (d.f 1) := hf 1 _ rfl
    simp only [cells31, List.drop_zero, List.drop_succ_cons, List.take_succ_cons, List.take_zero] at g1
    obtain ⟨a1, b1, e1, r1⟩ := g1.sliceAny Try.underlying31
    simp only [List.cons.injEq, and_true] at e0 e1
    rw [e0, e1]
    exact ⟨a1, b1, rfl, r0, r1⟩
theorem open79_any (h : Rep Try.prog w I k 79 cs d) : ∃ (A1 : Option Addr) (c1 : Nat), cs = [.string (d.f 0).s, .slice A1 (d.f 1).l.length c1] ∧ (d.f 0).s.size ≤ maxLen ∧ ((d.f 1).l.length ≤ c1 ∧ c1 ≤ maxLen ∧ (A1 = none → c1 = 0) ∧ Sl Try.prog w I k 3 A1 (d.f 1).l) := by
  cases k with
  | zero => exact h.elim
  | succ k =>
    obtain ⟨A1, c1, rfl, r0, ⟨s1a, s1b, s1c, s1⟩⟩ := open79 h
    exact ⟨A1, c1, rfl, r0, ⟨s1a, s1b, s1c, s1.up⟩⟩
end Go.Proofs.Ytkldeelhlbhlmaa
