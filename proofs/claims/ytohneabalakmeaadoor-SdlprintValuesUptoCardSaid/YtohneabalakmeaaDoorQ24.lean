/- Parts of a proof, merged by a program (shake.py). -/
import Derived.Test.YtohneabalakmeaaDoorCards
import Derived.Test.YtohneabalakmeaaDoorTie
import Derived.ProofKit
import Derived.OpenShut
import Derived.Deep.DeepHandedRow
import Derived.Test.YtohneabalakmeaaDoorRows
import Derived.Test.YtohneabalakmeaaDoorQ23
namespace Go.Proofs.YtohneabalakmeaaDoor
open Go.ChangeShapes Go.WideShapes Go.ChangeAt Go.RowKit
attribute [local irreducible] wpList Calls Code.wp
theorem own : ownKnob Tryd.prog.godebug = none := by kernel_rfl
theorem laidOut' : laidOutB Tryd.prog = true := by kernel_rfl
theorem gPow : Tryd.prog.globalNamed "internal/strconv.uint64pow10" = some 3 := by kernel_rfl
theorem tab_of_row {P : Program} {W : World} {g : Nat} {n : String} {t e : TypeId} {m : Nat} {k : IntKind} {zs : List Int} (hg : P.globalNamed n = some g) (hty : (P.globals[g]?).map (·.type) = some t) (ht : P.underlying t = some (.array m e)) (he : P.underlying e = some (.int k)) (hce : P.cellsOf e = 1) (hct : P.cellsOf t = m)
    (h : ∃ g t cs fuel p, P.globalNamed n = some g ∧ (P.globals[g]?).map (·.type) = some t ∧ W.var? P n = some cs ∧ DataW.trod (fun _ => ()) P W 0 (fun _ => true) false fuel t cs.toList = some (Lib.tabData k zs, p)) : Lib.TabIs P W n k zs := by
  obtain ⟨g', t', cs, fuel, p, hg', ht', hvar, hd⟩ := h
  obtain rfl := Option.some.inj (hg.symm.trans hg')
  obtain rfl := Option.some.inj (hty.symm.trans ht')
  unfold Lib.TabIs
  rw [hvar, ← Lib.cells_of_tab ht he hce hct hd]
theorem gPowT : (Tryd.prog.globals[3]?).map (·.type) = some 179 := by kernel_rfl
theorem types_ok (ts : List TypeId) (h : (ts.all fun t => Tryd.prog.readableRec t && decide (t < Tryd.prog.types.size)) = true) : ∀ t ∈ ts, Tryd.prog.readableRec t = true ∧ t < Tryd.prog.types.size := by
  intro t ht
  have := List.all_eq_true.1 h t ht
  simpa using this
def tab32 : List Int := [0, 1, 28, 2, 29, 14, 24, 3, 30, 22, 20, 15, 25, 17, 4, 8, 31, 27, 13, 23, 21, 19, 16, 7, 26, 12, 18, 6, 11, 5, 10, 9]
def tab64 : List Int := [0, 1, 56, 2, 57, 49, 28, 3, 61, 58, 42, 50, 38, 29, 17, 4, 62, 47, 59, 36, 45, 43, 51, 22, 53, 39, 33, 30, 24, 18, 12, 5, 63, 55, 48, 27, 60, 41, 37, 16, 46, 35, 44, 21, 52, 32, 23, 11, 54, 26, 40, 15, 34, 20, 31, 10, 25, 14, 19, 9, 13, 8, 7, 6]
/-- cells laid into a block -/
def relay (cs : Array Value) : Obj → Obj
  | .cells _ t frozen => .cells cs t frozen
  | o => o
/-- a world for the witness: what the rows list, laid -/
noncomputable def laidWorld (os : Os) : World :=
  let w := World.holding Tryd.prog os ⟨#[], #[], []⟩
  let n := w.heap.size
  { w with heap := ((((((w.heap.modify 4 (relay (tab32.map fun z => Value.int .u8 z).toArray)).modify 5 (relay (tab64.map fun z => Value.int .u8 z).toArray)).modify 3 (relay (Lib.pow10Tab.map fun z => Value.int .u64 z).toArray)).modify 1
      (relay #[.iface 174 (.pointer (some ⟨n, 0, none⟩))])).modify 0 (relay #[.iface 174 (.pointer (some ⟨n + 1, 0, none⟩))])).push
      (.cells #[.string ⟨#[118, 97, 108, 117, 101, 32, 111, 117, 116, 32, 111, 102, 32, 114, 97, 110, 103, 101]⟩] 176)).push (.cells #[.string ⟨#[105, 110, 118, 97, 108, 105, 100, 32, 115, 121, 110, 116, 97, 120]⟩] 176) }
end Go.Proofs.YtohneabalakmeaaDoor
namespace Go.Proofs.YtohneabalakmeaaDoor
open Go.RowKit
attribute [local irreducible] wpList Calls Code.wp
/-- what the reference's text finds of a numeral: the digits d, the sign -/
structure Rn (l : List UInt8) (d : ByteArray) (ng : Bool) : Prop where
  empty : d.size = 0 → numU l = Lib.NumEnd.syntax
  zero : 0 < d.size → bV d 0 = 48 → (1 < d.size ∨ ng = true) → numU l = Lib.NumEnd.syntax
  bad : ∀ x, x < d.size → digB (bV d x) = false → numU l = Lib.NumEnd.syntax
  good : 0 < d.size → ¬ (bV d 0 = 48 ∧ (1 < d.size ∨ ng = true)) → (∀ k, k < d.size → digB (bV d k) = true) →
    numU l = if ng = true then (if decV 0 (tk d d.size) ≤ 9223372036854775808 then .ok (-(decV 0 (tk d d.size) : Int)) else .range) else if decV 0 (tk d d.size) < 9223372036854775808 then .ok (decV 0 (tk d d.size)) else .range
  mono : ∀ m, decV 0 (tk d m) ≤ decV 0 (tk d d.size)
theorem bs_self (s : ByteArray) : bs s.data.toList = s := by cases s; simp [bs]
end Go.Proofs.YtohneabalakmeaaDoor
namespace Go.Proofs.YtohneabalakmeaaDoor
open Go.RowKit
attribute [local irreducible] wpList Calls Code.wp
theorem itoa_size (n : Int) (h0 : -9223372036854775808 ≤ n) (h1 : n ≤ 9223372036854775807) : (bs (Lib.itoa n)).size ≤ 21 := by
  rw [bs_size]
  unfold Lib.itoa
  split
  · have := dec_len (u := n.natAbs) (by omega)
    simp only [List.length_cons]; omega
  · have := dec_len (u := n.toNat) (by omega)
    omega
end Go.Proofs.YtohneabalakmeaaDoor
namespace Go.Proofs.YtohneabalakmeaaDoor
open Go.RowKit
attribute [local irreducible] wpList Calls Code.wp
theorem heap_lt {w : World} {b : Nat} {o : Obj} (h : w.heap[b]? = some o) : b < w.heap.size := by
  rcases Nat.lt_or_ge b w.heap.size with h' | h'
  · exact h'
  · rw [Array.getElem?_eq_none h'] at h; cases h
theorem cell_heap {w : World} {b o : Nat} {cs : Array Value} {t : TypeId} {fz : Nat × Nat} {x : Value} (h : w.heap[b]? = some (.cells cs t fz)) (hx : cs[o]? = some x) : w.cell? ⟨b, o, none⟩ = some x := by
  rw [cell_of_row w b o cs t fz h]; exact hx
end Go.Proofs.YtohneabalakmeaaDoor
namespace Go.Proofs.YtohneabalakmeaaDoor
open Go.RowKit
variable {w : World} {I : Nat → Prop} {k : Nat} {cs : List Value} {d : D}
theorem cells3 : Tryd.prog.cellsOf 3 = 1 := by kernel_rfl
theorem cells49 : Tryd.prog.cellsOf 49 = 5 := by kernel_rfl
theorem cells9 : Tryd.prog.cellsOf 9 = 1 := by kernel_rfl
theorem cells46 : Tryd.prog.cellsOf 46 = 1 := by kernel_rfl
theorem cells47 : Tryd.prog.cellsOf 47 = 1 := by kernel_rfl
set_option maxRecDepth 100000 in
theorem open49 (h : Rep Tryd.prog w I (k + 1) 49 cs d) : ∃ (A3 : Option Addr) (c3 : Nat) (A4 : Option Addr) (c4 : Nat), cs = [.int .i64 (d.f 0).n, .int .i64 (d.f 1).n, .string (d.f 2).s, .slice A3 (d.f 3).l.length c3, .slice A4 (d.f 4).l.length c4] ∧ (Lit.int .i64 (d.f 0).n).wf = true ∧ (Lit.int .i64 (d.f 1).n).wf = true ∧ (d.f 2).s.size ≤ maxLen ∧ ((d.f 3).l.length ≤ c3 ∧ c3 ≤ maxLen ∧ (A3 = none → c3 = 0) ∧ Sl Tryd.prog w I k 49 A3 (d.f 3).l) ∧ ((d.f 4).l.length ≤ c4 ∧ c4 ≤ maxLen ∧ (A4 = none → c4 = 0) ∧ Sl Tryd.prog w I k 9 A4 (d.f 4).l) := by
  obtain ⟨hl, hf⟩ := h.struct Tryd.underlying49
  rw [cells49] at hl
  match cs, hl, hf with
  | [x0, x1, x2, x3, x4], _, hf =>
    have g0 : Rep Tryd.prog w I k 3 (([x0, x1, x2, x3, x4].drop 0).take (Tryd.prog.cellsOf 3)) (d.f 0) := hf 0 _ rfl
    simp only [cells3, List.drop_zero, List.drop_succ_cons, List.take_succ_cons, List.take_zero] at g0
    obtain ⟨e0, r0⟩ := g0.int Tryd.underlying3
    have g1 : Rep Tryd.prog w I k 3 (([x0, x1, x2, x3, x4].drop 1).take (Tryd.prog.cellsOf 3)) (d.f 1) := hf 1 _ rfl
    simp only [cells3, List.drop_zero, List.drop_succ_cons, List.take_succ_cons, List.take_zero] at g1
    obtain ⟨e1, r1⟩ := g1.int Tryd.underlying3
    have g2 : Rep Tryd.prog w I k 9 (([x0, x1, x2, x3, x4].drop 2).take (Tryd.prog.cellsOf 9)) (d.f 2) := hf 2 _ rfl
    simp only [cells9, List.drop_zero, List.drop_succ_cons, List.take_succ_cons, List.take_zero] at g2
    obtain ⟨e2, r2⟩ := g2.str Tryd.underlying9
    have g3 : Rep Tryd.prog w I k 46 (([x0, x1, x2, x3, x4].drop 3).take (Tryd.prog.cellsOf 46)) (d.f 3) := hf 3 _ rfl
    simp only [cells46, List.drop_zero, List.drop_succ_cons, List.take_succ_cons, List.take_zero] at g3
    obtain ⟨a3, b3, e3, r3⟩ := g3.sliceAny Tryd.underlying46
    have g4 : Rep Tryd.prog w I k 47 (([x0, x1, x2, x3, x4].drop 4).take (Tryd.prog.cellsOf 47)) (d.f 4) := hf 4 _ rfl
    simp only [cells47, List.drop_zero, List.drop_succ_cons, List.take_succ_cons, List.take_zero] at g4
    obtain ⟨a4, b4, e4, r4⟩ := g4.sliceAny Tryd.underlying47
    simp only [List.cons.injEq, and_true] at e0 e1 e2 e3 e4
    rw [e0, e1, e2, e3, e4]
    exact ⟨a3, b3, a4, b4, rfl, r0, r1, r2, r3, r4⟩
set_option maxRecDepth 100000 in
theorem open49_any (h : Rep Tryd.prog w I k 49 cs d) : ∃ (A3 : Option Addr) (c3 : Nat) (A4 : Option Addr) (c4 : Nat), cs = [.int .i64 (d.f 0).n, .int .i64 (d.f 1).n, .string (d.f 2).s, .slice A3 (d.f 3).l.length c3, .slice A4 (d.f 4).l.length c4] ∧ (Lit.int .i64 (d.f 0).n).wf = true ∧ (Lit.int .i64 (d.f 1).n).wf = true ∧ (d.f 2).s.size ≤ maxLen ∧ ((d.f 3).l.length ≤ c3 ∧ c3 ≤ maxLen ∧ (A3 = none → c3 = 0) ∧ Sl Tryd.prog w I k 49 A3 (d.f 3).l) ∧ ((d.f 4).l.length ≤ c4 ∧ c4 ≤ maxLen ∧ (A4 = none → c4 = 0) ∧ Sl Tryd.prog w I k 9 A4 (d.f 4).l) := by
  cases k with
  | zero => exact h.elim
  | succ k =>
    obtain ⟨A3, c3, A4, c4, rfl, r0, r1, r2, ⟨s3a, s3b, s3c, s3⟩, ⟨s4a, s4b, s4c, s4⟩⟩ := open49 h
    exact ⟨A3, c3, A4, c4, rfl, r0, r1, r2, ⟨s3a, s3b, s3c, s3.up⟩, ⟨s4a, s4b, s4c, s4.up⟩⟩
theorem cells103 : Tryd.prog.cellsOf 103 = 6 := by kernel_rfl
set_option maxRecDepth 100000 in
theorem open103 (h : Rep Tryd.prog w I (k + 1) 103 cs d) : ∃ (A4 : Option Addr) (c4 : Nat) (A5 : Option Addr) (c5 : Nat), cs = [.string (d.f 0).s, .int .i64 ((d.f 1).f 0).n, .int .i64 ((d.f 1).f 1).n, .string ((d.f 1).f 2).s, .slice A4 ((d.f 1).f 3).l.length c4, .slice A5 ((d.f 1).f 4).l.length c5] ∧ (d.f 0).s.size ≤ maxLen ∧ (Lit.int .i64 ((d.f 1).f 0).n).wf = true ∧ (Lit.int .i64 ((d.f 1).f 1).n).wf = true ∧ ((d.f 1).f 2).s.size ≤ maxLen ∧ (((d.f 1).f 3).l.length ≤ c4 ∧ c4 ≤ maxLen ∧ (A4 = none → c4 = 0) ∧ Sl Tryd.prog w I k 49 A4 ((d.f 1).f 3).l) ∧ (((d.f 1).f 4).l.length ≤ c5 ∧ c5 ≤ maxLen ∧ (A5 = none → c5 = 0) ∧ Sl Tryd.prog w I k 9 A5 ((d.f 1).f 4).l) := by
  obtain ⟨hl, hf⟩ := h.struct Tryd.underlying103
  rw [cells103] at hl
  match cs, hl, hf with
  | [x0, x1, x2, x3, x4, x5], _, hf =>
    have g0 : Rep Tryd.prog w I k 9 (([x0, x1, x2, x3, x4, x5].drop 0).take (Tryd.prog.cellsOf 9)) (d.f 0) := hf 0 _ rfl
    simp only [cells9, List.drop_zero, List.drop_succ_cons, List.take_succ_cons, List.take_zero] at g0
    obtain ⟨e0, r0⟩ := g0.str Tryd.underlying9
    have g1 : Rep Tryd.prog w I k 49 (([x0, x1, x2, x3, x4, x5].drop 1).take (Tryd.prog.cellsOf 49)) (d.f 1) := hf 1 _ rfl
    simp only [cells49, List.drop_zero, List.drop_succ_cons, List.take_succ_cons, List.take_zero] at g1
    obtain ⟨a1_3, b1_3, a1_4, b1_4, e1, r1_0, r1_1, r1_2, r1_3, r1_4⟩ := open49_any g1
    simp only [List.cons.injEq, and_true] at e0 e1
    obtain ⟨e1_0, e1_1, e1_2, e1_3, e1_4⟩ := e1
    rw [e0, e1_0, e1_1, e1_2, e1_3, e1_4]
    exact ⟨a1_3, b1_3, a1_4, b1_4, rfl, r0, r1_0, r1_1, r1_2, r1_3, r1_4⟩
set_option maxRecDepth 100000 in
theorem open103_any (h : Rep Tryd.prog w I k 103 cs d) : ∃ (A4 : Option Addr) (c4 : Nat) (A5 : Option Addr) (c5 : Nat), cs = [.string (d.f 0).s, .int .i64 ((d.f 1).f 0).n, .int .i64 ((d.f 1).f 1).n, .string ((d.f 1).f 2).s, .slice A4 ((d.f 1).f 3).l.length c4, .slice A5 ((d.f 1).f 4).l.length c5] ∧ (d.f 0).s.size ≤ maxLen ∧ (Lit.int .i64 ((d.f 1).f 0).n).wf = true ∧ (Lit.int .i64 ((d.f 1).f 1).n).wf = true ∧ ((d.f 1).f 2).s.size ≤ maxLen ∧ (((d.f 1).f 3).l.length ≤ c4 ∧ c4 ≤ maxLen ∧ (A4 = none → c4 = 0) ∧ Sl Tryd.prog w I k 49 A4 ((d.f 1).f 3).l) ∧ (((d.f 1).f 4).l.length ≤ c5 ∧ c5 ≤ maxLen ∧ (A5 = none → c5 = 0) ∧ Sl Tryd.prog w I k 9 A5 ((d.f 1).f 4).l) := by
  cases k with
  | zero => exact h.elim
  | succ k =>
    obtain ⟨A4, c4, A5, c5, rfl, r0, r1, r2, r3, ⟨s4a, s4b, s4c, s4⟩, ⟨s5a, s5b, s5c, s5⟩⟩ := open103 h
    exact ⟨A4, c4, A5, c5, rfl, r0, r1, r2, r3, ⟨s4a, s4b, s4c, s4.up⟩, ⟨s5a, s5b, s5c, s5.up⟩⟩
theorem cells101 : Tryd.prog.cellsOf 101 = 2 := by kernel_rfl
theorem cells99 : Tryd.prog.cellsOf 99 = 1 := by kernel_rfl
set_option maxRecDepth 100000 in
theorem open101 (h : Rep Tryd.prog w I (k + 1) 101 cs d) : ∃ (A1 : Option Addr) (c1 : Nat), cs = [.string (d.f 0).s, .slice A1 (d.f 1).l.length c1] ∧ (d.f 0).s.size ≤ maxLen ∧ ((d.f 1).l.length ≤ c1 ∧ c1 ≤ maxLen ∧ (A1 = none → c1 = 0) ∧ Sl Tryd.prog w I k 103 A1 (d.f 1).l) := by
  obtain ⟨hl, hf⟩ := h.struct Tryd.underlying101
  rw [cells101] at hl
  match cs, hl, hf with
  | [x0, x1], _, hf =>
    have g0 : Rep Tryd.prog w I k 9 (([x0, x1].drop 0).take (Tryd.prog.cellsOf 9)) (d.f 0) := hf 0 _ rfl
    simp only [cells9, List.drop_zero, List.drop_succ_cons, List.take_succ_cons, List.take_zero] at g0
    obtain ⟨e0, r0⟩ := g0.str Tryd.underlying9
    have g1 : Rep Tryd.prog w I k 99 (([x0, x1].drop 1).take (Tryd.prog.cellsOf 99)) (d.f 1) := hf 1 _ rfl
    simp only [cells99, List.drop_zero, List.drop_succ_cons, List.take_succ_cons, List.take_zero] at g1
    obtain ⟨a1, b1, e1, r1⟩ := g1.sliceAny Tryd.underlying99
    simp only [List.cons.injEq, and_true] at e0 e1
    rw [e0, e1]
    exact ⟨a1, b1, rfl, r0, r1⟩
set_option maxRecDepth 100000 in
theorem open101_any (h : Rep Tryd.prog w I k 101 cs d) : ∃ (A1 : Option Addr) (c1 : Nat), cs = [.string (d.f 0).s, .slice A1 (d.f 1).l.length c1] ∧ (d.f 0).s.size ≤ maxLen ∧ ((d.f 1).l.length ≤ c1 ∧ c1 ≤ maxLen ∧ (A1 = none → c1 = 0) ∧ Sl Tryd.prog w I k 103 A1 (d.f 1).l) := by
  cases k with
  | zero => exact h.elim
  | succ k =>
    obtain ⟨A1, c1, rfl, r0, ⟨s1a, s1b, s1c, s1⟩⟩ := open101 h
    exact ⟨A1, c1, rfl, r0, ⟨s1a, s1b, s1c, s1.up⟩⟩
end Go.Proofs.YtohneabalakmeaaDoor
namespace Go.Proofs.YtohneabalakmeaaDoor
open Go.RowKit
/-- the slice at A reads as l, its elements of type e -/
def Rs (w : World) (e : TypeId) (A : Option Addr) (l : List D) : Prop := ∃ k, Sl Tryd.prog w (fun b => b < w.heap.size) k e A l
theorem Rs.nil (w : World) (e : TypeId) (A : Option Addr) : Rs w e A [] := ⟨0, Sl.nil _ _ _⟩
theorem wfr {n : Int} (h : (Lit.int .i64 n).wf = true) : -9223372036854775808 ≤ n ∧ n ≤ 9223372036854775807 := by
  simp only [Lit.wf, Bool.and_eq_true, decide_eq_true_eq] at h
  obtain ⟨h1, h2⟩ := h
  have h3 : (n : Int) < 9223372036854775808 := Int.lt_of_le_of_lt h2 (by decide)
  exact ⟨Int.le_trans (by decide) h1, by omega⟩
end Go.Proofs.YtohneabalakmeaaDoor
namespace Go.Proofs.YtohneabalakmeaaDoor
open Go.RowKit
attribute [local irreducible] wpList Calls Code.wp
/-- some bool comes back -/
def Sb (w : World) (e : Ending) (w' : World) : Prop := ∃ b, e = .returned (.bool b) ∧ Below w.heap.size w w'
end Go.Proofs.YtohneabalakmeaaDoor
namespace Go.Proofs.YtohneabalakmeaaDoor
open Go.RowKit
attribute [local irreducible] wpList Calls Code.wp
/-- the value's cells lie at an address; with fuel -/
def AtV (k : Nat) (w : World) (b o : Nat) (d : D) : Prop := ∃ (A3 : Option Addr) (c3 : Nat) (A4 : Option Addr) (c4 : Nat), w.cell? ⟨b, o, none⟩ = some (.int .i64 (d.f 0).n) ∧ w.cell? ⟨b, o + 1, none⟩ = some (.int .i64 (d.f 1).n) ∧ w.cell? ⟨b, o + 2, none⟩ = some (.string (d.f 2).s) ∧ w.cell? ⟨b, o + 3, none⟩ = some (.slice A3 (d.f 3).l.length c3) ∧ w.cell? ⟨b, o + 4, none⟩ = some (.slice A4 (d.f 4).l.length c4) ∧
  Rep Tryd.prog w (fun b => b < w.heap.size) k 49 [.int .i64 (d.f 0).n, .int .i64 (d.f 1).n, .string (d.f 2).s, .slice A3 (d.f 3).l.length c3, .slice A4 (d.f 4).l.length c4] d
set_option maxRecDepth 100000 in
theorem at_val {w : World} {k : Nat} {A : Option Addr} {l : List D} (h : Sl Tryd.prog w (fun b => b < w.heap.size) k 49 A l) (hp : 0 < l.length) : ∃ b off, A = some ⟨b, off, none⟩ ∧ b < w.heap.size ∧ ∀ i, i < l.length → AtV k w b (off + i * 5) (gD l i) := by
  obtain ⟨b, off, hA, hb, hi⟩ := h hp (by rw [cells49]; omega)
  refine ⟨b, off, hA, hb, fun i hil => ?_⟩
  obtain ⟨ys, y1, y2, y3⟩ := hi i hil
  rw [cells49] at y2
  have y4 := y3
  obtain ⟨A3, c3, A4, c4, rfl, -⟩ := open49_any y3
  exact ⟨A3, c3, A4, c4, y2 0 _ rfl, y2 1 _ rfl, y2 2 _ rfl, y2 3 _ rfl, y2 4 _ rfl, y4⟩
set_option maxRecDepth 100000 in
theorem in_val {w : World} {k : Nat} {cs : Array Value} {d : D} (h : Rep Tryd.prog w (fun b => b < w.heap.size) (k + 1) 49 cs.toList d) : ∃ (A3 : Option Addr) (c3 : Nat) (A4 : Option Addr) (c4 : Nat), cs = #[.int .i64 (d.f 0).n, .int .i64 (d.f 1).n, .string (d.f 2).s, .slice A3 (d.f 3).l.length c3, .slice A4 (d.f 4).l.length c4] ∧ ((-9223372036854775808 ≤ (d.f 0).n ∧ (d.f 0).n ≤ 9223372036854775807) ∧ (-9223372036854775808 ≤ (d.f 1).n ∧ (d.f 1).n ≤ 9223372036854775807) ∧ (d.f 2).s.size ≤ 9223372036854775807 ∧ (d.f 3).l.length ≤ 9223372036854775807 ∧ (d.f 4).l.length ≤ 9223372036854775807) ∧ Sl Tryd.prog w (fun b => b < w.heap.size) k 49 A3 (d.f 3).l ∧ Sl Tryd.prog w (fun b => b < w.heap.size) k 9 A4 (d.f 4).l := by
  obtain ⟨A3, c3, A4, c4, e, r0, r1, r2, ⟨s3a, s3b, -, s3⟩, ⟨s4a, s4b, -, s4⟩⟩ := open49 h
  unfold maxLen at *
  exact ⟨A3, c3, A4, c4, Array.ext' e, ⟨wfr r0, wfr r1, by omega, by omega, by omega⟩, s3, s4⟩
/-- some number comes back -/
def Sn (w : World) (e : Ending) (w' : World) : Prop := ∃ n, e = .returned (.int .i64 n) ∧ Below w.heap.size w w'
def VT (k : Nat) (cs : Array Value) (d : D) (w0 w : World) : Prop := Below w0.heap.size w0 w ∧ Rep Tryd.prog w0 (fun b => b < w0.heap.size) k 49 cs.toList d
set_option maxRecDepth 100000 in
set_option maxHeartbeats 4000000 in
theorem sizeR : ∀ (k : Nat) (cs : Array Value) (d : D) (w0 w : World), VT k cs d w0 w → Calls Tryd.prog 39 #[.agg cs] w (Sn w) := by
  intro k
  induction k with
  | zero => intro cs d w0 w h; exact h.2.elim
  | succ k ih =>
    intro cs d w0 w ⟨h0, h⟩
    obtain ⟨A3, c3, A4, c4, rfl, ⟨-, -, -, hlen, -⟩, s3, -⟩ := in_val h
    have H0 := Lib.hid h0; have S3 := Lib.hid s3
    clear h h0 s3
    have IH := Lib.hid ih; clear ih
    go_enter Tryd.func39, Tryd.ntmps39
    go_wp2
    go_loopg [3, 4] (d.f 3).l.length (fun j x i wr => ∃ (m : Nat) (y : Int), m + j = (d.f 3).l.length ∧ i = .int .i64 m ∧ x = .int .i64 y ∧ Below w.heap.size w wr ∧ wr.heap[w.heap.size]? = some (.cells #[.int .i64 (d.f 0).n, .int .i64 (d.f 1).n, .string (d.f 2).s, .slice A3 (d.f 3).l.length c3, .slice A4 (d.f 4).l.length c4] 49 (0, 0)))
    case atStart => exact ⟨0, _, by omega, rfl, rfl, (Below.refl _ _).alloc (Nat.le_refl _) _, heap_at rfl⟩
    case round =>
      obtain ⟨m, y, hmj, rfl, rfl, hb, hx⟩ := hrel
      have k3 : wr.cell? ⟨w.heap.size, 3, none⟩ = some (.slice A3 (d.f 3).l.length c3) := cell_heap hx rfl
      have l0 := heap_lt hx
      have Hb := Lib.hid hb; have Hx := Lib.hid hx
      have Hmj := Lib.hid hmj; have hmn : m ≤ (d.f 3).l.length := by omega
      clear hmj hb hx
      by_cases hlt : m < (d.f 3).l.length
      · obtain ⟨b, off, rfl, hI, hat⟩ := at_val S3.out (by omega)
        obtain ⟨A3', c3', A4', c4', e0, e1, e2, e3, e4, rv⟩ := hat m hlt
        have Rv' := Lib.hid rv
        clear hat rv
        replace e0 := ((H0.out.trans (Hb.out.mono H0.out.size)).cell (p := ⟨b, _, none⟩) hI).trans e0
        replace e1 := ((H0.out.trans (Hb.out.mono H0.out.size)).cell (p := ⟨b, _, none⟩) hI).trans e1
        replace e2 := ((H0.out.trans (Hb.out.mono H0.out.size)).cell (p := ⟨b, _, none⟩) hI).trans e2
        replace e3 := ((H0.out.trans (Hb.out.mono H0.out.size)).cell (p := ⟨b, _, none⟩) hI).trans e3
        replace e4 := ((H0.out.trans (Hb.out.mono H0.out.size)).cell (p := ⟨b, _, none⟩) hI).trans e4
        go_wp2_with fail
        refine (IH.out _ (gD (d.f 3).l m) w0 wr ⟨H0.out.trans (Hb.out.mono H0.out.size), Rv'.out⟩).mono ?_
        rintro e w2 ⟨n2, rfl, b2⟩
        have Hb2 := Lib.hid (Hb.out.trans (b2.mono Hb.out.size))
        have Hx2 := Lib.hid ((b2.block _ l0).trans Hx.out)
        clear b2 e0 e1 e2 e3 e4 k3
        go_wp2
        go_roundg ((d.f 3).l.length - m - 1)
        case measure => have := Hmj.out; omega
        case rel => exact ⟨m + 1, _, by have := Hmj.out; omega, by go_num, rfl, Hb2.out, Hx2.out⟩
      · go_wp2
        go_ret
        exact ⟨_, rfl, Hb.out⟩
set_option maxRecDepth 100000 in
set_option maxHeartbeats 4000000 in
theorem depthR : ∀ (k : Nat) (cs : Array Value) (d : D) (w0 w : World), VT k cs d w0 w → Calls Tryd.prog 73 #[.agg cs] w (Sn w) := by
  intro k
  induction k with
  | zero => intro cs d w0 w h; exact h.2.elim
  | succ k ih =>
    intro cs d w0 w ⟨h0, h⟩
    obtain ⟨A3, c3, A4, c4, rfl, ⟨-, -, -, hlen, -⟩, s3, -⟩ := in_val h
    have H0 := Lib.hid h0; have S3 := Lib.hid s3
    clear h h0 s3
    have IH := Lib.hid ih; clear ih
    go_enter Tryd.func73, Tryd.ntmps73
    go_wp2
    go_loopg [3, 4] (d.f 3).l.length (fun j x i wr => ∃ (m : Nat) (y : Int), m + j = (d.f 3).l.length ∧ i = .int .i64 m ∧ x = .int .i64 y ∧ Below w.heap.size w wr ∧ wr.heap[w.heap.size]? = some (.cells #[.int .i64 (d.f 0).n, .int .i64 (d.f 1).n, .string (d.f 2).s, .slice A3 (d.f 3).l.length c3, .slice A4 (d.f 4).l.length c4] 49 (0, 0)))
    case atStart => exact ⟨0, _, by omega, rfl, rfl, (Below.refl _ _).alloc (Nat.le_refl _) _, heap_at rfl⟩
    case round =>
      obtain ⟨m, y, hmj, rfl, rfl, hb, hx⟩ := hrel
      have k3 : wr.cell? ⟨w.heap.size, 3, none⟩ = some (.slice A3 (d.f 3).l.length c3) := cell_heap hx rfl
      have l0 := heap_lt hx
      have Hb := Lib.hid hb; have Hx := Lib.hid hx
      have Hmj := Lib.hid hmj; have hmn : m ≤ (d.f 3).l.length := by omega
      clear hmj hb hx
      by_cases hlt : m < (d.f 3).l.length
      · obtain ⟨b, off, rfl, hI, hat⟩ := at_val S3.out (by omega)
        obtain ⟨A3', c3', A4', c4', e0, e1, e2, e3, e4, rv⟩ := hat m hlt
        have Rv' := Lib.hid rv
        clear hat rv
        replace e0 := ((H0.out.trans (Hb.out.mono H0.out.size)).cell (p := ⟨b, _, none⟩) hI).trans e0
        replace e1 := ((H0.out.trans (Hb.out.mono H0.out.size)).cell (p := ⟨b, _, none⟩) hI).trans e1
        replace e2 := ((H0.out.trans (Hb.out.mono H0.out.size)).cell (p := ⟨b, _, none⟩) hI).trans e2
        replace e3 := ((H0.out.trans (Hb.out.mono H0.out.size)).cell (p := ⟨b, _, none⟩) hI).trans e3
        replace e4 := ((H0.out.trans (Hb.out.mono H0.out.size)).cell (p := ⟨b, _, none⟩) hI).trans e4
        go_wp2_with fail
        refine (IH.out _ (gD (d.f 3).l m) w0 wr ⟨H0.out.trans (Hb.out.mono H0.out.size), Rv'.out⟩).mono ?_
        rintro e w2 ⟨n2, rfl, b2⟩
        have Hb2 := Lib.hid (Hb.out.trans (b2.mono Hb.out.size))
        have Hx2 := Lib.hid ((b2.block _ l0).trans Hx.out)
        clear b2 e0 e1 e2 e3 e4 k3
        go_wp2
        go_roundg ((d.f 3).l.length - m - 1)
        case measure => have := Hmj.out; omega
        case rel => exact ⟨m + 1, _, by have := Hmj.out; omega, by go_num, rfl, Hb2.out, Hx2.out⟩
      · go_wp2
        go_ret
        exact ⟨_, rfl, Hb.out⟩
end Go.Proofs.YtohneabalakmeaaDoor
namespace Go.Proofs.YtohneabalakmeaaDoor
open Go.RowKit
attribute [local irreducible] wpList Calls Code.wp
/-- the strings of a slice -/
theorem at_str {w : World} {A : Option Addr} {l : List D} (h : Rs w 9 A l) (hp : 0 < l.length) : ∃ b off, A = some ⟨b, off, none⟩ ∧ b < w.heap.size ∧ ∀ i, i < l.length → w.cell? ⟨b, off + i, none⟩ = some (.string (gD l i).s) ∧ (gD l i).s.size ≤ maxLen := by
  obtain ⟨k, h⟩ := h
  obtain ⟨b, off, hA, hb, hi⟩ := h hp (by rw [cells9]; omega)
  refine ⟨b, off, hA, hb, fun i hil => ?_⟩
  obtain ⟨ys, y1, y2, y3⟩ := hi i hil
  rw [cells9] at y2
  obtain ⟨rfl, hs⟩ := y3.str Tryd.underlying9
  have := y2 0 _ rfl
  rw [Nat.mul_one, Nat.add_zero] at this
  exact ⟨this, hs⟩
set_option maxRecDepth 100000 in
set_option maxHeartbeats 4000000 in
theorem twiceR (A : Option Addr) (l : List D) (c : Nat) (w0 w : World) (h0 : Below w0.heap.size w0 w) (h : Rs w0 9 A l) (hl : l.length ≤ 9223372036854775807) :
    Calls Tryd.prog 145 #[.slice A l.length c] w (Sb w) := by
  have H := Lib.hid h; have H0 := Lib.hid h0
  clear h h0
  go_enter Tryd.func145, Tryd.ntmps145
  go_wp2
  go_loopg [3] l.length (fun j i wr => ∃ m : Nat, m + j = l.length ∧ i = .int .i64 m ∧ Below w.heap.size w wr)
  case atStart => exact ⟨0, by omega, rfl, Below.refl _ _⟩
  case round =>
    obtain ⟨m, hmj, rfl, hb⟩ := hrel
    have Hb := Lib.hid hb
    have Hmj := Lib.hid hmj; have hmn : m ≤ l.length := by omega
    clear hmj hb
    by_cases hlt : m < l.length
    · obtain ⟨b, off, rfl, hI, hat⟩ := at_str H.out (by omega)
      obtain ⟨e0, -⟩ := hat m hlt
      have Hat := Lib.hid hat
      clear hat
      have Hmj2 := Lib.hid hlt
      obtain ⟨wo, rfl⟩ : ∃ wo : World, wo = wr := ⟨_, rfl⟩
      go_wp2
      go_loopg [4] m (fun j i wi => ∃ k : Nat, k + j = m ∧ i = .int .i64 k ∧ Below w.heap.size w wi)
      case atStart => exact ⟨0, by omega, rfl, Hb.out⟩
      case round =>
        obtain ⟨k, hkj, rfl, hb⟩ := hrel
        have Hbi := Lib.hid hb
        have Hkj := Lib.hid hkj; have hkn : k ≤ m := by omega
        clear hkj hb
        by_cases hlk : k < m
        · obtain ⟨e1, -⟩ := Hat.out k (by omega)
          have e2 := ((H0.out.trans (Hbi.out.mono H0.out.size)).cell (p := ⟨b, _, none⟩) hI).trans e0
          replace e1 := ((H0.out.trans (Hbi.out.mono H0.out.size)).cell (p := ⟨b, _, none⟩) hI).trans e1
          have z1 : (m : Int) < (l.length : Int) := by omega
          have z2 : (k : Int) < (l.length : Int) := by omega
          have E0 := Lib.hid e0; clear e0
          cases hq : ((gD l m).s.toList == (gD l k).s.toList)
          · go_wp2
            go_quiet (fail)
            go_wp2
            go_roundg (m - k - 1)
            case measure => have := Hkj.out; omega
            case rel => exact ⟨k + 1, by have := Hkj.out; omega, by go_num, below_draws Hbi.out _⟩
          · go_wp2
            go_quiet (fail)
            go_wp2
            go_ret
            exact ⟨_, rfl, below_draws Hbi.out _⟩
        · go_wp2
          go_roundg (l.length - m - 1)
          case measure => have := Hmj.out; omega
          case rel => exact ⟨m + 1, by have := Hmj.out; omega, by go_num, Hbi.out⟩
    · go_wp2
      go_ret
      exact ⟨_, rfl, Hb.out⟩
/-- whether a node is right comes back; if it is, a bool's number is 0 or 1 -/
def Nd (d : D) (w : World) (e : Ending) (w' : World) : Prop := ∃ b, e = .returned (.bool b) ∧ Below w.heap.size w w' ∧ (b = true → (d.f 0).n = 1 → (d.f 1).n = 0 ∨ (d.f 1).n = 1)
set_option maxRecDepth 100000 in
set_option maxHeartbeats 4000000 in
theorem nodeR (k : Nat) (cs : Array Value) (d : D) (w0 w : World) (h : VT (k + 1) cs d w0 w) (b : Bool) : Calls Tryd.prog 109 #[.agg cs, .bool b] w (Nd d w) := by
  obtain ⟨A3, c3, A4, c4, rfl, ⟨h0, h1, h2, h3, h4⟩, s3, s4⟩ := in_val h.2
  have H0 := Lib.hid h.1; have S4 := Lib.hid s4
  clear s3 s4 h
  have HB := Lib.hid (fun o => (Below.refl w.heap.size w).alloc (Nat.le_refl _) o)
  by_cases k1 : (d.f 0).n = 1
  · by_cases i0 : (d.f 1).n = 0
    · go_enter Tryd.func109, Tryd.ntmps109
      go_wp2
      all_goals
        go_ret
        exact ⟨_, rfl, HB.out _, fun _ _ => .inl i0⟩
    by_cases i1 : (d.f 1).n = 1
    · go_enter Tryd.func109, Tryd.ntmps109
      go_wp2
      all_goals
        go_ret
        exact ⟨_, rfl, HB.out _, fun _ _ => .inr i1⟩
    · go_enter Tryd.func109, Tryd.ntmps109
      go_wp2
      all_goals
        go_ret
        exact ⟨_, rfl, HB.out _, fun h => by simp at h⟩
  · have HN := Lib.hid (fun w => nameR (d.f 2).s w h2)
    have HT := Lib.hid (fun w h => twiceR A4 (d.f 4).l c4 w0 w h ⟨_, S4.out⟩ h4)
    clear S4
    go_enter Tryd.func109, Tryd.ntmps109
    go_wp2_with (first | (go_at_call 24; refine (HN.out _).mono ?_; rintro e w' ⟨rfl, rfl⟩) | (go_at_call 145; refine (HT.out _ (H0.out.trans ((HB.out _).mono H0.out.size))).mono ?_; rintro e w2 ⟨bt, rfl, b2⟩; have B2 := Lib.hid ((HB.out _).trans (b2.mono (HB.out _).size)); clear b2))
    all_goals
      go_ret
      first
        | exact ⟨_, rfl, HB.out _, fun _ h => absurd h k1⟩
        | exact ⟨_, rfl, B2.out, fun _ h => absurd h k1⟩
end Go.Proofs.YtohneabalakmeaaDoor
namespace Go.Proofs.YtohneabalakmeaaDoor
open Go.RowKit
attribute [local irreducible] wpList Calls Code.wp
/-- the bools within are 0 or 1 -/
def goodF : Nat → D → Prop
  | 0, _ => True
  | k + 1, d => ((d.f 0).n = 1 → (d.f 1).n = 0 ∨ (d.f 1).n = 1) ∧ ∀ i, i < (d.f 3).l.length → goodF k (gD (d.f 3).l i)
/-- whether a value is right comes back -/
def Wh (k : Nat) (d : D) (w : World) (e : Ending) (w' : World) : Prop := ∃ b, e = .returned (.bool b) ∧ Below w.heap.size w w' ∧ (b = true → goodF k d)
set_option maxRecDepth 100000 in
set_option maxHeartbeats 4000000 in
theorem wholeR : ∀ (k : Nat) (cs : Array Value) (d : D) (w0 w : World), VT k cs d w0 w → Calls Tryd.prog 74 #[.agg cs, .bool true] w (Wh k d w) := by
  intro k
  induction k with
  | zero => intro cs d w0 w h; exact h.2.elim
  | succ k ih =>
    intro cs d w0 w h
    have HN := Lib.hid (fun w (h0 : Below w0.heap.size w0 w) => nodeR k cs d w0 w ⟨h0, h.2⟩ true)
    obtain ⟨h0, h⟩ := h
    obtain ⟨A3, c3, A4, c4, rfl, ⟨-, -, -, hlen, hlen4⟩, s3, s4⟩ := in_val h
    have H0 := Lib.hid h0; have S3 := Lib.hid s3; have S4 := Lib.hid s4
    clear h h0 s3 s4
    have IH := Lib.hid ih; clear ih
    have HB := Lib.hid ((Below.refl w.heap.size w).alloc (Nat.le_refl _) (.cells #[.int .i64 (d.f 0).n, .int .i64 (d.f 1).n, .string (d.f 2).s, .slice A3 (d.f 3).l.length c3, .slice A4 (d.f 4).l.length c4] 49))
    have XD := Lib.hid (heap_at (w := w) (o := .cells #[.int .i64 (d.f 0).n, .int .i64 (d.f 1).n, .string (d.f 2).s, .slice A3 (d.f 3).l.length c3, .slice A4 (d.f 4).l.length c4] 49) rfl)
    go_enter Tryd.func74, Tryd.ntmps74
    go_wp2_with fail
    refine (HN.out _ (H0.out.trans (HB.out.mono H0.out.size))).mono ?_
    rintro e w1 ⟨bn, rfl, b1, hn⟩
    have B1 := Lib.hid (HB.out.trans (b1.mono HB.out.size))
    have X1 := Lib.hid ((b1.block _ (heap_lt XD.out)).trans XD.out)
    have Hn := Lib.hid hn
    clear b1 hn
    cases bn
    · go_wp2
      go_ret
      exact ⟨_, rfl, B1.out, fun h => by cases h⟩
    have Hn2 := Lib.hid (Hn.out rfl)
    go_wp2
    go_loopg [5] (d.f 4).l.length (fun j i wr => ∃ m : Nat, m + j = (d.f 4).l.length ∧ i = .int .i64 m ∧ Below w.heap.size w wr ∧ wr.heap[w.heap.size]? = some (.cells #[.int .i64 (d.f 0).n, .int .i64 (d.f 1).n, .string (d.f 2).s, .slice A3 (d.f 3).l.length c3, .slice A4 (d.f 4).l.length c4] 49 (0, 0)))
    case atStart => exact ⟨0, by omega, rfl, B1.out, X1.out⟩
    case round =>
      obtain ⟨m, hmj, rfl, hb, hx⟩ := hrel
      have k4 : wr.cell? ⟨w.heap.size, 4, none⟩ = some (.slice A4 (d.f 4).l.length c4) := cell_heap hx rfl
      have l0 := heap_lt hx
      have Hb := Lib.hid hb; have Hx := Lib.hid hx
      have Hmj := Lib.hid hmj; have hmn : m ≤ (d.f 4).l.length := by omega
      clear hmj hb hx
      by_cases hlt : m < (d.f 4).l.length
      · obtain ⟨b, off, rfl, hI, hat⟩ := at_str ⟨_, S4.out⟩ (by omega)
        obtain ⟨e0, es⟩ := hat m hlt
        clear hat
        unfold maxLen at es
        replace e0 := ((H0.out.trans (Hb.out.mono H0.out.size)).cell (p := ⟨b, _, none⟩) hI).trans e0
        go_wp2_with fail
        refine (nameR (gD (d.f 4).l m).s wr (by omega)).mono ?_
        rintro e w2 ⟨rfl, rfl⟩
        cases nameB (gD (d.f 4).l m).s
        · go_wp2
          go_ret
          exact ⟨_, rfl, Hb.out, fun h => by cases h⟩
        · go_wp2
          go_roundg ((d.f 4).l.length - m - 1)
          case measure => have := Hmj.out; omega
          case rel => exact ⟨m + 1, by have := Hmj.out; omega, by go_num, Hb.out, Hx.out⟩
      · have Hb1 := Lib.hid Hb.out; have Hx1 := Lib.hid Hx.out
        clear Hb Hx Hmj hmn
        obtain ⟨wo, rfl⟩ : ∃ wo : World, wo = wr := ⟨_, rfl⟩
        go_wp2
        clear k4 l0 hlt
        go_loopg [6] (d.f 3).l.length (fun j i wr => ∃ m : Nat, m + j = (d.f 3).l.length ∧ i = .int .i64 m ∧ Below w.heap.size w wr ∧ wr.heap[w.heap.size]? = some (.cells #[.int .i64 (d.f 0).n, .int .i64 (d.f 1).n, .string (d.f 2).s, .slice A3 (d.f 3).l.length c3, .slice A4 (d.f 4).l.length c4] 49 (0, 0)) ∧ ∀ i, i < m → goodF k (gD (d.f 3).l i))
        case atStart => exact ⟨0, by omega, rfl, Hb1.out, Hx1.out, fun i h => by omega⟩
        case round =>
          obtain ⟨m, hmj, rfl, hb, hx, hg⟩ := hrel
          have k3 : wr.cell? ⟨w.heap.size, 3, none⟩ = some (.slice A3 (d.f 3).l.length c3) := cell_heap hx rfl
          have l0 := heap_lt hx
          have Hb := Lib.hid hb; have Hx := Lib.hid hx; have Hg := Lib.hid hg
          have Hmj := Lib.hid hmj; have hmn : m ≤ (d.f 3).l.length := by omega
          clear hmj hb hx hg
          by_cases hlt : m < (d.f 3).l.length
          · obtain ⟨b, off, rfl, hI, hat⟩ := at_val S3.out (by omega)
            obtain ⟨A3', c3', A4', c4', e0, e1, e2, e3, e4, rv⟩ := hat m hlt
            have Rv' := Lib.hid rv
            clear hat rv
            replace e0 := ((H0.out.trans (Hb.out.mono H0.out.size)).cell (p := ⟨b, _, none⟩) hI).trans e0
            replace e1 := ((H0.out.trans (Hb.out.mono H0.out.size)).cell (p := ⟨b, _, none⟩) hI).trans e1
            replace e2 := ((H0.out.trans (Hb.out.mono H0.out.size)).cell (p := ⟨b, _, none⟩) hI).trans e2
            replace e3 := ((H0.out.trans (Hb.out.mono H0.out.size)).cell (p := ⟨b, _, none⟩) hI).trans e3
            replace e4 := ((H0.out.trans (Hb.out.mono H0.out.size)).cell (p := ⟨b, _, none⟩) hI).trans e4
            go_wp2_with fail
            refine (IH.out _ (gD (d.f 3).l m) w0 wr ⟨H0.out.trans (Hb.out.mono H0.out.size), Rv'.out⟩).mono ?_
            rintro e w2 ⟨b2, rfl, bb, h2⟩
            have Hb2 := Lib.hid (Hb.out.trans (bb.mono Hb.out.size))
            have Hx2 := Lib.hid ((bb.block _ l0).trans Hx.out)
            have H2 := Lib.hid h2
            clear bb e0 e1 e2 e3 e4 k3 h2
            cases b2
            · go_wp2
              go_ret
              exact ⟨_, rfl, Hb2.out, fun h => by cases h⟩
            · have HG := Lib.hid (show ∀ i, i < m + 1 → goodF k (gD (d.f 3).l i) from fun i hi => (Nat.lt_succ_iff_lt_or_eq.1 hi).elim (fun h' => Hg.out i h') (fun h' => by rw [h']; exact H2.out rfl))
              go_wp2
              go_roundg ((d.f 3).l.length - m - 1)
              case measure => have := Hmj.out; omega
              case rel => exact ⟨m + 1, by have := Hmj.out; omega, by go_num, Hb2.out, Hx2.out, HG.out⟩
          · have HG := Lib.hid (show goodF (k + 1) d from ⟨Hn2.out, fun i hi => Hg.out i (by omega)⟩)
            go_wp2
            go_ret
            exact ⟨_, rfl, Hb.out, fun _ => HG.out⟩
set_option maxRecDepth 100000 in
set_option maxHeartbeats 4000000 in
theorem literalR (k : Nat) (cs : Array Value) (d : D) (w0 w : World) (h : VT (k + 1) cs d w0 w) : Calls Tryd.prog 40 #[.agg cs] w (Wh (k + 1) d w) := by
  have HS := Lib.hid (fun w (h0 : Below w0.heap.size w0 w) => sizeR (k + 1) cs d w0 w ⟨h0, h.2⟩)
  have HD := Lib.hid (fun w (h0 : Below w0.heap.size w0 w) => depthR (k + 1) cs d w0 w ⟨h0, h.2⟩)
  have HW := Lib.hid (fun w (h0 : Below w0.heap.size w0 w) => wholeR (k + 1) cs d w0 w ⟨h0, h.2⟩)
  obtain ⟨h0, h⟩ := h
  obtain ⟨A3, c3, A4, c4, rfl, -, -, -⟩ := in_val h
  have H0 := Lib.hid h0
  clear h h0
  have HB := Lib.hid ((Below.refl w.heap.size w).alloc (Nat.le_refl _) (.cells #[.int .i64 (d.f 0).n, .int .i64 (d.f 1).n, .string (d.f 2).s, .slice A3 (d.f 3).l.length c3, .slice A4 (d.f 4).l.length c4] 49))
  have XD := Lib.hid (heap_at (w := w) (o := .cells #[.int .i64 (d.f 0).n, .int .i64 (d.f 1).n, .string (d.f 2).s, .slice A3 (d.f 3).l.length c3, .slice A4 (d.f 4).l.length c4] 49) rfl)
  go_enter Tryd.func40, Tryd.ntmps40
  go_wp2_with fail
  refine (HS.out _ (H0.out.trans (HB.out.mono H0.out.size))).mono ?_
  rintro e w1 ⟨n1, rfl, b1⟩
  have B1 := Lib.hid (HB.out.trans (b1.mono HB.out.size))
  have X1 := Lib.hid ((b1.block _ (heap_lt XD.out)).trans XD.out)
  clear b1
  by_cases hn1 : n1 ≤ 4096
  · have K := Lib.hid X1.out
    have k0 := cell_heap (o := 0) X1.out rfl
    have k1 := cell_heap (o := 1) X1.out rfl
    have k2 := cell_heap (o := 2) X1.out rfl
    have k3 := cell_heap (o := 3) X1.out rfl
    have k4 := cell_heap (o := 4) X1.out rfl
    have l0 := heap_lt X1.out
    go_wp2_with fail
    refine (HD.out _ (H0.out.trans (B1.out.mono H0.out.size))).mono ?_
    rintro e w2 ⟨n2, rfl, b2⟩
    have B2 := Lib.hid (B1.out.trans (b2.mono B1.out.size))
    have X2 := Lib.hid ((b2.block _ (heap_lt X1.out)).trans X1.out)
    clear b2 k0 k1 k2 k3 k4 l0
    by_cases hn2 : n2 ≤ 24
    · have k0 := cell_heap (o := 0) X2.out rfl
      have k1 := cell_heap (o := 1) X2.out rfl
      have k2 := cell_heap (o := 2) X2.out rfl
      have k3 := cell_heap (o := 3) X2.out rfl
      have k4 := cell_heap (o := 4) X2.out rfl
      have l0 := heap_lt X2.out
      go_wp2_with fail
      refine (HW.out _ (H0.out.trans (B2.out.mono H0.out.size))).mono ?_
      rintro e w3 ⟨b, rfl, b3, hg⟩
      have B3 := Lib.hid (B2.out.trans (b3.mono B2.out.size))
      have HG := Lib.hid hg
      clear b3 hg k0 k1 k2 k3 k4 l0
      go_wp2
      go_ret
      exact ⟨_, rfl, B3.out, HG.out⟩
    · go_wp2
      go_ret
      exact ⟨_, rfl, B2.out, fun h => by simp at h⟩
  · go_wp2
    go_ret
    exact ⟨_, rfl, B1.out, fun h => by simp at h⟩
end Go.Proofs.YtohneabalakmeaaDoor
namespace Go.Proofs.YtohneabalakmeaaDoor
open Go.RowKit
attribute [local irreducible] wpList Calls Code.wp
mutual
/-- how many values and letters a datum holds -/
def bulkD : D → Nat
  | .int _ => 1
  | .bool _ => 1
  | .str s => s.size + 1
  | .list l => bulkL l + 1
  | .obj l => bulkL l + 1
def bulkL : List D → Nat
  | [] => 0
  | d :: r => bulkD d + bulkL r
 end
/-- the datum has a type's shape -/
def Fits (P : Program) : Nat → TypeId → D → Prop
  | 0, _, _ => False
  | k + 1, t, d =>
    match P.underlying t with
    | some .bool => ∃ b, d = .bool b
    | some (.int _) => ∃ n, d = .int n
    | some .string => ∃ s, d = .str s
    | some (.slice e) => ∃ l, d = .list l ∧ ∀ i, i < l.length → Fits P k e (gD l i)
    | some (.struct fs) => ∃ l, d = .obj l ∧ l.length = fs.size ∧ ∀ j f, fs[j]? = some f → Fits P k f.type (gD l j)
    | _ => True
theorem Fits.up {P : Program} : ∀ {k : Nat} {t : TypeId} {d : D}, Fits P k t d → Fits P (k + 1) t d
  | 0, _, _, h => h.elim
  | k + 1, t, d, h => by
    unfold Fits at h ⊢
    split at h
    · exact h
    · exact h
    · exact h
    · obtain ⟨l, h1, h2⟩ := h
      exact ⟨l, h1, fun i hi => Fits.up (h2 i hi)⟩
    · obtain ⟨l, h1, h2, h3⟩ := h
      exact ⟨l, h1, h2, fun j f hf => Fits.up (h3 j f hf)⟩
    · trivial
theorem bulk_pos {H : Type} (d : DataW H) : 1 ≤ Rows.uptoBulk d := by
  cases d with
  | lit x => cases x <;> simp [Rows.uptoBulk]
  | _ => simp [Rows.uptoBulk]
theorem bulk_lists {H : Type} : ∀ (l : List D) (xs : List (DataW H × List MemPlace)), l.length = xs.length → (∀ i (h : i < xs.length), bulkD (gD l i) ≤ Rows.uptoBulk (xs[i]'h).1) → bulkL l ≤ Rows.uptoBulkAll (xs.map (·.1))
  | [], _, _, _ => by simp [bulkL]
  | d :: r, [], h, _ => by simp at h
  | d :: r, x :: xs, h, hb => by
    have h0 := hb 0 (by simp)
    have h1 := bulk_lists r xs (by simpa using h) fun i hi => by
      have := hb (i + 1) (by simpa using hi)
      simpa [gD] using this
    simp only [List.map_cons, Rows.uptoBulkAll, bulkL]
    have e : gD (d :: r) 0 = d := rfl
    rw [e] at h0
    have e2 : (((x :: xs)[0]'(by simp)).1) = x.1 := rfl
    rw [e2] at h0
    omega
theorem rep_of_trod2 {P : Program} {w : World} {H : Type} {enc : TypeId × Value → H} {held : Bool} {sp : Nat → Bool} : ∀ {k : Nat} {t : TypeId} {cs : List Value} {x : DataW H × List MemPlace},
    DataW.trod enc P w 0 sp held k t cs = some x → ∃ d, Rep P w (fun b => b < w.heap.size) k t cs d ∧ Fits P k t d ∧ bulkD d ≤ Rows.uptoBulk x.1
  | 0, t, cs, x, h => by simp [DataW.trod] at h
  | k + 1, t, cs, x, h => by
    have hpos := bulk_pos x.1
    cases hu : P.underlying t with
    | none => exact ⟨default, by unfold Rep; rw [hu]; trivial, by unfold Fits; rw [hu]; trivial, by show bulkD (.obj []) ≤ _; simpa [bulkD, bulkL] using hpos⟩
    | some ty =>
      cases ty
      case bool =>
        obtain ⟨b, rfl, _⟩ := DataW.trod_bool hu h
        exact ⟨.bool b, .mk_bool hu, by unfold Fits; rw [hu]; exact ⟨b, rfl⟩, by simpa [bulkD] using hpos⟩
      case int q =>
        obtain ⟨n, rfl, _, hw⟩ := DataW.trod_int hu h
        exact ⟨.int n, .mk_int hu hw, by unfold Fits; rw [hu]; exact ⟨n, rfl⟩, by simpa [bulkD] using hpos⟩
      case string =>
        obtain ⟨s, rfl, hx, hs⟩ := DataW.trod_string hu h
        refine ⟨.str s, .mk_str hu hs, by unfold Fits; rw [hu]; exact ⟨s, rfl⟩, ?_⟩
        rw [hx]
        simp [bulkD, Rows.uptoBulk]
      case slice e =>
        rcases DataW.trod_slice hu h with ⟨rfl, _⟩ | ⟨a, len, cap, elems, rest, n, hk, rfl, hx, _, hle, hcm, hlen, hel, _⟩
        · exact ⟨.list [], .mk_slice hu rfl (by simp) (by simp [maxLen]) (fun _ => rfl) (Sl.nil _ _ _), by unfold Fits; rw [hu]; exact ⟨[], rfl, fun i hi => by simp at hi⟩, by simpa [bulkD, bulkL] using hpos⟩
        · obtain rfl : n = k := by omega
          have hx2 : ∀ i, i < len → ∃ d, (∃ ys, w.cells? 0 (a.add (i * P.cellsOf e)) (P.cellsOf e) = some ys ∧ Rep P w (fun b => b < w.heap.size) n e ys d) ∧ Fits P n e d ∧ ∀ h : i < elems.length, bulkD d ≤ Rows.uptoBulk (elems[i]'h).1 := fun i hi => by
            have h1 := hel i hi
            rw [List.getElem?_eq_getElem (by omega)] at h1
            obtain ⟨ys, y1, y2⟩ := Option.bind_eq_some_iff.1 h1
            obtain ⟨d, hd, hd2, hd3⟩ := rep_of_trod2 y2
            exact ⟨d, ⟨ys, y1, hd⟩, hd2, fun _ => hd3⟩
          obtain ⟨l, hll, hl⟩ := choose_list hx2
          refine ⟨.list l, .mk_slice hu hll.symm (by omega) hcm (fun h => by cases h) ?_, by unfold Fits; rw [hu]; exact ⟨l, rfl, fun i hi => (hl i (by omega)).2.1⟩, ?_⟩
          · intro h0 hc
            obtain ⟨b, off, spot⟩ := a
            obtain ⟨⟨ys, y1, _⟩, _⟩ := hl 0 (by omega)
            obtain ⟨_, y3, y4⟩ := World.cells?_some y1
            have y5 := y4 0 hc
            rw [List.getElem?_eq_getElem (by omega)] at y5
            have hspot : spot = none := by simpa [Addr.add] using World.cell?_spot y5
            subst hspot
            have hbl : b < w.heap.size := by simpa [Addr.add] using block_lt_of_cell y5
            refine ⟨b, off, rfl, hbl, fun i hi => ?_⟩
            obtain ⟨⟨ys, y1, y2⟩, _⟩ := hl i (by omega)
            obtain ⟨_, y3, y4⟩ := World.cells?_some y1
            refine ⟨ys, y3, fun j u hu => ?_, y2⟩
            have hj : j < P.cellsOf e := by have := (List.getElem?_eq_some_iff.1 hu).1; omega
            have := y4 j hj
            rw [Go.WideShapes.add_plain, Go.WideShapes.add_plain, hu] at this
            exact this
          · have := bulk_lists l elems (by omega) fun i hi => (hl i (by omega)).2.2 hi
            rw [hx]
            simp only [bulkD, Rows.uptoBulk]
            omega
      case struct fs =>
        obtain ⟨xs, n, hk, hx, hcs, hxs, hf⟩ := DataW.trod_struct hu h
        obtain rfl : n = k := by omega
        have hx2 : ∀ j, j < fs.size → ∃ d, (∀ f, fs[j]? = some f → Rep P w (fun b => b < w.heap.size) n f.type ((cs.drop f.offset).take (P.cellsOf f.type)) d ∧ Fits P n f.type d) ∧ ∀ h : j < xs.length, bulkD d ≤ Rows.uptoBulk (xs[j]'h).1 := fun j hj => by
          have h1 := hf j fs[j] (Array.getElem?_eq_getElem hj)
          rw [List.getElem?_eq_getElem (by omega)] at h1
          obtain ⟨d, hd, hd2, hd3⟩ := rep_of_trod2 h1
          refine ⟨d, fun f hf => ?_, fun _ => hd3⟩
          rw [Array.getElem?_eq_getElem hj] at hf
          cases hf; exact ⟨hd, hd2⟩
        obtain ⟨l, hll, hl⟩ := choose_list hx2
        refine ⟨.obj l, .mk_struct hu hcs fun j f hjf => ((hl j (Array.getElem?_eq_some_iff.1 hjf).1).1 f hjf).1, by unfold Fits; rw [hu]; exact ⟨l, rfl, hll, fun j f hjf => ((hl j (Array.getElem?_eq_some_iff.1 hjf).1).1 f hjf).2⟩, ?_⟩
        have := bulk_lists l xs (by omega) fun i hi => (hl i (by omega)).2 hi
        rw [hx]
        simp only [bulkD, Rows.uptoBulk]
        omega
      all_goals exact ⟨default, by unfold Rep; rw [hu]; trivial, by unfold Fits; rw [hu]; trivial, by show bulkD (.obj []) ≤ _; simpa [bulkD, bulkL] using hpos⟩
end Go.Proofs.YtohneabalakmeaaDoor
namespace Go.Proofs.YtohneabalakmeaaDoor
open Go.RowKit
set_option maxRecDepth 100000 in
theorem fits49 {k : Nat} {d : D} (h : Fits Tryd.prog (k + 1) 49 d) : ∃ (x0 : Int) (x1 : Int) (x2 : ByteArray) (x3 : List D) (x4 : List D), d = .obj [.int x0, .int x1, .str x2, .list x3, .list x4] ∧ (∀ i, i < x3.length → Fits Tryd.prog (k - 1) 49 (gD x3 i)) ∧ (∀ i, i < x4.length → Fits Tryd.prog (k - 1) 9 (gD x4 i)) := by
  unfold Fits at h
  rw [Tryd.underlying49] at h
  obtain ⟨l, rfl, hl, hf⟩ := h
  have h0 := hf 0 _ rfl
  have h1 := hf 1 _ rfl
  have h2 := hf 2 _ rfl
  have h3 := hf 3 _ rfl
  have h4 := hf 4 _ rfl
  match l, hl with
  | [x0, x1, x2, x3, x4], _ =>
    cases k with
    | zero => exact h0.elim
    | succ k =>
      change Fits Tryd.prog (k + 1) 3 x0 at h0
      change Fits Tryd.prog (k + 1) 3 x1 at h1
      change Fits Tryd.prog (k + 1) 9 x2 at h2
      change Fits Tryd.prog (k + 1) 46 x3 at h3
      change Fits Tryd.prog (k + 1) 47 x4 at h4
      unfold Fits at h0
      rw [Tryd.underlying3] at h0
      unfold Fits at h1
      rw [Tryd.underlying3] at h1
      unfold Fits at h2
      rw [Tryd.underlying9] at h2
      unfold Fits at h3
      rw [Tryd.underlying46] at h3
      unfold Fits at h4
      rw [Tryd.underlying47] at h4
      obtain ⟨y0, rfl⟩ := h0
      obtain ⟨y1, rfl⟩ := h1
      obtain ⟨y2, rfl⟩ := h2
      obtain ⟨y3, rfl, z3⟩ := h3
      obtain ⟨y4, rfl, z4⟩ := h4
      exact ⟨y0, y1, y2, y3, y4, rfl, z3, z4⟩
set_option maxRecDepth 100000 in
theorem fits62 {k : Nat} {d : D} (h : Fits Tryd.prog (k + 1) 62 d) : ∃ (x0 : ByteArray) (x1 : List D), d = .obj [.str x0, .list x1] ∧ (∀ i, i < x1.length → Fits Tryd.prog (k - 1) 3 (gD x1 i)) := by
  unfold Fits at h
  rw [Tryd.underlying62] at h
  obtain ⟨l, rfl, hl, hf⟩ := h
  have h0 := hf 0 _ rfl
  have h1 := hf 1 _ rfl
  match l, hl with
  | [x0, x1], _ =>
    cases k with
    | zero => exact h0.elim
    | succ k =>
      change Fits Tryd.prog (k + 1) 9 x0 at h0
      change Fits Tryd.prog (k + 1) 60 x1 at h1
      unfold Fits at h0
      rw [Tryd.underlying9] at h0
      unfold Fits at h1
      rw [Tryd.underlying60] at h1
      obtain ⟨y0, rfl⟩ := h0
      obtain ⟨y1, rfl, z1⟩ := h1
      exact ⟨y0, y1, rfl, z1⟩
set_option maxRecDepth 100000 in
theorem fits103 {k : Nat} {d : D} (h : Fits Tryd.prog (k + 1) 103 d) : ∃ (x0 : ByteArray) (x1 : D), d = .obj [.str x0, x1] ∧ Fits Tryd.prog k 49 x1 := by
  unfold Fits at h
  rw [Tryd.underlying103] at h
  obtain ⟨l, rfl, hl, hf⟩ := h
  have h0 := hf 0 _ rfl
  have h1 := hf 1 _ rfl
  match l, hl with
  | [x0, x1], _ =>
    cases k with
    | zero => exact h0.elim
    | succ k =>
      change Fits Tryd.prog (k + 1) 9 x0 at h0
      change Fits Tryd.prog (k + 1) 49 x1 at h1
      unfold Fits at h0
      rw [Tryd.underlying9] at h0
      obtain ⟨y0, rfl⟩ := h0
      exact ⟨y0, x1, rfl, h1⟩
set_option maxRecDepth 100000 in
theorem fits101 {k : Nat} {d : D} (h : Fits Tryd.prog (k + 1) 101 d) : ∃ (x0 : ByteArray) (x1 : List D), d = .obj [.str x0, .list x1] ∧ (∀ i, i < x1.length → Fits Tryd.prog (k - 1) 103 (gD x1 i)) := by
  unfold Fits at h
  rw [Tryd.underlying101] at h
  obtain ⟨l, rfl, hl, hf⟩ := h
  have h0 := hf 0 _ rfl
  have h1 := hf 1 _ rfl
  match l, hl with
  | [x0, x1], _ =>
    cases k with
    | zero => exact h0.elim
    | succ k =>
      change Fits Tryd.prog (k + 1) 9 x0 at h0
      change Fits Tryd.prog (k + 1) 99 x1 at h1
      unfold Fits at h0
      rw [Tryd.underlying9] at h0
      unfold Fits at h1
      rw [Tryd.underlying99] at h1
      obtain ⟨y0, rfl⟩ := h0
      obtain ⟨y1, rfl, z1⟩ := h1
      exact ⟨y0, y1, rfl, z1⟩
set_option maxRecDepth 100000 in
theorem fits132 {k : Nat} {d : D} (h : Fits Tryd.prog (k + 1) 132 d) : ∃ (x0 : ByteArray) (x1 : D) (x2 : Bool) (x3 : D) (x4 : List D), d = .obj [.str x0, x1, .bool x2, x3, .list x4] ∧ Fits Tryd.prog k 62 x1 ∧ Fits Tryd.prog k 49 x3 ∧ (∀ i, i < x4.length → Fits Tryd.prog (k - 1) 101 (gD x4 i)) := by
  unfold Fits at h
  rw [Tryd.underlying132] at h
  obtain ⟨l, rfl, hl, hf⟩ := h
  have h0 := hf 0 _ rfl
  have h1 := hf 1 _ rfl
  have h2 := hf 2 _ rfl
  have h3 := hf 3 _ rfl
  have h4 := hf 4 _ rfl
  match l, hl with
  | [x0, x1, x2, x3, x4], _ =>
    cases k with
    | zero => exact h0.elim
    | succ k =>
      change Fits Tryd.prog (k + 1) 9 x0 at h0
      change Fits Tryd.prog (k + 1) 62 x1 at h1
      change Fits Tryd.prog (k + 1) 4 x2 at h2
      change Fits Tryd.prog (k + 1) 49 x3 at h3
      change Fits Tryd.prog (k + 1) 53 x4 at h4
      unfold Fits at h0
      rw [Tryd.underlying9] at h0
      unfold Fits at h2
      rw [Tryd.underlying4] at h2
      unfold Fits at h4
      rw [Tryd.underlying53] at h4
      obtain ⟨y0, rfl⟩ := h0
      obtain ⟨y2, rfl⟩ := h2
      obtain ⟨y4, rfl, z4⟩ := h4
      exact ⟨y0, x1, y2, x3, y4, rfl, h1, h3, z4⟩
set_option maxRecDepth 100000 in
theorem fits64 {k : Nat} {d : D} (h : Fits Tryd.prog (k + 1) 64 d) : ∃ (x0 : ByteArray) (x1 : List D) (x2 : D) (x3 : List D), d = .obj [.str x0, .list x1, x2, .list x3] ∧ (∀ i, i < x1.length → Fits Tryd.prog (k - 1) 132 (gD x1 i)) ∧ Fits Tryd.prog k 62 x2 ∧ (∀ i, i < x3.length → Fits Tryd.prog (k - 1) 101 (gD x3 i)) := by
  unfold Fits at h
  rw [Tryd.underlying64] at h
  obtain ⟨l, rfl, hl, hf⟩ := h
  have h0 := hf 0 _ rfl
  have h1 := hf 1 _ rfl
  have h2 := hf 2 _ rfl
  have h3 := hf 3 _ rfl
  match l, hl with
  | [x0, x1, x2, x3], _ =>
    cases k with
    | zero => exact h0.elim
    | succ k =>
      change Fits Tryd.prog (k + 1) 9 x0 at h0
      change Fits Tryd.prog (k + 1) 56 x1 at h1
      change Fits Tryd.prog (k + 1) 62 x2 at h2
      change Fits Tryd.prog (k + 1) 53 x3 at h3
      unfold Fits at h0
      rw [Tryd.underlying9] at h0
      unfold Fits at h1
      rw [Tryd.underlying56] at h1
      unfold Fits at h3
      rw [Tryd.underlying53] at h3
      obtain ⟨y0, rfl⟩ := h0
      obtain ⟨y1, rfl, z1⟩ := h1
      obtain ⟨y3, rfl, z3⟩ := h3
      exact ⟨y0, y1, x2, y3, rfl, z1, h2, z3⟩
set_option maxRecDepth 100000 in
theorem fits112 {k : Nat} {d : D} (h : Fits Tryd.prog (k + 1) 112 d) : ∃ (x0 : ByteArray) (x1 : List D), d = .obj [.str x0, .list x1] ∧ (∀ i, i < x1.length → Fits Tryd.prog (k - 1) 101 (gD x1 i)) := by
  unfold Fits at h
  rw [Tryd.underlying112] at h
  obtain ⟨l, rfl, hl, hf⟩ := h
  have h0 := hf 0 _ rfl
  have h1 := hf 1 _ rfl
  match l, hl with
  | [x0, x1], _ =>
    cases k with
    | zero => exact h0.elim
    | succ k =>
      change Fits Tryd.prog (k + 1) 9 x0 at h0
      change Fits Tryd.prog (k + 1) 53 x1 at h1
      unfold Fits at h0
      rw [Tryd.underlying9] at h0
      unfold Fits at h1
      rw [Tryd.underlying53] at h1
      obtain ⟨y0, rfl⟩ := h0
      obtain ⟨y1, rfl, z1⟩ := h1
      exact ⟨y0, y1, rfl, z1⟩
set_option maxRecDepth 100000 in
theorem fits58 {k : Nat} {d : D} (h : Fits Tryd.prog (k + 1) 58 d) : ∃ (x0 : Int) (x1 : ByteArray) (x2 : List D) (x3 : List D) (x4 : List D) (x5 : List D) (x6 : List D), d = .obj [.int x0, .str x1, .list x2, .list x3, .list x4, .list x5, .list x6] ∧ (∀ i, i < x2.length → Fits Tryd.prog (k - 1) 9 (gD x2 i)) ∧ (∀ i, i < x3.length → Fits Tryd.prog (k - 1) 101 (gD x3 i)) ∧ (∀ i, i < x4.length → Fits Tryd.prog (k - 1) 64 (gD x4 i)) ∧ (∀ i, i < x5.length → Fits Tryd.prog (k - 1) 112 (gD x5 i)) ∧ (∀ i, i < x6.length → Fits Tryd.prog (k - 1) 132 (gD x6 i)) := by
  unfold Fits at h
  rw [Tryd.underlying58] at h
  obtain ⟨l, rfl, hl, hf⟩ := h
  have h0 := hf 0 _ rfl
  have h1 := hf 1 _ rfl
  have h2 := hf 2 _ rfl
  have h3 := hf 3 _ rfl
  have h4 := hf 4 _ rfl
  have h5 := hf 5 _ rfl
  have h6 := hf 6 _ rfl
  match l, hl with
  | [x0, x1, x2, x3, x4, x5, x6], _ =>
    cases k with
    | zero => exact h0.elim
    | succ k =>
      change Fits Tryd.prog (k + 1) 3 x0 at h0
      change Fits Tryd.prog (k + 1) 9 x1 at h1
      change Fits Tryd.prog (k + 1) 47 x2 at h2
      change Fits Tryd.prog (k + 1) 53 x3 at h3
      change Fits Tryd.prog (k + 1) 54 x4 at h4
      change Fits Tryd.prog (k + 1) 55 x5 at h5
      change Fits Tryd.prog (k + 1) 56 x6 at h6
      unfold Fits at h0
      rw [Tryd.underlying3] at h0
      unfold Fits at h1
      rw [Tryd.underlying9] at h1
      unfold Fits at h2
      rw [Tryd.underlying47] at h2
      unfold Fits at h3
      rw [Tryd.underlying53] at h3
      unfold Fits at h4
      rw [Tryd.underlying54] at h4
      unfold Fits at h5
      rw [Tryd.underlying55] at h5
      unfold Fits at h6
      rw [Tryd.underlying56] at h6
      obtain ⟨y0, rfl⟩ := h0
      obtain ⟨y1, rfl⟩ := h1
      obtain ⟨y2, rfl, z2⟩ := h2
      obtain ⟨y3, rfl, z3⟩ := h3
      obtain ⟨y4, rfl, z4⟩ := h4
      obtain ⟨y5, rfl, z5⟩ := h5
      obtain ⟨y6, rfl, z6⟩ := h6
      exact ⟨y0, y1, y2, y3, y4, y5, y6, rfl, z2, z3, z4, z5, z6⟩
set_option maxRecDepth 100000 in
theorem fits42 {k : Nat} {d : D} (h : Fits Tryd.prog (k + 1) 42 d) : ∃ (x0 : List D), d = .obj [.list x0] ∧ (∀ i, i < x0.length → Fits Tryd.prog (k - 1) 58 (gD x0 i)) := by
  unfold Fits at h
  rw [Tryd.underlying42] at h
  obtain ⟨l, rfl, hl, hf⟩ := h
  have h0 := hf 0 _ rfl
  match l, hl with
  | [x0], _ =>
    cases k with
    | zero => exact h0.elim
    | succ k =>
      change Fits Tryd.prog (k + 1) 40 x0 at h0
      unfold Fits at h0
      rw [Tryd.underlying40] at h0
      obtain ⟨y0, rfl, z0⟩ := h0
      exact ⟨y0, rfl, z0⟩
set_option maxRecDepth 100000 in
theorem fits_str {k : Nat} {d : D} (h : Fits Tryd.prog k 9 d) : ∃ s, d = .str s := by
  cases k with
  | zero => exact h.elim
  | succ k => unfold Fits at h; rw [Tryd.underlying9] at h; exact h
end Go.Proofs.YtohneabalakmeaaDoor
namespace Go.Proofs.YtohneabalakmeaaDoor
open Go.RowKit
attribute [local irreducible] wpList Calls Code.wp
/-- ", " -/
def commaB : List UInt8 := [44, 32]
/-- the text of a value; the fuel bounds its depth -/
def valF : Nat → D → List UInt8
  | 0, _ => []
  | k + 1, d =>
    if (d.f 0).n = 1 then (if (d.f 1).n = 1 then [116, 114, 117, 101] else [102, 97, 108, 115, 101])
    else if (d.f 0).n = 2 then Lib.itoa (d.f 1).n
    else if (d.f 0).n = 3 then quoteU (d.f 2).s.data.toList
    else if (d.f 0).n = 4 then (d.f 2).s.data.toList
    else if (d.f 0).n = 7 then [36] ++ (d.f 2).s.data.toList
    else if (d.f 0).n = 5 then [91] ++ Lib.join ((List.range (d.f 3).l.length).map fun i => valF k (gD (d.f 3).l i)) commaB ++ [93]
    else if (d.f 0).n = 6 then [123] ++ Lib.join ((List.range (min (d.f 4).l.length (d.f 3).l.length)).map fun i => (gD (d.f 4).l i).s.data.toList ++ [58, 32] ++ valF k (gD (d.f 3).l i)) commaB ++ [125]
    else [110, 117, 108, 108]
theorem joinTail_length (sep : List UInt8) : ∀ (ls : List (List UInt8)), (Lib.joinTail sep ls).length = (ls.map fun l => l.length + sep.length).sum
  | [] => rfl
  | l :: r => by
    have := joinTail_length sep r
    unfold Lib.joinTail at this ⊢
    simp only [List.map_cons, List.flatten_cons, List.length_append, List.sum_cons, this]
    omega
theorem join_length (sep : List UInt8) (ls : List (List UInt8)) : (Lib.join ls sep).length ≤ (ls.map fun l => l.length + sep.length).sum := by
  cases ls with
  | nil => simp [Lib.join_nil]
  | cons x r =>
    rw [Lib.join_cons, List.length_append, joinTail_length]
    simp only [List.map_cons, List.sum_cons]
    omega
theorem sum_range_le {n : Nat} {f g : Nat → Nat} (h : ∀ i, i < n → f i ≤ g i) : ((List.range n).map f).sum ≤ ((List.range n).map g).sum := by
  induction n with
  | zero => simp
  | succ n ih =>
    simp only [List.range_succ, List.map_append, List.sum_append, List.map_cons, List.map_nil, List.sum_cons, List.sum_nil]
    have := ih fun i hi => h i (by omega)
    have := h n (by omega)
    omega
theorem sum_range_mono {n m : Nat} (hn : n ≤ m) (f : Nat → Nat) : ((List.range n).map f).sum ≤ ((List.range m).map f).sum := by
  induction m with
  | zero => have : n = 0 := by omega
            subst this; exact Nat.le_refl _
  | succ m ih =>
    rcases Nat.lt_or_ge n (m + 1) with h | h
    · have := ih (by omega)
      simp only [List.range_succ, List.map_append, List.sum_append, List.map_cons, List.map_nil, List.sum_cons, List.sum_nil]
      omega
    · have : n = m + 1 := by omega
      subst this; exact Nat.le_refl _
theorem bulkL_range (l : List D) : bulkL l = ((List.range l.length).map fun i => bulkD (gD l i)).sum := by
  have key : ∀ (l : List D), bulkL l = (l.map bulkD).sum := fun l => by
    induction l with
    | nil => rfl
    | cons d r ih => simp [bulkL, ih]
  rw [key]
  congr 1
  apply List.ext_getElem (by simp)
  intro i h1 h2
  simp [gD_get (l := l) (i := i) (by simpa using h1)]
theorem bulk_mem {l : List D} {i : Nat} (h : i < l.length) : bulkD (gD l i) ≤ bulkL l := by
  rw [bulkL_range]
  have : ((List.range (i + 1)).map fun i => bulkD (gD l i)).sum ≤ ((List.range l.length).map fun i => bulkD (gD l i)).sum := sum_range_mono (by omega) _
  rw [List.range_succ, List.map_append, List.sum_append] at this
  simp at this
  omega
theorem map_sum_add (n : Nat) (f g : Nat → Nat) : ((List.range n).map fun i => f i + g i).sum = ((List.range n).map f).sum + ((List.range n).map g).sum := by
  induction n with
  | zero => rfl
  | succ n ih => simp only [List.range_succ, List.map_append, List.sum_append, List.map_cons, List.map_nil, List.sum_cons, List.sum_nil, ih]; omega
theorem map_sum_mul (n c : Nat) (f : Nat → Nat) : ((List.range n).map fun i => c * f i).sum = c * ((List.range n).map f).sum := by
  induction n with
  | zero => simp
  | succ n ih => simp only [List.range_succ, List.map_append, List.sum_append, List.map_cons, List.map_nil, List.sum_cons, List.sum_nil, ih, Nat.add_zero, Nat.mul_add]
/-- how long a text that is joined can be -/
theorem join_range (n m : Nat) (f : Nat → List UInt8) (sep : List UInt8) (b : Nat → Nat) (hn : n ≤ m) (h : ∀ i, i < n → (f i).length + sep.length ≤ 8 * b i) : (Lib.join ((List.range n).map f) sep).length ≤ 8 * ((List.range m).map b).sum := by
  refine Nat.le_trans (join_length _ _) ?_
  rw [List.map_map, ← map_sum_mul]
  exact Nat.le_trans (sum_range_le h) (sum_range_mono hn _)
theorem itoa_len (n : Int) : (Lib.itoa n).length ≤ 21 ∨ ¬ (-9223372036854775808 ≤ n ∧ n ≤ 9223372036854775807) := by
  by_cases h : -9223372036854775808 ≤ n ∧ n ≤ 9223372036854775807
  · have := itoa_size n h.1 h.2
    rw [bs_size] at this
    exact .inl this
  · exact .inr h
/-- the numbers within are 64 bits wide -/
def wideF : Nat → D → Prop
  | 0, _ => True
  | k + 1, d => (-9223372036854775808 ≤ (d.f 1).n ∧ (d.f 1).n ≤ 9223372036854775807) ∧ ∀ i, i < (d.f 3).l.length → wideF k (gD (d.f 3).l i)
set_option maxRecDepth 100000 in
theorem valF_bound : ∀ (k : Nat) (d : D), Fits Tryd.prog k 49 d → wideF k d → (valF k d).length + 2 ≤ 8 * bulkD d
  | 0, d, h, _ => h.elim
  | k + 1, d, h, hw => by
    obtain ⟨x0, x1, x2, x3, x4, rfl, h3, h4⟩ := fits49 h
    have hw1 := hw.1
    have hw2 := hw.2
    have e0 : (D.obj [.int x0, .int x1, .str x2, .list x3, .list x4]).f 0 = .int x0 := rfl
    have e1 : (D.obj [.int x0, .int x1, .str x2, .list x3, .list x4]).f 1 = .int x1 := rfl
    have e2 : (D.obj [.int x0, .int x1, .str x2, .list x3, .list x4]).f 2 = .str x2 := rfl
    have e3 : (D.obj [.int x0, .int x1, .str x2, .list x3, .list x4]).f 3 = .list x3 := rfl
    have e4 : (D.obj [.int x0, .int x1, .str x2, .list x3, .list x4]).f 4 = .list x4 := rfl
    rw [e1] at hw1
    rw [e3] at hw2
    have hb : bulkD (D.obj [.int x0, .int x1, .str x2, .list x3, .list x4]) = x2.size + 5 + bulkL x3 + bulkL x4 + 1 := by simp [bulkD, bulkL]; omega
    rw [hb]
    have hsz : x2.data.toList.length = x2.size := by simp
    have hitem : ∀ i, i < x3.length → (valF k (gD x3 i)).length + 2 ≤ 8 * bulkD (gD x3 i) := fun i hi => by
      cases k with
      | zero => exact (h3 i hi).elim
      | succ k => exact valF_bound (k + 1) _ (h3 i hi).up (hw2 i hi)
    unfold valF
    rw [e0, e1, e2, e3, e4]
    by_cases q0 : (D.int x0).n = 1
    · rw [if_pos q0]
      by_cases c1 : (D.int x1).n = 1
      · rw [if_pos c1]; simp; omega
      · rw [if_neg c1]; simp; omega
    rw [if_neg q0]
    by_cases q1 : (D.int x0).n = 2
    · rw [if_pos q1]
      simp only [D.n, D.s, D.l]
      rcases itoa_len x1 with h | h
      · omega
      · exact absurd hw1 h
    rw [if_neg q1]
    by_cases q2 : (D.int x0).n = 3
    · rw [if_pos q2]
      simp only [D.n, D.s, D.l]
      have := escL_length x2.data.toList
      simp only [quoteU, List.length_append, List.length_cons, List.length_nil]
      omega
    rw [if_neg q2]
    by_cases q3 : (D.int x0).n = 4
    · rw [if_pos q3]
      simp only [D.n, D.s, D.l]
      omega
    rw [if_neg q3]
    by_cases q4 : (D.int x0).n = 7
    · rw [if_pos q4]
      simp only [D.n, D.s, D.l]
      simp only [List.length_append, List.length_cons, List.length_nil]; omega
    rw [if_neg q4]
    by_cases q5 : (D.int x0).n = 5
    · rw [if_pos q5]
      simp only [D.l]
      have := join_range x3.length x3.length (fun i => valF k (gD x3 i)) commaB (fun i => bulkD (gD x3 i)) (Nat.le_refl _) (fun i hi => hitem i hi)
      rw [← bulkL_range] at this
      simp only [List.length_append, List.length_cons, List.length_nil]; omega
    rw [if_neg q5]
    by_cases q6 : (D.int x0).n = 6
    · rw [if_pos q6]
      simp only [D.l]
      have := join_range (min x4.length x3.length) (min x4.length x3.length) (fun i => (gD x4 i).s.data.toList ++ [58, 32] ++ valF k (gD x3 i)) commaB (fun i => bulkD (gD x4 i) + bulkD (gD x3 i)) (Nat.le_refl _) (fun i hi => by
        have a := hitem i (by omega)
        have b : bulkD (gD x4 i) = (gD x4 i).s.size + 1 := by
          obtain ⟨s, hs⟩ := fits_str (h4 i (by omega))
          rw [hs]; simp [bulkD, D.s]
        have c : (gD x4 i).s.data.toList.length = (gD x4 i).s.size := by simp
        have e : commaB.length = 2 := rfl
        simp only [List.length_append, List.length_cons, List.length_nil]
        omega)
      rw [map_sum_add] at this
      have a1 := sum_range_mono (show min x4.length x3.length ≤ x4.length by omega) fun i => bulkD (gD x4 i)
      have a2 := sum_range_mono (show min x4.length x3.length ≤ x3.length by omega) fun i => bulkD (gD x3 i)
      rw [← bulkL_range] at a1 a2
      simp only [List.length_append, List.length_cons, List.length_nil]; omega
    rw [if_neg q6]
    simp; omega
end Go.Proofs.YtohneabalakmeaaDoor
namespace Go.Proofs.YtohneabalakmeaaDoor
open Go.RowKit
attribute [local irreducible] wpList Calls Code.wp
def strs (ls : List (List UInt8)) : List Value := ls.map fun l => .string (bs l)
theorem strs_snoc (ls : List (List UInt8)) (l : List UInt8) : strs (ls ++ [l]) = strs ls ++ [.string (bs l)] := by simp [strs]
theorem strs_length (ls : List (List UInt8)) : (strs ls).length = ls.length := by simp [strs]
def gU (ls : List (List UInt8)) (i : Nat) : List UInt8 := ls.getD i []
/-- the cells of a slice of strings that a call owns -/
theorem own_strs {w : World} {B n : Nat} {v : Value} {ls : List (List UInt8)} (h : w.ownsRow B 9 1 v n (strs ls)) : n = ls.length ∧ ∃ A c, v = .slice A n c ∧ n ≤ c ∧ c ≤ maxLen ∧ (0 < n → ∃ g, A = some ⟨g, 0, none⟩ ∧ g < w.heap.size ∧ B ≤ g ∧ ∀ j, j < n → w.cell? ⟨g, j, none⟩ = some (.string (bs (gU ls j)))) := by
  have hn : n = ls.length := by have := h.1; rw [strs_length] at this; omega
  refine ⟨hn, ?_⟩
  rcases h.2 with ⟨rfl, rfl⟩ | ⟨g, cap, cur, rfl, hb, hg, hc, hm, r⟩
  · exact ⟨none, 0, rfl, Nat.le_refl _, by decide, fun h => by omega⟩
  · refine ⟨_, cap, rfl, hc, hm, fun h0 => ⟨g, rfl, (h.lt g rfl).2, hb, fun j hj => ?_⟩⟩
    rw [h.cellAt j (by omega)]
    simp [strs, gU, List.getElem?_eq_getElem (show j < ls.length by omega)]
theorem gU_get {ls : List (List UInt8)} {i : Nat} (h : i < ls.length) : gU ls i = ls[i] := by simp [gU, List.getElem?_eq_getElem h]
/-- strings.Join of a slice of the call's own -/
theorem strJoinP {B n : Nat} {v : Value} {ls : List (List UInt8)} (sep : List UInt8) (w : World) (h : w.ownsRow B 9 1 v n (strs ls)) (hn : n ≤ 100000000) (hl : (Lib.join ls sep).length ≤ 100000000) :
    Calls Tryd.prog 76 #[v, .string (bs sep)] w (St (Lib.join ls sep) w) := by
  obtain ⟨rfl, A, c, rfl, hc, hm, hcells⟩ := own_strs h
  have e1 : (ls.map bs).map (·.data.toList) = ls := by
    rw [List.map_map]
    conv => rhs; rw [← List.map_id ls]
    exact List.map_congr_left fun l _ => bs_data l
  have e2 : (bs sep).data.toList = sep := bs_data sep
  by_cases h0 : 0 < ls.length
  · obtain ⟨g, rfl, hg, _, hj⟩ := hcells h0
    have hk := Tryd.strings_Join g 0 c (ls.map bs) (bs sep) w (fun j x hx => by
      rw [List.getElem?_map, Option.map_eq_some_iff] at hx
      obtain ⟨l, hl, rfl⟩ := hx
      have hjl := (List.getElem?_eq_some_iff.1 hl)
      rw [Nat.zero_add, hj j hjl.1, gU_get hjl.1, hjl.2]) hg (by simp; omega) (by simpa using hc) (by rw [e1, e2]; omega)
    rw [List.length_map] at hk
    refine hk.mono fun e w' h => ⟨?_, h.2⟩
    rw [h.1, e1, e2]; rfl
  · have hz : ls = [] := List.eq_nil_of_length_eq_zero (by omega)
    subst hz
    refine (Tryd.strings_Join_none A c (bs sep) w).mono fun e w' h => ⟨by rw [h.1]; rfl, by rw [h.2]; exact Below.refl _ _⟩
theorem join_snoc (ls : List (List UInt8)) (l sep : List UInt8) (h : ls ≠ []) : Lib.join (ls ++ [l]) sep = Lib.join ls sep ++ sep ++ l := by
  cases ls with
  | nil => exact absurd rfl h
  | cons x r =>
    rw [List.cons_append, Lib.join_cons, Lib.join_cons]
    simp [Lib.joinTail]
theorem take_gU {ls : List (List UInt8)} {m : Nat} (h : m < ls.length) : ls.take (m + 1) = ls.take m ++ [gU ls m] := by
  rw [List.take_succ_eq_append_getElem h, gU_get h]
theorem join_mono (ls : List (List UInt8)) (sep : List UInt8) : ∀ m, (Lib.join (ls.take m) sep).length ≤ (Lib.join ls sep).length := fun m => by
  have e : ls = ls.take m ++ ls.drop m := (List.take_append_drop m ls).symm
  generalize ls.take m = a at *
  generalize ls.drop m = b at *
  subst e
  cases a with
  | nil => simp [Lib.join_nil]
  | cons x r =>
    rw [List.cons_append, Lib.join_cons, Lib.join_cons]
    simp [Lib.joinTail]
set_option maxRecDepth 100000 in
set_option maxHeartbeats 4000000 in
/-- the reference's join -/
theorem strJoinR {B n : Nat} {v : Value} {ls : List (List UInt8)} (sep : List UInt8) (w : World) (h : w.ownsRow B 9 1 v n (strs ls)) (hn : n ≤ 100000000) (hl : (Lib.join ls sep).length ≤ 100000000) :
    Calls Tryd.prog 77 #[v, .string (bs sep)] w (St (Lib.join ls sep) w) := by
  obtain ⟨hnl, A, c, rfl, hc, hm, hcells⟩ := own_strs h
  have Hcells := Lib.hid hcells
  have Hmono := Lib.hid (join_mono ls sep)
  have Hnl := Lib.hid hnl
  clear h hc hm hcells hnl
  have Hl := Lib.hid hl; clear hl
  go_enter Tryd.func77, Tryd.ntmps77
  go_wp2
  go_loopg [5, 6] n (fun j o i wr => ∃ m : Nat, m + j = n ∧ i = .int .i64 m ∧ o = .string (bs (Lib.join (ls.take m) sep)) ∧ w = wr)
  case atStart => exact ⟨0, by omega, rfl, rfl, rfl⟩
  case round =>
    obtain ⟨m, hmj, rfl, rfl, rfl⟩ := hrel
    have Hmj := Lib.hid hmj; have hmn : m ≤ n := by omega
    clear hmj
    by_cases hlt : m < n
    · obtain ⟨g, rfl, -, -, hj⟩ := Hcells.out (by omega)
      have e0 := hj m hlt
      clear hj
      have htk := take_gU (ls := ls) (m := m) (by rw [← Hnl.out]; exact hlt)
      have h1 := Hmono.out m; have h2 := Hmono.out (m + 1)
      have hl2 := Hl.out
      by_cases h0 : m = 0
      · subst h0
        have HV := Lib.hid (show bs (Lib.join (ls.take (0 + 1)) sep) = bs [] ++ bs (gU ls 0) by rw [htk, List.take_zero, List.nil_append, Lib.join_one]; exact bs_append [] _)
        have hz : (bs (Lib.join (ls.take (0 + 1)) sep)).size ≤ 100000000 := by rw [bs_size]; omega
        rw [htk, List.take_zero, List.nil_append, Lib.join_one] at hz
        rw [List.take_zero, Lib.join_nil]
        generalize bs (gU ls 0) = q at *
        clear htk h1 h2 hl2
        have hz0 : (bs []).size = 0 := rfl
        go_wp2
        go_roundg (n - 0 - 1)
        case measure => have := Hmj.out; omega
        case rel => exact ⟨0 + 1, by have := Hmj.out; omega, by first | rfl | go_num, by rw [HV.out], rfl⟩
      · have hne : ls.take m ≠ [] := fun e => by
          have h3 := congrArg List.length e
          rw [List.length_take, List.length_nil] at h3
          have h4 := Hnl.out
          omega
        have HV := Lib.hid (show bs (Lib.join (ls.take (m + 1)) sep) = bs (Lib.join (ls.take m) sep) ++ bs sep ++ bs (gU ls m) by rw [htk, join_snoc _ _ _ hne, bs_append, bs_append])
        have hz : (Lib.join (ls.take (m + 1)) sep).length ≤ 100000000 := by omega
        rw [htk, join_snoc _ _ _ hne, List.length_append, List.length_append] at hz
        have y1 : (bs (Lib.join (ls.take m) sep)).size + (bs sep).size + (bs (gU ls m)).size ≤ 100000000 := by rw [bs_size, bs_size, bs_size]; omega
        generalize bs (Lib.join (ls.take m) sep) = a at *
        generalize bs (gU ls m) = q at *
        generalize bs sep = sp at *
        clear htk h1 h2 hl2 hz hne
        go_wp2
        go_roundg (n - m - 1)
        case measure => have := Hmj.out; omega
        case rel => exact ⟨m + 1, by have := Hmj.out; omega, by go_num, by rw [HV.out], rfl⟩
    · have HE := Lib.hid (show ls.take m = ls from List.take_of_length_le (by rw [← Hnl.out]; omega))
      go_wp2
      go_ret
      exact ⟨by rw [HE.out]; rfl, Below.refl _ _⟩
end Go.Proofs.YtohneabalakmeaaDoor
namespace Go.Proofs.YtohneabalakmeaaDoor
open Go.RowKit
attribute [local irreducible] wpList Calls Code.wp
/-- what the rows of this layer list: the table of powers of ten -/
def EnvT (w : World) : Prop := Lib.TabIs Tryd.prog w "internal/strconv.uint64pow10" .u64 Lib.pow10Tab
theorem EnvT.below {w w' : World} (h : EnvT w) (hb : Below w.heap.size w w') : EnvT w' := var_below h hb
theorem decimalT (n : Int) (h0 : -9223372036854775808 ≤ n) (h1 : n ≤ 9223372036854775807) (w : World) (he : EnvT w) : Calls Tryd.prog 21 #[.int .i64 n] w (St (Lib.itoa n) w) := by
  have H := Lib.hid (Tryd.strconv_Itoa n h0 h1 w he)
  clear he
  go_enter Tryd.func21, Tryd.ntmps21
  go_wp2_with fail
  refine H.out.mono ?_
  rintro e w2 ⟨rfl, k, os, rfl⟩
  have Hb := Lib.hid (below_grow w k os)
  generalize Go.«Sort».grow (w.drewN k) os = w2 at *
  go_wp2
  go_ret
  exact ⟨rfl, Hb.out⟩
/-- append inside a region that draws its order, behind a call -/
theorem wp_new0 {P : Program} {w : World} {o : Oper} {a : Act} {K : Act → World → Prop} {Q : Exit → Act → World → Prop} (hgd : o.guard = none) (s x : Operand) (t : TypeId)
    (ho : o.op = .call { callee := .builtin .append, args := #[s, x], argTypes := #[t, t] })
    (base : Nat) (e : TypeId) (z : Value) (size bytes : Nat) (ht : P.underlying t = some (.slice e)) (hinfo : (P.info? e).map (fun i => (i.zero, i.size, i.bytes)) = some (some z, size, bytes))
    (hzs : z.cells.size = size) (hsz : 0 < size) (v : Value) (n : Nat) (xs : List Value) (hown : w.ownsRow base e size v n xs) (cs : Array Value) (m : Nat) (hm : cs.size = m * size)
    (h1 : cs.toList.all (·.oneCell') = true) (hs : a.eval s = v) (hx : a.eval x = .slice (some ⟨w.heap.size, 0, none⟩) m m)
    (h63 : n + m ≤ maxLen) (hbytes : (n + m) * bytes ≤ 140737488355328) (hbase : base ≤ w.heap.size)
    (h : ∀ v' w', w'.ownsRow base e size v' (n + m) (xs ++ cs.toList) → w.grownBy w' v.ownBlock → w.heap.size < w'.heap.size → (v'.ownBlock = v.ownBlock ∨ ∃ g, v'.ownBlock = some g ∧ w.heap.size ≤ g) →
      (0 < n + m → ∃ g c, v' = .slice (some ⟨g, 0, none⟩) (n + m) c) → K (a.put o.dst v') w') : Oper.wp P o a (w.alloc (.cells cs e)) K Q := by
  obtain ⟨i, hi, hz, h4, h5⟩ := info3 hinfo
  have hnews : ∀ j u, cs.toList[j]? = some u → (w.alloc (.cells cs e)).cell? ((⟨w.heap.size, 0, none⟩ : Addr).add j) = some u := fun j u hu => by
    rw [add_plain, cell_of_row _ w.heap.size _ cs e (0, 0) (heap_alloc_new w _)]
    simpa using hu
  obtain ⟨v', w', hrun, r1, r2, _, r4⟩ := run_append_own_at (P := P) (w := w.alloc (.cells cs e)) base t o.type e i z size bytes ht hi hz h4 h5 hzs hsz v n xs (hown.alloc _) ⟨w.heap.size, 0, none⟩ m m cs.toList (by simpa using hm) hnews
    (fun u hu => List.all_eq_true.1 h1 u hu) h63 hbytes (by show base ≤ (w.alloc (.cells cs e)).heap.size; simp; omega)
  unfold Oper.wp execOp
  simp only [ho, resolve, invoke, builtin, Sem.run_bind, Sem.run_pure, Result.andThen_ok, List.map_toArray, List.map_cons, List.map_nil, hs, hx, hrun]
  have hsz2 : w.heap.size + 1 ≤ w'.heap.size := by have := r2.size; simpa using this
  refine h v' w' r1 ⟨r2.os, r2.tape, r2.output, by omega, fun k hk hne => ?_⟩ (by omega) ?_ ?_
  · rw [r2.block k (by show k < (w.alloc (.cells cs e)).heap.size; simp; omega) hne]
    exact Below.heap_alloc w _ k hk
  · rcases r4 with e' | e'
    · exact .inl e'
    · exact .inr ⟨_, e', by simp⟩
  · intro hpos
    rcases r1.2 with ⟨_, h0⟩ | ⟨g, cap, cur, hv, _⟩
    · omega
    · exact ⟨g, cap, hv⟩
set_option maxRecDepth 100000 in
theorem wide_of : ∀ (k : Nat) (cs : Array Value) (d : D) (w : World), Rep Tryd.prog w (fun b => b < w.heap.size) k 49 cs.toList d → wideF k d
  | 0, _, _, _, h => h.elim
  | k + 1, cs, d, w, h => by
    obtain ⟨A3, c3, A4, c4, rfl, ⟨_, h1, _, _, _⟩, s3, _⟩ := in_val h
    refine ⟨h1, fun i hi => ?_⟩
    obtain ⟨b, off, _, _, hat⟩ := at_val s3 (by omega)
    obtain ⟨_, _, _, _, _, _, _, _, _, r⟩ := hat i hi
    exact wide_of k #[_, _, _, _, _] _ w r
set_option maxRecDepth 100000 in
theorem valF_size {k : Nat} {d : D} (h : Fits Tryd.prog k 49 d) (hw : wideF k d) (hb : bulkD d ≤ 1048576) : (valF k d).length ≤ 8388608 := by
  have := valF_bound k d h hw
  omega
theorem strinfo : (Tryd.prog.info? 9).map (fun i => (i.zero, i.size, i.bytes)) = some (some (.string ⟨#[]⟩), 1, 16) := by kernel_rfl
theorem own_below {w w' : World} {B e s : Nat} {v : Value} {n : Nat} {xs : List Value} (h : w.ownsRow B e s v n xs) (hb : Below w.heap.size w w') : w'.ownsRow B e s v n xs := by
  rcases h.2 with h0 | ⟨g, cap, cur, rfl, hg, hx, r⟩
  · exact ⟨h.1, .inl h0⟩
  · exact ⟨h.1, .inr ⟨g, cap, cur, rfl, hg, (hb.block g (heap_lt hx)).trans hx, r⟩⟩
theorem own_nil (w : World) (B e : Nat) : w.ownsRow B e 1 (.slice none 0 0) 0 [] := ⟨rfl, .inl ⟨rfl, rfl⟩⟩
theorem strs_range (f : Nat → List UInt8) (m : Nat) : strs ((List.range m).map f) ++ [.string (bs (f m))] = strs ((List.range (m + 1)).map f) := by
  rw [List.range_succ, List.map_append, List.map_cons, List.map_nil, strs_snoc]
/-- the text of a list, and of an object -/
def listB (k : Nat) (d : D) : List (List UInt8) := (List.range (d.f 3).l.length).map fun i => valF k (gD (d.f 3).l i)
def pairB (k : Nat) (d : D) (i : Nat) : List UInt8 := (gD (d.f 4).l i).s.data.toList ++ [58, 32] ++ valF k (gD (d.f 3).l i)
def objB (k : Nat) (d : D) : List (List UInt8) := (List.range (min (d.f 4).l.length (d.f 3).l.length)).map (pairB k d)
theorem valF_list {k : Nat} {d : D} (h : (d.f 0).n = 5) : valF (k + 1) d = [91] ++ Lib.join (listB k d) commaB ++ [93] := by
  unfold valF
  rw [if_neg (by omega), if_neg (by omega), if_neg (by omega), if_neg (by omega), if_neg (by omega), if_pos h]; rfl
theorem valF_obj {k : Nat} {d : D} (h : (d.f 0).n = 6) : valF (k + 1) d = [123] ++ Lib.join (objB k d) commaB ++ [125] := by
  unfold valF
  rw [if_neg (by omega), if_neg (by omega), if_neg (by omega), if_neg (by omega), if_neg (by omega), if_neg (by omega), if_pos h]; rfl
theorem valF_bool1 {k : Nat} {d : D} (h : (d.f 0).n = 1) (h1 : (d.f 1).n = 1) : valF (k + 1) d = [116, 114, 117, 101] := by unfold valF; rw [if_pos h, if_pos h1]
theorem valF_bool0 {k : Nat} {d : D} (h : (d.f 0).n = 1) (h1 : (d.f 1).n = 0) : valF (k + 1) d = [102, 97, 108, 115, 101] := by unfold valF; rw [if_pos h, if_neg (by omega)]
theorem valF_int {k : Nat} {d : D} (h : (d.f 0).n = 2) : valF (k + 1) d = Lib.itoa (d.f 1).n := by unfold valF; rw [if_neg (by omega), if_pos h]
theorem valF_text {k : Nat} {d : D} (h : (d.f 0).n = 3) : valF (k + 1) d = quoteU (d.f 2).s.data.toList := by unfold valF; rw [if_neg (by omega), if_neg (by omega), if_pos h]
theorem valF_enum {k : Nat} {d : D} (h : (d.f 0).n = 4) : valF (k + 1) d = (d.f 2).s.data.toList := by unfold valF; rw [if_neg (by omega), if_neg (by omega), if_neg (by omega), if_pos h]
theorem valF_var {k : Nat} {d : D} (h : (d.f 0).n = 7) : valF (k + 1) d = [36] ++ (d.f 2).s.data.toList := by unfold valF; rw [if_neg (by omega), if_neg (by omega), if_neg (by omega), if_neg (by omega), if_pos h]
theorem valF_null {k : Nat} {d : D} (h1 : (d.f 0).n ≠ 1) (h2 : (d.f 0).n ≠ 2) (h3 : (d.f 0).n ≠ 3) (h4 : (d.f 0).n ≠ 4) (h7 : (d.f 0).n ≠ 7) (h5 : (d.f 0).n ≠ 5) (h6 : (d.f 0).n ≠ 6) : valF (k + 1) d = [110, 117, 108, 108] := by
  unfold valF; rw [if_neg h1, if_neg h2, if_neg h3, if_neg h4, if_neg h7, if_neg h5, if_neg h6]
/-- what a value's printing asks -/
structure Vp (k : Nat) (cs : Array Value) (d : D) (w0 : World) : Prop where
  rep : Rep Tryd.prog w0 (fun b => b < w0.heap.size) k 49 cs.toList d
  fits : Fits Tryd.prog k 49 d
  bulk : bulkD d ≤ 1048576
  good : goodF k d
set_option maxRecDepth 100000 in
theorem Vp.text {k : Nat} {cs : Array Value} {d : D} {w0 : World} (h : Vp (k + 1) cs d w0) : (d.f 2).s.size ≤ 1048576 := by
  have hb := h.bulk
  obtain ⟨x0, x1, x2, x3, x4, rfl, h3, h4⟩ := fits49 h.fits
  have hbk : bulkD (D.obj [.int x0, .int x1, .str x2, .list x3, .list x4]) = x2.size + 5 + bulkL x3 + bulkL x4 + 1 := by simp [bulkD, bulkL]; omega
  rw [hbk] at hb
  show x2.size ≤ _
  omega
set_option maxRecDepth 100000 in
theorem Vp.item {k : Nat} {cs : Array Value} {d : D} {w0 : World} (h : Vp (k + 1) cs d w0) : (d.f 3).l.length ≤ 1048576 ∧ (d.f 4).l.length ≤ 1048576 ∧ (∀ i, i < (d.f 4).l.length → (gD (d.f 4).l i).s.size ≤ 1048576) ∧ ∀ i, i < (d.f 3).l.length → ∀ cs', Rep Tryd.prog w0 (fun b => b < w0.heap.size) k 49 cs'.toList (gD (d.f 3).l i) → Vp k cs' (gD (d.f 3).l i) w0 := by
  have hb := h.bulk
  obtain ⟨x0, x1, x2, x3, x4, rfl, h3, h4⟩ := fits49 h.fits
  have hbk : bulkD (D.obj [.int x0, .int x1, .str x2, .list x3, .list x4]) = x2.size + 5 + bulkL x3 + bulkL x4 + 1 := by simp [bulkD, bulkL]; omega
  rw [hbk] at hb
  have e3 : ((D.obj [.int x0, .int x1, .str x2, .list x3, .list x4]).f 3).l = x3 := rfl
  have e4 : ((D.obj [.int x0, .int x1, .str x2, .list x3, .list x4]).f 4).l = x4 := rfl
  rw [e3, e4]
  have hg := h.good.2
  rw [e3] at hg
  have hl : ∀ l : List D, l.length ≤ bulkL l := fun l => by
    rw [bulkL_range]
    have : ∀ n, n ≤ ((List.range n).map fun i => bulkD (gD l i)).sum := fun n => by
      induction n with
      | zero => exact Nat.zero_le _
      | succ n ih =>
        rw [List.range_succ, List.map_append, List.sum_append]
        have : 1 ≤ bulkD (gD l n) := by cases gD l n <;> simp [bulkD]
        simp; omega
    exact this _
  have hl3 := hl x3
  have hl4 := hl x4
  refine ⟨by omega, by omega, fun i hi => ?_, fun i hi cs' hr => ⟨hr, ?_, ?_, hg i hi⟩⟩
  · have := bulk_mem hi
    obtain ⟨s, hs⟩ := fits_str (h4 i hi)
    rw [hs] at this ⊢
    simp only [bulkD] at this
    simp only [D.s]
    omega
  · cases k with
    | zero => exact (h3 i hi).elim
    | succ k => exact (h3 i hi).up
  · have := bulk_mem hi
    omega
set_option maxRecDepth 100000 in
set_option maxHeartbeats 16000000 in
theorem valueP : ∀ (k : Nat) (cs : Array Value) (d : D) (w0 w : World), EnvT w → Below w0.heap.size w0 w → Vp k cs d w0 → Calls Tryd.prog 42 #[.agg cs] w (St (valF k d) w) := by
  intro k
  induction k with
  | zero => intro cs d w0 w _ _ h; exact h.rep.elim
  | succ k ih =>
    intro cs d w0 w he h0 hv
    have hsize := valF_size hv.fits (wide_of _ _ _ _ hv.rep) hv.bulk
    obtain ⟨A3, c3, A4, c4, rfl, ⟨hr0, hr1, -, hlen, hlen4⟩, s3, s4⟩ := in_val hv.rep
    have HB := Lib.hid (fun o => (Below.refl w.heap.size w).alloc (Nat.le_refl _) o)
    have HE := Lib.hid he; have H0 := Lib.hid h0; have S3 := Lib.hid s3; have S4 := Lib.hid s4; have IH := Lib.hid ih
    obtain ⟨i1, i2, i3, i4⟩ := hv.item
    have hts := hv.text
    have HG := Lib.hid hv.good.1
    have I3 := Lib.hid i3; have I4 := Lib.hid i4
    clear he h0 hv s3 s4 ih i3 i4
    by_cases q5 : (d.f 0).n = 5
    · have HX := Lib.hid (valF_list (k := k) q5)
      rw [HX.out] at hsize
      simp only [List.length_append, List.length_cons, List.length_nil] at hsize
      have HS := Lib.hid hsize; clear hsize
      go_enter Tryd.func42, Tryd.ntmps42
      go_wp2_with fail
      clear q5
      go_loopg [3, 38] (d.f 3).l.length (fun j v i wr => ∃ m : Nat, m + j = (d.f 3).l.length ∧ i = .int .i64 m ∧ wr.ownsRow (w.heap.size + 1) 9 1 v m (strs ((List.range m).map fun i => valF k (gD (d.f 3).l i))) ∧ Below w.heap.size w wr ∧ w.heap.size + 1 ≤ wr.heap.size)
      case atStart => exact ⟨0, by omega, rfl, own_nil _ _ _, HB.out _, by simp⟩
      case round =>
        obtain ⟨m, hmj, rfl, hown, hb, hsz⟩ := hrel
        have Hb := Lib.hid hb; have Hown := Lib.hid hown
        have Hmj := Lib.hid hmj; have hmn : m ≤ (d.f 3).l.length := by omega
        clear hmj hb hown
        by_cases hlt : m < (d.f 3).l.length
        · obtain ⟨b, off, rfl, hI, hat⟩ := at_val S3.out (by omega)
          obtain ⟨A3', c3', A4', c4', e0, e1, e2, e3, e4, rv⟩ := hat m hlt
          have Rv' := Lib.hid rv
          clear hat rv
          replace e0 := ((H0.out.trans (Hb.out.mono H0.out.size)).cell (p := ⟨b, _, none⟩) hI).trans e0
          replace e1 := ((H0.out.trans (Hb.out.mono H0.out.size)).cell (p := ⟨b, _, none⟩) hI).trans e1
          replace e2 := ((H0.out.trans (Hb.out.mono H0.out.size)).cell (p := ⟨b, _, none⟩) hI).trans e2
          replace e3 := ((H0.out.trans (Hb.out.mono H0.out.size)).cell (p := ⟨b, _, none⟩) hI).trans e3
          replace e4 := ((H0.out.trans (Hb.out.mono H0.out.size)).cell (p := ⟨b, _, none⟩) hI).trans e4
          have hb3 : Below w.heap.size w (wr.alloc (.cells #[.int .i64 ((gD (d.f 3).l m).f 0).n, .int .i64 ((gD (d.f 3).l m).f 1).n, .string ((gD (d.f 3).l m).f 2).s, .slice A3' ((gD (d.f 3).l m).f 3).l.length c3', .slice A4' ((gD (d.f 3).l m).f 4).l.length c4'] 49)) := Hb.out.alloc Hb.out.size _
          have hb4 : Below wr.heap.size wr (wr.alloc (.cells #[.int .i64 ((gD (d.f 3).l m).f 0).n, .int .i64 ((gD (d.f 3).l m).f 1).n, .string ((gD (d.f 3).l m).f 2).s, .slice A3' ((gD (d.f 3).l m).f 3).l.length c3', .slice A4' ((gD (d.f 3).l m).f 4).l.length c4'] 49)) := (Below.refl _ _).alloc (Nat.le_refl _) _
          have HB3 := Lib.hid hb3; have HB4 := Lib.hid hb4; clear hb3 hb4
          go_wp2_with fail
          refine (IH.out _ (gD (d.f 3).l m) w0 _ (HE.out.below HB3.out) (H0.out.trans (HB3.out.mono H0.out.size)) (I4.out m hlt _ Rv'.out)).mono ?_
          rintro e w2 ⟨rfl, b2⟩
          have Hb2 := Lib.hid (HB3.out.trans (b2.mono HB3.out.size))
          have Hown2 := Lib.hid (own_below (own_below Hown.out HB4.out) b2)
          have hsz2 : w.heap.size + 1 ≤ w2.heap.size := Nat.le_trans hsz (Nat.le_trans HB4.out.size b2.size)
          clear b2 e0 e1 e2 e3 e4
          go_wp2_with (at_builtin; refine append_new (o := ⟨some 46, _, _, _, _, _⟩) rfl (.tmp 42) (.tmp 45) 47 rfl (w.heap.size + 1) 9 _ 1 16 Tryd.underlying47 strinfo rfl (by decide) _ _ _ Hown2.out #[.string (bs (valF k (gD (d.f 3).l m)))] 1 rfl rfl rfl rfl (by simp only [maxLen]; omega) (by omega) hsz2 ?_; intro v' w' hown' hg' hsz' hat' hsh')
          have HO := Lib.hid (show w'.ownsRow (w.heap.size + 1) 9 1 v' (m + 1) (strs ((List.range (m + 1)).map fun i => valF k (gD (d.f 3).l i))) by rw [← strs_range]; exact hown')
          have HBn := Lib.hid (Hb2.out.grown hg' Hb2.out.size (fun y hy => by have := (Hown2.out.lt y hy).1; omega))
          have hsz3 : w.heap.size + 1 ≤ w'.heap.size := by omega
          clear hown' hg' hsz' hat' hsh'
          go_roundg ((d.f 3).l.length - m - 1)
          case measure => have := Hmj.out; omega
          case rel => exact ⟨m + 1, by have := Hmj.out; omega, by go_num, HO.out, HBn.out, hsz3⟩
        · obtain rfl : m = (d.f 3).l.length := by omega
          have HS2 := HS.out
          have HJ := Lib.hid (strJoinP commaB wr Hown.out (by omega) (by show (Lib.join (listB k d) commaB).length ≤ _; omega))
          have HX2 := Lib.hid (show bs (valF (k + 1) d) = bs [91] ++ bs (Lib.join (listB k d) commaB) ++ bs [93] by rw [HX.out, bs_append, bs_append])
          have hz : (bs (Lib.join (listB k d) commaB)).size ≤ 8388608 := by rw [bs_size]; omega
          have HJ : Hid (Calls Tryd.prog 76 #[_, .string ⟨#[44, 32]⟩] wr (fun e w' => e = .returned (.string (bs (Lib.join (listB k d) commaB))) ∧ Below wr.heap.size wr w')) := HJ
          generalize bs (Lib.join (listB k d) commaB) = t at *
          clear HS2
          go_wp2_with fail
          refine HJ.out.mono ?_
          rintro e w2 ⟨rfl, b2⟩
          have Hb2 := Lib.hid (Hb.out.trans (b2.mono Hb.out.size)); clear b2
          go_wp2
          go_ret
          exact ⟨by rw [HX2.out]; rfl, Hb2.out⟩
    by_cases q6 : (d.f 0).n = 6
    · have HX := Lib.hid (valF_obj (k := k) q6)
      rw [HX.out] at hsize
      simp only [List.length_append, List.length_cons, List.length_nil] at hsize
      have HS := Lib.hid hsize; clear hsize
      obtain ⟨nn, hnn⟩ : ∃ nn, nn = min (d.f 4).l.length (d.f 3).l.length := ⟨_, rfl⟩
      have hnn1 : nn ≤ (d.f 4).l.length := by omega
      have hnn2 : nn ≤ (d.f 3).l.length := by omega
      have HNN := Lib.hid hnn
      have hmin : min ((d.f 4).l.length : Int) ((d.f 3).l.length : Int) = (nn : Int) := by omega
      clear hnn
      go_enter Tryd.func42, Tryd.ntmps42
      go_wp2_with fail
      clear q6 hmin
      go_loopg [3, 61] nn (fun j v i wr => ∃ m : Nat, m + j = nn ∧ i = .int .i64 m ∧ wr.ownsRow (w.heap.size + 1) 9 1 v m (strs ((List.range m).map (pairB k d))) ∧ Below w.heap.size w wr ∧ w.heap.size + 1 ≤ wr.heap.size ∧ wr.heap[w.heap.size]? = some (.cells #[.int .i64 6, .int .i64 (d.f 1).n, .string (d.f 2).s, .slice A3 (d.f 3).l.length c3, .slice A4 (d.f 4).l.length c4] 49 (0, 0)))
      case atStart => exact ⟨0, by omega, rfl, own_nil _ _ _, HB.out _, by simp, heap_at rfl⟩
      case round =>
        obtain ⟨m, hmj, rfl, hown, hb, hsz, hx⟩ := hrel
        have Hb := Lib.hid hb; have Hown := Lib.hid hown; have Hx := Lib.hid hx
        have Hmj := Lib.hid hmj; have hmn : m ≤ nn := by omega
        clear hmj hb hown hx
        by_cases hlt : m < nn
        · obtain ⟨b, off, rfl, hI, hat⟩ := at_val S3.out (by omega)
          obtain ⟨A3', c3', A4', c4', e0, e1, e2, e3, e4, rv⟩ := hat m (by omega)
          obtain ⟨bk, offk, rfl, hIk, hatk⟩ := at_str ⟨_, S4.out⟩ (by omega)
          obtain ⟨ek, -⟩ := hatk m (by omega)
          have hks := I3.out m (by omega)
          have Rv' := Lib.hid (I4.out m (by omega) _ rv)
          have hvs : (bs (valF k (gD (d.f 3).l m))).size ≤ 8388608 := by rw [bs_size]; exact valF_size Rv'.out.fits (wide_of _ _ _ _ Rv'.out.rep) Rv'.out.bulk
          clear hat hatk rv
          have hB := H0.out.trans (Hb.out.mono H0.out.size)
          have k3 : wr.cell? ⟨w.heap.size, 3, none⟩ = some (.slice (some ⟨b, off, none⟩) (d.f 3).l.length c3) := cell_heap Hx.out rfl
          have k4 : wr.cell? ⟨w.heap.size, 4, none⟩ = some (.slice (some ⟨bk, offk, none⟩) (d.f 4).l.length c4) := cell_heap Hx.out rfl
          have l0 := heap_lt Hx.out
          have ek' := (hB.cell (p := ⟨bk, _, none⟩) hIk).trans ek
          replace e0 := (hB.cell (p := ⟨b, _, none⟩) hI).trans e0
          replace e1 := (hB.cell (p := ⟨b, _, none⟩) hI).trans e1
          replace e2 := (hB.cell (p := ⟨b, _, none⟩) hI).trans e2
          replace e3 := (hB.cell (p := ⟨b, _, none⟩) hI).trans e3
          replace e4 := (hB.cell (p := ⟨b, _, none⟩) hI).trans e4
          have lb : b < w.heap.size + 1 := by have := H0.out.size; omega
          have lk : bk < w.heap.size + 1 := by have := H0.out.size; omega
          have lv : w.heap.size < w.heap.size + 1 := Nat.lt_succ_self _
          have HSS := Lib.hid (fun w' (h : Below (w.heap.size + 1) wr w') => (⟨h, (h.cell (p := ⟨w.heap.size, _, none⟩) lv).trans k3, (h.cell (p := ⟨w.heap.size, _, none⟩) lv).trans k4, (h.cell (p := ⟨bk, _, none⟩) lk).trans ek', (h.cell (p := ⟨b, _, none⟩) lb).trans e0, (h.cell (p := ⟨b, _, none⟩) lb).trans e1, (h.cell (p := ⟨b, _, none⟩) lb).trans e2, (h.cell (p := ⟨b, _, none⟩) lb).trans e3, (h.cell (p := ⟨b, _, none⟩) lb).trans e4⟩ : (Below (w.heap.size + 1) wr w' ∧ w'.cell? ⟨w.heap.size, 3, none⟩ = some (.slice (some ⟨b, off, none⟩) (d.f 3).l.length c3) ∧ w'.cell? ⟨w.heap.size, 4, none⟩ = some (.slice (some ⟨bk, offk, none⟩) (d.f 4).l.length c4) ∧ w'.cell? ⟨bk, offk + m, none⟩ = some (.string (gD (d.f 4).l m).s) ∧ w'.cell? ⟨b, off + m * 5, none⟩ = some (.int .i64 ((gD (d.f 3).l m).f 0).n) ∧ w'.cell? ⟨b, off + m * 5 + 1, none⟩ = some (.int .i64 ((gD (d.f 3).l m).f 1).n) ∧ w'.cell? ⟨b, off + m * 5 + 2, none⟩ = some (.string ((gD (d.f 3).l m).f 2).s) ∧ w'.cell? ⟨b, off + m * 5 + 3, none⟩ = some (.slice A3' ((gD (d.f 3).l m).f 3).l.length c3') ∧ w'.cell? ⟨b, off + m * 5 + 4, none⟩ = some (.slice A4' ((gD (d.f 3).l m).f 4).l.length c4'))))
          have Hc := Lib.hid (Below.refl (w.heap.size + 1) wr)
          have HPB := Lib.hid (show bs (pairB k d m) = (gD (d.f 4).l m).s ++ ⟨#[58, 32]⟩ ++ bs (valF k (gD (d.f 3).l m)) by
            have p1 := bs_append ((gD (d.f 4).l m).s.data.toList ++ [58, 32]) (valF k (gD (d.f 3).l m))
            have p2 := bs_append (gD (d.f 4).l m).s.data.toList [58, 32]
            rw [bs_self] at p2
            unfold pairB
            rw [← p1, ← p2]; rfl)
          have hm1 : (m : Int) < ((d.f 4).l.length : Int) := by omega
          have hm2 : (m : Int) < ((d.f 3).l.length : Int) := by omega
          clear e0 e1 e2 e3 e4 ek ek' k3 k4 hB
          have y1 : ((gD (d.f 4).l m).s ++ (⟨#[58, 32]⟩ : ByteArray)).size = (gD (d.f 4).l m).s.size + 2 := by rw [ByteArray.size_append]; rfl
          have r1 := fun (w : World) => run_string_add_sum (P := Tryd.prog) (w := w) (gD (d.f 4).l m).s ⟨#[58, 32]⟩ (by rw [← ByteArray.size_append]; omega)
          have r2 := fun (w : World) => run_string_add_sum (P := Tryd.prog) (w := w) ((gD (d.f 4).l m).s ++ ⟨#[58, 32]⟩) (bs (valF k (gD (d.f 3).l m))) (by omega)
          clear y1
          go_wp2
          go_region_held3 (fun w' => Below (w.heap.size + 1) wr w' ∧ w'.cell? ⟨w.heap.size, 3, none⟩ = some (.slice (some ⟨b, off, none⟩) (d.f 3).l.length c3) ∧ w'.cell? ⟨w.heap.size, 4, none⟩ = some (.slice (some ⟨bk, offk, none⟩) (d.f 4).l.length c4) ∧ w'.cell? ⟨bk, offk + m, none⟩ = some (.string (gD (d.f 4).l m).s) ∧ w'.cell? ⟨b, off + m * 5, none⟩ = some (.int .i64 ((gD (d.f 3).l m).f 0).n) ∧ w'.cell? ⟨b, off + m * 5 + 1, none⟩ = some (.int .i64 ((gD (d.f 3).l m).f 1).n) ∧ w'.cell? ⟨b, off + m * 5 + 2, none⟩ = some (.string ((gD (d.f 3).l m).f 2).s) ∧ w'.cell? ⟨b, off + m * 5 + 3, none⟩ = some (.slice A3' ((gD (d.f 3).l m).f 3).l.length c3') ∧ w'.cell? ⟨b, off + m * 5 + 4, none⟩ = some (.slice A4' ((gD (d.f 3).l m).f 4).l.length c4'))
            (first | exact HSS.out _ Hc.out | exact HSS.out _ Hc.out.drew | exact HSS.out _ (Hc.out.alloc (Nat.le_trans hsz Hsz2.out) _))
            (first
              | (go_at_call 42; refine (IH.out _ (gD (d.f 3).l m) w0 _ (HE.out.below Hb.out.drew) (H0.out.trans (Hb.out.drew.mono H0.out.size)) Rv'.out).mono ?_; rintro e w2 ⟨rfl, b2⟩; clear Hc; have Hown2 := Lib.hid (own_below Hown.out ((Below.refl wr.heap.size wr).drew.trans b2)); have Hc := Lib.hid ((Below.refl (w.heap.size + 1) wr).drew.trans (b2.mono hsz)); have Hsz2 := Lib.hid (b2.size); have Hbw := Lib.hid (Hb.out.drew.trans (b2.mono Hb.out.size)); clear b2)
              | (rw [if_pos (show Region.wanted _ _ = true from rfl)]; refine wp_new0 (o := ⟨some 79, _, _, _, _, _⟩) rfl (.tmp 64) (.tmp 78) 47 rfl (w.heap.size + 1) 9 _ 1 16 Tryd.underlying47 strinfo rfl (by decide) _ _ _ Hown2.out #[.string ((gD (d.f 4).l m).s ++ ⟨#[58, 32]⟩ ++ bs (valF k (gD (d.f 3).l m)))] 1 rfl rfl ?_ ?_ ?_ ?_ ?_ ?_; rfl; rfl; (simp only [maxLen]; omega); omega; exact Nat.le_trans hsz Hsz2.out; intro v' w' hown' hg' hsz' hat' hsh'; have Ho := Hc; clear Hc; have Hc := Lib.hid (Ho.out.grown hg' (Nat.le_trans hsz Hsz2.out) (fun y hy => (Hown2.out.lt y hy).1)); have Hbn := Lib.hid (Hbw.out.grown hg' Hbw.out.size (fun y hy => by have := (Hown2.out.lt y hy).1; omega)); have Hzn := Lib.hid (Nat.le_trans (Nat.le_trans hsz Hsz2.out) (Nat.le_of_lt hsz')); have Hon := Lib.hid hown'; clear Ho hown' hg' hsz' hat' hsh'))
          have HO := Lib.hid (show w'.ownsRow (w.heap.size + 1) 9 1 v' (m + 1) (strs ((List.range (m + 1)).map (pairB k d))) by rw [← strs_range, HPB.out]; exact Hon.out)
          have Hxn := Lib.hid ((Hc.out.block _ lv).trans Hx.out)
          go_wp2
          go_roundg (nn - m - 1)
          case measure => have := Hmj.out; omega
          case rel => exact ⟨m + 1, by have := Hmj.out; omega, by go_num, HO.out, Hbn.out, Hzn.out, Hxn.out⟩
        · obtain rfl : nn = m := by omega
          have HS2 := HS.out
          have hob : objB k d = (List.range nn).map (pairB k d) := by unfold objB; rw [HNN.out]
          have HJ := Lib.hid (strJoinP commaB wr (ls := objB k d) (by rw [hob]; exact Hown.out) (by omega) (by omega))
          clear hob
          have HX2 := Lib.hid (show bs (valF (k + 1) d) = bs [123] ++ bs (Lib.join (objB k d) commaB) ++ bs [125] by rw [HX.out, bs_append, bs_append])
          have hz : (bs (Lib.join (objB k d) commaB)).size ≤ 8388608 := by rw [bs_size]; omega
          have HJ : Hid (Calls Tryd.prog 76 #[_, .string ⟨#[44, 32]⟩] wr (fun e w' => e = .returned (.string (bs (Lib.join (objB k d) commaB))) ∧ Below wr.heap.size wr w')) := HJ
          generalize bs (Lib.join (objB k d) commaB) = t at *
          clear HS2
          go_wp2_with fail
          refine HJ.out.mono ?_
          rintro e w2 ⟨rfl, b2⟩
          have Hb2 := Lib.hid (Hb.out.trans (b2.mono Hb.out.size)); clear b2
          go_wp2
          go_ret
          exact ⟨by rw [HX2.out]; rfl, Hb2.out⟩
    clear S3 S4 IH I3 I4
    have HBw := Lib.hid (HB.out (.cells #[.int .i64 (d.f 0).n, .int .i64 (d.f 1).n, .string (d.f 2).s, .slice A3 (d.f 3).l.length c3, .slice A4 (d.f 4).l.length c4] 49))
    by_cases q1 : (d.f 0).n = 1
    · rcases HG.out q1 with i | i
      · have HX := Lib.hid (valF_bool0 (k := k) q1 i)
        go_enter Tryd.func42, Tryd.ntmps42
        go_wp2
        go_ret
        exact ⟨by rw [HX.out]; rfl, HB.out _⟩
      · have HX := Lib.hid (valF_bool1 (k := k) q1 i)
        go_enter Tryd.func42, Tryd.ntmps42
        go_wp2
        go_ret
        exact ⟨by rw [HX.out]; rfl, HB.out _⟩
    by_cases q2 : (d.f 0).n = 2
    · have HX := Lib.hid (valF_int (k := k) q2)
      have HC := Lib.hid (fun w he => decimalT (d.f 1).n hr1.1 hr1.2 w he)
      go_enter Tryd.func42, Tryd.ntmps42
      go_wp2_with fail
      refine (HC.out _ (HE.out.below (HB.out _))).mono ?_
      rintro e w2 ⟨rfl, b2⟩
      have Hb2 := Lib.hid ((HB.out _).trans (b2.mono (HB.out _).size)); clear b2
      go_wp2
      go_ret
      exact ⟨by rw [HX.out]; rfl, Hb2.out⟩
    by_cases q3 : (d.f 0).n = 3
    · have HX := Lib.hid (valF_text (k := k) q3)
      have HC := Lib.hid (fun w => quoteP (d.f 2).s w hts)
      go_enter Tryd.func42, Tryd.ntmps42
      go_wp2_with fail
      refine (HC.out _).mono ?_
      rintro e w2 ⟨rfl, b2⟩
      have Hb2 := Lib.hid ((HB.out _).trans (b2.mono (HB.out _).size)); clear b2
      go_wp2
      go_ret
      exact ⟨by rw [HX.out]; rfl, Hb2.out⟩
    by_cases q4 : (d.f 0).n = 4
    · have HX := Lib.hid (valF_enum (k := k) q4)
      go_enter Tryd.func42, Tryd.ntmps42
      go_wp2
      go_ret
      exact ⟨by rw [HX.out, bs_self]; rfl, HB.out _⟩
    by_cases q7 : (d.f 0).n = 7
    · have HX := Lib.hid (show bs (valF (k + 1) d) = bs [36] ++ (d.f 2).s by rw [valF_var q7, ← bs_append, bs_self])
      go_enter Tryd.func42, Tryd.ntmps42
      go_wp2
      go_ret
      exact ⟨by rw [HX.out]; rfl, HB.out _⟩
    · have HX := Lib.hid (valF_null (k := k) q1 q2 q3 q4 q7 q5 q6)
      go_enter Tryd.func42, Tryd.ntmps42
      go_wp2
      go_ret
      exact ⟨by rw [HX.out]; rfl, HB.out _⟩
end Go.Proofs.YtohneabalakmeaaDoor
