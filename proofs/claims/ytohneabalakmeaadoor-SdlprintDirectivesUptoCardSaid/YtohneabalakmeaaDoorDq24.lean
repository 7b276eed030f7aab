/- Parts of a proof, merged by a program (shake.py). -/
import Derived.Test.YtohneabalakmeaaDoorCards
import Derived.Test.YtohneabalakmeaaDoorTie
import Derived.ProofKit
import Derived.OpenShut
import Derived.Deep.DeepHandedRow
import Derived.Test.YtohneabalakmeaaDoorRows
import Derived.Test.YtohneabalakmeaaDoorDq23
namespace Go.Proofs.YtohneabalakmeaaDoor
open Go.ChangeShapes Go.WideShapes Go.ChangeAt Go.RowKit
attribute [local irreducible] wpList Calls Code.wp
theorem own : ownKnob Tryd.prog.godebug = none := by kernel_rfl
theorem laidOut' : laidOutB Tryd.prog = true := by kernel_rfl
theorem gPow : Tryd.prog.globalNamed "internal/strconv.uint64pow10" = some 3 := by kernel_rfl
theorem tab_of_row {P : Program} {W : World} {g : Nat} {n : String} {t e : TypeId} {m : Nat} {k : IntKind} {zs : List Int} (hg : P.globalNamed n = some g) (hty : (P.globals[g]?).map (·.type) = some t) (ht : P.underlying t = some (.array m e)) (he : P.underlying e = some (.int k)) (hce : P.cellsOf e = 1) (hct : P.cellsOf t = m)
    (h : ∃ g t cs fuel p, P.globalNamed n = some g ∧ (P.globals[g]?).map (·.type) = some t ∧ W.var? P n = some cs ∧ DataW.trod (fun _ => ()) P W 0 (fun _ => true) false fuel t cs.toList = some (Lib.tabData k zs, p)) : Lib.TabIs P W n k zs := by
  obtain ⟨g', t', cs, fuel, p, hg', ht', hvar, hd⟩ := h
  obtain rfl := Option.some.inj (hg.symm.trans hg')
  obtain rfl := Option.some.inj (hty.symm.trans ht')
  unfold Lib.TabIs
  rw [hvar, ← Lib.cells_of_tab ht he hce hct hd]
theorem gPowT : (Tryd.prog.globals[3]?).map (·.type) = some 179 := by kernel_rfl
theorem types_ok (ts : List TypeId) (h : (ts.all fun t => Tryd.prog.readableRec t && decide (t < Tryd.prog.types.size)) = true) : ∀ t ∈ ts, Tryd.prog.readableRec t = true ∧ t < Tryd.prog.types.size := by
  intro t ht
  have := List.all_eq_true.1 h t ht
  simpa using this
def tab32 : List Int := [0, 1, 28, 2, 29, 14, 24, 3, 30, 22, 20, 15, 25, 17, 4, 8, 31, 27, 13, 23, 21, 19, 16, 7, 26, 12, 18, 6, 11, 5, 10, 9]
def tab64 : List Int := [0, 1, 56, 2, 57, 49, 28, 3, 61, 58, 42, 50, 38, 29, 17, 4, 62, 47, 59, 36, 45, 43, 51, 22, 53, 39, 33, 30, 24, 18, 12, 5, 63, 55, 48, 27, 60, 41, 37, 16, 46, 35, 44, 21, 52, 32, 23, 11, 54, 26, 40, 15, 34, 20, 31, 10, 25, 14, 19, 9, 13, 8, 7, 6]
/-- cells laid into a block -/
def relay (cs : Array Value) : Obj → Obj
  | .cells _ t frozen => .cells cs t frozen
  | o => o
/-- a world for the witness: what the rows list, laid -/
noncomputable def laidWorld (os : Os) : World :=
  let w := World.holding Tryd.prog os ⟨#[], #[], []⟩
  let n := w.heap.size
  { w with heap := ((((((w.heap.modify 4 (relay (tab32.map fun z => Value.int .u8 z).toArray)).modify 5 (relay (tab64.map fun z => Value.int .u8 z).toArray)).modify 3 (relay (Lib.pow10Tab.map fun z => Value.int .u64 z).toArray)).modify 1
      (relay #[.iface 174 (.pointer (some ⟨n, 0, none⟩))])).modify 0 (relay #[.iface 174 (.pointer (some ⟨n + 1, 0, none⟩))])).push
      (.cells #[.string ⟨#[118, 97, 108, 117, 101, 32, 111, 117, 116, 32, 111, 102, 32, 114, 97, 110, 103, 101]⟩] 176)).push (.cells #[.string ⟨#[105, 110, 118, 97, 108, 105, 100, 32, 115, 121, 110, 116, 97, 120]⟩] 176) }
end Go.Proofs.YtohneabalakmeaaDoor
namespace Go.Proofs.YtohneabalakmeaaDoor
open Go.RowKit
attribute [local irreducible] wpList Calls Code.wp
/-- what the reference's text finds of a numeral: the digits d, the sign -/
structure Rn (l : List UInt8) (d : ByteArray) (ng : Bool) : Prop where
  empty : d.size = 0 → numU l = Lib.NumEnd.syntax
  zero : 0 < d.size → bV d 0 = 48 → (1 < d.size ∨ ng = true) → numU l = Lib.NumEnd.syntax
  bad : ∀ x, x < d.size → digB (bV d x) = false → numU l = Lib.NumEnd.syntax
  good : 0 < d.size → ¬ (bV d 0 = 48 ∧ (1 < d.size ∨ ng = true)) → (∀ k, k < d.size → digB (bV d k) = true) →
    numU l = if ng = true then (if decV 0 (tk d d.size) ≤ 9223372036854775808 then .ok (-(decV 0 (tk d d.size) : Int)) else .range) else if decV 0 (tk d d.size) < 9223372036854775808 then .ok (decV 0 (tk d d.size)) else .range
  mono : ∀ m, decV 0 (tk d m) ≤ decV 0 (tk d d.size)
theorem bs_self (s : ByteArray) : bs s.data.toList = s := by cases s; simp [bs]
end Go.Proofs.YtohneabalakmeaaDoor
namespace Go.Proofs.YtohneabalakmeaaDoor
open Go.RowKit
attribute [local irreducible] wpList Calls Code.wp
theorem itoa_size (n : Int) (h0 : -9223372036854775808 ≤ n) (h1 : n ≤ 9223372036854775807) : (bs (Lib.itoa n)).size ≤ 21 := by
  rw [bs_size]
  unfold Lib.itoa
  split
  · have := dec_len (u := n.natAbs) (by omega)
    simp only [List.length_cons]; omega
  · have := dec_len (u := n.toNat) (by omega)
    omega
end Go.Proofs.YtohneabalakmeaaDoor
namespace Go.Proofs.YtohneabalakmeaaDoor
open Go.RowKit
attribute [local irreducible] wpList Calls Code.wp
theorem heap_lt {w : World} {b : Nat} {o : Obj} (h : w.heap[b]? = some o) : b < w.heap.size := by
  rcases Nat.lt_or_ge b w.heap.size with h' | h'
  · exact h'
  · rw [Array.getElem?_eq_none h'] at h; cases h
theorem cell_heap {w : World} {b o : Nat} {cs : Array Value} {t : TypeId} {fz : Nat × Nat} {x : Value} (h : w.heap[b]? = some (.cells cs t fz)) (hx : cs[o]? = some x) : w.cell? ⟨b, o, none⟩ = some x := by
  rw [cell_of_row w b o cs t fz h]; exact hx
end Go.Proofs.YtohneabalakmeaaDoor
namespace Go.Proofs.YtohneabalakmeaaDoor
open Go.RowKit
variable {w : World} {I : Nat → Prop} {k : Nat} {cs : List Value} {d : D}
theorem cells3 : Tryd.prog.cellsOf 3 = 1 := by kernel_rfl
theorem cells4 : Tryd.prog.cellsOf 4 = 1 := by kernel_rfl
theorem cells42 : Tryd.prog.cellsOf 42 = 1 := by kernel_rfl
theorem cells40 : Tryd.prog.cellsOf 40 = 1 := by kernel_rfl
theorem cells58 : Tryd.prog.cellsOf 58 = 7 := by kernel_rfl
set_option maxRecDepth 100000 in
theorem open42 (h : Rep Tryd.prog w I (k + 1) 42 cs d) : ∃ (A0 : Option Addr) (c0 : Nat), cs = [.slice A0 (d.f 0).l.length c0] ∧ ((d.f 0).l.length ≤ c0 ∧ c0 ≤ maxLen ∧ (A0 = none → c0 = 0) ∧ Sl Tryd.prog w I k 58 A0 (d.f 0).l) := by
  obtain ⟨hl, hf⟩ := h.struct Tryd.underlying42
  rw [cells42] at hl
  match cs, hl, hf with
  | [x0], _, hf =>
    have g0 : Rep Tryd.prog w I k 40 (([x0].drop 0).take (Tryd.prog.cellsOf 40)) (d.f 0) := hf 0 _ rfl
    simp only [cells40, List.drop_zero, List.drop_succ_cons, List.take_succ_cons, List.take_zero] at g0
    obtain ⟨a0, b0, e0, r0⟩ := g0.sliceAny Tryd.underlying40
    simp only [List.cons.injEq, and_true] at e0
    rw [e0]
    exact ⟨a0, b0, rfl, r0⟩
set_option maxRecDepth 100000 in
theorem open42_any (h : Rep Tryd.prog w I k 42 cs d) : ∃ (A0 : Option Addr) (c0 : Nat), cs = [.slice A0 (d.f 0).l.length c0] ∧ ((d.f 0).l.length ≤ c0 ∧ c0 ≤ maxLen ∧ (A0 = none → c0 = 0) ∧ Sl Tryd.prog w I k 58 A0 (d.f 0).l) := by
  cases k with
  | zero => exact h.elim
  | succ k =>
    obtain ⟨A0, c0, rfl, ⟨s0a, s0b, s0c, s0⟩⟩ := open42 h
    exact ⟨A0, c0, rfl, ⟨s0a, s0b, s0c, s0.up⟩⟩
theorem cells49 : Tryd.prog.cellsOf 49 = 5 := by kernel_rfl
theorem cells9 : Tryd.prog.cellsOf 9 = 1 := by kernel_rfl
theorem cells46 : Tryd.prog.cellsOf 46 = 1 := by kernel_rfl
theorem cells47 : Tryd.prog.cellsOf 47 = 1 := by kernel_rfl
set_option maxRecDepth 100000 in
theorem open49 (h : Rep Tryd.prog w I (k + 1) 49 cs d) : ∃ (A3 : Option Addr) (c3 : Nat) (A4 : Option Addr) (c4 : Nat), cs = [.int .i64 (d.f 0).n, .int .i64 (d.f 1).n, .string (d.f 2).s, .slice A3 (d.f 3).l.length c3, .slice A4 (d.f 4).l.length c4] ∧ (Lit.int .i64 (d.f 0).n).wf = true ∧ (Lit.int .i64 (d.f 1).n).wf = true ∧ (d.f 2).s.size ≤ maxLen ∧ ((d.f 3).l.length ≤ c3 ∧ c3 ≤ maxLen ∧ (A3 = none → c3 = 0) ∧ Sl Tryd.prog w I k 49 A3 (d.f 3).l) ∧ ((d.f 4).l.length ≤ c4 ∧ c4 ≤ maxLen ∧ (A4 = none → c4 = 0) ∧ Sl Tryd.prog w I k 9 A4 (d.f 4).l) := by
  obtain ⟨hl, hf⟩ := h.struct Tryd.underlying49
  rw [cells49] at hl
  match cs, hl, hf with
  | [x0, x1, x2, x3, x4], _, hf =>
    have g0 : Rep Tryd.prog w I k 3 (([x0, x1, x2, x3, x4].drop 0).take (Tryd.prog.cellsOf 3)) (d.f 0) := hf 0 _ rfl
    simp only [cells3, List.drop_zero, List.drop_succ_cons, List.take_succ_cons, List.take_zero] at g0
    obtain ⟨e0, r0⟩ := g0.int Tryd.underlying3
    have g1 : Rep Tryd.prog w I k 3 (([x0, x1, x2, x3, x4].drop 1).take (Tryd.prog.cellsOf 3)) (d.f 1) := hf 1 _ rfl
    simp only [cells3, List.drop_zero, List.drop_succ_cons, List.take_succ_cons, List.take_zero] at g1
    obtain ⟨e1, r1⟩ := g1.int Tryd.underlying3
    have g2 : Rep Tryd.prog w I k 9 (([x0, x1, x2, x3, x4].drop 2).take (Tryd.prog.cellsOf 9)) (d.f 2) := hf 2 _ rfl
    simp only [cells9, List.drop_zero, List.drop_succ_cons, List.take_succ_cons, List.take_zero] at g2
    obtain ⟨e2, r2⟩ := g2.str Tryd.underlying9
    have g3 : Rep Tryd.prog w I k 46 (([x0, x1, x2, x3, x4].drop 3).take (Tryd.prog.cellsOf 46)) (d.f 3) := hf 3 _ rfl
    simp only [cells46, List.drop_zero, List.drop_succ_cons, List.take_succ_cons, List.take_zero] at g3
    obtain ⟨a3, b3, e3, r3⟩ := g3.sliceAny Tryd.underlying46
    have g4 : Rep Tryd.prog w I k 47 (([x0, x1, x2, x3, x4].drop 4).take (Tryd.prog.cellsOf 47)) (d.f 4) := hf 4 _ rfl
    simp only [cells47, List.drop_zero, List.drop_succ_cons, List.take_succ_cons, List.take_zero] at g4
    obtain ⟨a4, b4, e4, r4⟩ := g4.sliceAny Tryd.underlying47
    simp only [List.cons.injEq, and_true] at e0 e1 e2 e3 e4
    rw [e0, e1, e2, e3, e4]
    exact ⟨a3, b3, a4, b4, rfl, r0, r1, r2, r3, r4⟩
set_option maxRecDepth 100000 in
theorem open49_any (h : Rep Tryd.prog w I k 49 cs d) : ∃ (A3 : Option Addr) (c3 : Nat) (A4 : Option Addr) (c4 : Nat), cs = [.int .i64 (d.f 0).n, .int .i64 (d.f 1).n, .string (d.f 2).s, .slice A3 (d.f 3).l.length c3, .slice A4 (d.f 4).l.length c4] ∧ (Lit.int .i64 (d.f 0).n).wf = true ∧ (Lit.int .i64 (d.f 1).n).wf = true ∧ (d.f 2).s.size ≤ maxLen ∧ ((d.f 3).l.length ≤ c3 ∧ c3 ≤ maxLen ∧ (A3 = none → c3 = 0) ∧ Sl Tryd.prog w I k 49 A3 (d.f 3).l) ∧ ((d.f 4).l.length ≤ c4 ∧ c4 ≤ maxLen ∧ (A4 = none → c4 = 0) ∧ Sl Tryd.prog w I k 9 A4 (d.f 4).l) := by
  cases k with
  | zero => exact h.elim
  | succ k =>
    obtain ⟨A3, c3, A4, c4, rfl, r0, r1, r2, ⟨s3a, s3b, s3c, s3⟩, ⟨s4a, s4b, s4c, s4⟩⟩ := open49 h
    exact ⟨A3, c3, A4, c4, rfl, r0, r1, r2, ⟨s3a, s3b, s3c, s3.up⟩, ⟨s4a, s4b, s4c, s4.up⟩⟩
theorem cells62 : Tryd.prog.cellsOf 62 = 2 := by kernel_rfl
theorem cells60 : Tryd.prog.cellsOf 60 = 1 := by kernel_rfl
set_option maxRecDepth 100000 in
theorem open62 (h : Rep Tryd.prog w I (k + 1) 62 cs d) : ∃ (A1 : Option Addr) (c1 : Nat), cs = [.string (d.f 0).s, .slice A1 (d.f 1).l.length c1] ∧ (d.f 0).s.size ≤ maxLen ∧ ((d.f 1).l.length ≤ c1 ∧ c1 ≤ maxLen ∧ (A1 = none → c1 = 0) ∧ Sl Tryd.prog w I k 3 A1 (d.f 1).l) := by
  obtain ⟨hl, hf⟩ := h.struct Tryd.underlying62
  rw [cells62] at hl
  match cs, hl, hf with
  | [x0, x1], _, hf =>
    have g0 : Rep Tryd.prog w I k 9 (([x0, x1].drop 0).take (Tryd.prog.cellsOf 9)) (d.f 0) := hf 0 _ rfl
    simp only [cells9, List.drop_zero, List.drop_succ_cons, List.take_succ_cons, List.take_zero] at g0
    obtain ⟨e0, r0⟩ := g0.str Tryd.underlying9
    have g1 : Rep Tryd.prog w I k 60 (([x0, x1].drop 1).take (Tryd.prog.cellsOf 60)) (d.f 1) := hf 1 _ rfl
    simp only [cells60, List.drop_zero, List.drop_succ_cons, List.take_succ_cons, List.take_zero] at g1
    obtain ⟨a1, b1, e1, r1⟩ := g1.sliceAny Tryd.underlying60
    simp only [List.cons.injEq, and_true] at e0 e1
    rw [e0, e1]
    exact ⟨a1, b1, rfl, r0, r1⟩
set_option maxRecDepth 100000 in
theorem open62_any (h : Rep Tryd.prog w I k 62 cs d) : ∃ (A1 : Option Addr) (c1 : Nat), cs = [.string (d.f 0).s, .slice A1 (d.f 1).l.length c1] ∧ (d.f 0).s.size ≤ maxLen ∧ ((d.f 1).l.length ≤ c1 ∧ c1 ≤ maxLen ∧ (A1 = none → c1 = 0) ∧ Sl Tryd.prog w I k 3 A1 (d.f 1).l) := by
  cases k with
  | zero => exact h.elim
  | succ k =>
    obtain ⟨A1, c1, rfl, r0, ⟨s1a, s1b, s1c, s1⟩⟩ := open62 h
    exact ⟨A1, c1, rfl, r0, ⟨s1a, s1b, s1c, s1.up⟩⟩
theorem cells103 : Tryd.prog.cellsOf 103 = 6 := by kernel_rfl
set_option maxRecDepth 100000 in
theorem open103 (h : Rep Tryd.prog w I (k + 1) 103 cs d) : ∃ (A4 : Option Addr) (c4 : Nat) (A5 : Option Addr) (c5 : Nat), cs = [.string (d.f 0).s, .int .i64 ((d.f 1).f 0).n, .int .i64 ((d.f 1).f 1).n, .string ((d.f 1).f 2).s, .slice A4 ((d.f 1).f 3).l.length c4, .slice A5 ((d.f 1).f 4).l.length c5] ∧ (d.f 0).s.size ≤ maxLen ∧ (Lit.int .i64 ((d.f 1).f 0).n).wf = true ∧ (Lit.int .i64 ((d.f 1).f 1).n).wf = true ∧ ((d.f 1).f 2).s.size ≤ maxLen ∧ (((d.f 1).f 3).l.length ≤ c4 ∧ c4 ≤ maxLen ∧ (A4 = none → c4 = 0) ∧ Sl Tryd.prog w I k 49 A4 ((d.f 1).f 3).l) ∧ (((d.f 1).f 4).l.length ≤ c5 ∧ c5 ≤ maxLen ∧ (A5 = none → c5 = 0) ∧ Sl Tryd.prog w I k 9 A5 ((d.f 1).f 4).l) := by
  obtain ⟨hl, hf⟩ := h.struct Tryd.underlying103
  rw [cells103] at hl
  match cs, hl, hf with
  | [x0, x1, x2, x3, x4, x5], _, hf =>
    have g0 : Rep Tryd.prog w I k 9 (([x0, x1, x2, x3, x4, x5].drop 0).take (Tryd.prog.cellsOf 9)) (d.f 0) := hf 0 _ rfl
    simp only [cells9, List.drop_zero, List.drop_succ_cons, List.take_succ_cons, List.take_zero] at g0
    obtain ⟨e0, r0⟩ := g0.str Tryd.underlying9
    have g1 : Rep Tryd.prog w I k 49 (([x0, x1, x2, x3, x4, x5].drop 1).take (Tryd.prog.cellsOf 49)) (d.f 1) := hf 1 _ rfl
    simp only [cells49, List.drop_zero, List.drop_succ_cons, List.take_succ_cons, List.take_zero] at g1
    obtain ⟨a1_3, b1_3, a1_4, b1_4, e1, r1_0, r1_1, r1_2, r1_3, r1_4⟩ := open49_any g1
    simp only [List.cons.injEq, and_true] at e0 e1
    obtain ⟨e1_0, e1_1, e1_2, e1_3, e1_4⟩ := e1
    rw [e0, e1_0, e1_1, e1_2, e1_3, e1_4]
    exact ⟨a1_3, b1_3, a1_4, b1_4, rfl, r0, r1_0, r1_1, r1_2, r1_3, r1_4⟩
set_option maxRecDepth 100000 in
theorem open103_any (h : Rep Tryd.prog w I k 103 cs d) : ∃ (A4 : Option Addr) (c4 : Nat) (A5 : Option Addr) (c5 : Nat), cs = [.string (d.f 0).s, .int .i64 ((d.f 1).f 0).n, .int .i64 ((d.f 1).f 1).n, .string ((d.f 1).f 2).s, .slice A4 ((d.f 1).f 3).l.length c4, .slice A5 ((d.f 1).f 4).l.length c5] ∧ (d.f 0).s.size ≤ maxLen ∧ (Lit.int .i64 ((d.f 1).f 0).n).wf = true ∧ (Lit.int .i64 ((d.f 1).f 1).n).wf = true ∧ ((d.f 1).f 2).s.size ≤ maxLen ∧ (((d.f 1).f 3).l.length ≤ c4 ∧ c4 ≤ maxLen ∧ (A4 = none → c4 = 0) ∧ Sl Tryd.prog w I k 49 A4 ((d.f 1).f 3).l) ∧ (((d.f 1).f 4).l.length ≤ c5 ∧ c5 ≤ maxLen ∧ (A5 = none → c5 = 0) ∧ Sl Tryd.prog w I k 9 A5 ((d.f 1).f 4).l) := by
  cases k with
  | zero => exact h.elim
  | succ k =>
    obtain ⟨A4, c4, A5, c5, rfl, r0, r1, r2, r3, ⟨s4a, s4b, s4c, s4⟩, ⟨s5a, s5b, s5c, s5⟩⟩ := open103 h
    exact ⟨A4, c4, A5, c5, rfl, r0, r1, r2, r3, ⟨s4a, s4b, s4c, s4.up⟩, ⟨s5a, s5b, s5c, s5.up⟩⟩
theorem cells101 : Tryd.prog.cellsOf 101 = 2 := by kernel_rfl
theorem cells99 : Tryd.prog.cellsOf 99 = 1 := by kernel_rfl
set_option maxRecDepth 100000 in
theorem open101 (h : Rep Tryd.prog w I (k + 1) 101 cs d) : ∃ (A1 : Option Addr) (c1 : Nat), cs = [.string (d.f 0).s, .slice A1 (d.f 1).l.length c1] ∧ (d.f 0).s.size ≤ maxLen ∧ ((d.f 1).l.length ≤ c1 ∧ c1 ≤ maxLen ∧ (A1 = none → c1 = 0) ∧ Sl Tryd.prog w I k 103 A1 (d.f 1).l) := by
  obtain ⟨hl, hf⟩ := h.struct Tryd.underlying101
  rw [cells101] at hl
  match cs, hl, hf with
  | [x0, x1], _, hf =>
    have g0 : Rep Tryd.prog w I k 9 (([x0, x1].drop 0).take (Tryd.prog.cellsOf 9)) (d.f 0) := hf 0 _ rfl
    simp only [cells9, List.drop_zero, List.drop_succ_cons, List.take_succ_cons, List.take_zero] at g0
    obtain ⟨e0, r0⟩ := g0.str Tryd.underlying9
    have g1 : Rep Tryd.prog w I k 99 (([x0, x1].drop 1).take (Tryd.prog.cellsOf 99)) (d.f 1) := hf 1 _ rfl
    simp only [cells99, List.drop_zero, List.drop_succ_cons, List.take_succ_cons, List.take_zero] at g1
    obtain ⟨a1, b1, e1, r1⟩ := g1.sliceAny Tryd.underlying99
    simp only [List.cons.injEq, and_true] at e0 e1
    rw [e0, e1]
    exact ⟨a1, b1, rfl, r0, r1⟩
set_option maxRecDepth 100000 in
theorem open101_any (h : Rep Tryd.prog w I k 101 cs d) : ∃ (A1 : Option Addr) (c1 : Nat), cs = [.string (d.f 0).s, .slice A1 (d.f 1).l.length c1] ∧ (d.f 0).s.size ≤ maxLen ∧ ((d.f 1).l.length ≤ c1 ∧ c1 ≤ maxLen ∧ (A1 = none → c1 = 0) ∧ Sl Tryd.prog w I k 103 A1 (d.f 1).l) := by
  cases k with
  | zero => exact h.elim
  | succ k =>
    obtain ⟨A1, c1, rfl, r0, ⟨s1a, s1b, s1c, s1⟩⟩ := open101 h
    exact ⟨A1, c1, rfl, r0, ⟨s1a, s1b, s1c, s1.up⟩⟩
theorem cells132 : Tryd.prog.cellsOf 132 = 10 := by kernel_rfl
theorem cells53 : Tryd.prog.cellsOf 53 = 1 := by kernel_rfl
set_option maxRecDepth 100000 in
theorem open132 (h : Rep Tryd.prog w I (k + 1) 132 cs d) : ∃ (A2 : Option Addr) (c2 : Nat) (A7 : Option Addr) (c7 : Nat) (A8 : Option Addr) (c8 : Nat) (A9 : Option Addr) (c9 : Nat), cs = [.string (d.f 0).s, .string ((d.f 1).f 0).s, .slice A2 ((d.f 1).f 1).l.length c2, .bool (d.f 2).b, .int .i64 ((d.f 3).f 0).n, .int .i64 ((d.f 3).f 1).n, .string ((d.f 3).f 2).s, .slice A7 ((d.f 3).f 3).l.length c7, .slice A8 ((d.f 3).f 4).l.length c8, .slice A9 (d.f 4).l.length c9] ∧ (d.f 0).s.size ≤ maxLen ∧ ((d.f 1).f 0).s.size ≤ maxLen ∧ (((d.f 1).f 1).l.length ≤ c2 ∧ c2 ≤ maxLen ∧ (A2 = none → c2 = 0) ∧ Sl Tryd.prog w I k 3 A2 ((d.f 1).f 1).l) ∧ (Lit.int .i64 ((d.f 3).f 0).n).wf = true ∧ (Lit.int .i64 ((d.f 3).f 1).n).wf = true ∧ ((d.f 3).f 2).s.size ≤ maxLen ∧ (((d.f 3).f 3).l.length ≤ c7 ∧ c7 ≤ maxLen ∧ (A7 = none → c7 = 0) ∧ Sl Tryd.prog w I k 49 A7 ((d.f 3).f 3).l) ∧ (((d.f 3).f 4).l.length ≤ c8 ∧ c8 ≤ maxLen ∧ (A8 = none → c8 = 0) ∧ Sl Tryd.prog w I k 9 A8 ((d.f 3).f 4).l) ∧ ((d.f 4).l.length ≤ c9 ∧ c9 ≤ maxLen ∧ (A9 = none → c9 = 0) ∧ Sl Tryd.prog w I k 101 A9 (d.f 4).l) := by
  obtain ⟨hl, hf⟩ := h.struct Tryd.underlying132
  rw [cells132] at hl
  match cs, hl, hf with
  | [x0, x1, x2, x3, x4, x5, x6, x7, x8, x9], _, hf =>
    have g0 : Rep Tryd.prog w I k 9 (([x0, x1, x2, x3, x4, x5, x6, x7, x8, x9].drop 0).take (Tryd.prog.cellsOf 9)) (d.f 0) := hf 0 _ rfl
    simp only [cells9, List.drop_zero, List.drop_succ_cons, List.take_succ_cons, List.take_zero] at g0
    obtain ⟨e0, r0⟩ := g0.str Tryd.underlying9
    have g1 : Rep Tryd.prog w I k 62 (([x0, x1, x2, x3, x4, x5, x6, x7, x8, x9].drop 1).take (Tryd.prog.cellsOf 62)) (d.f 1) := hf 1 _ rfl
    simp only [cells62, List.drop_zero, List.drop_succ_cons, List.take_succ_cons, List.take_zero] at g1
    obtain ⟨a1_1, b1_1, e1, r1_0, r1_1⟩ := open62_any g1
    have g2 : Rep Tryd.prog w I k 4 (([x0, x1, x2, x3, x4, x5, x6, x7, x8, x9].drop 3).take (Tryd.prog.cellsOf 4)) (d.f 2) := hf 2 _ rfl
    simp only [cells4, List.drop_zero, List.drop_succ_cons, List.take_succ_cons, List.take_zero] at g2
    have e2 := g2.bool Tryd.underlying4
    have g3 : Rep Tryd.prog w I k 49 (([x0, x1, x2, x3, x4, x5, x6, x7, x8, x9].drop 4).take (Tryd.prog.cellsOf 49)) (d.f 3) := hf 3 _ rfl
    simp only [cells49, List.drop_zero, List.drop_succ_cons, List.take_succ_cons, List.take_zero] at g3
    obtain ⟨a3_3, b3_3, a3_4, b3_4, e3, r3_0, r3_1, r3_2, r3_3, r3_4⟩ := open49_any g3
    have g4 : Rep Tryd.prog w I k 53 (([x0, x1, x2, x3, x4, x5, x6, x7, x8, x9].drop 9).take (Tryd.prog.cellsOf 53)) (d.f 4) := hf 4 _ rfl
    simp only [cells53, List.drop_zero, List.drop_succ_cons, List.take_succ_cons, List.take_zero] at g4
    obtain ⟨a4, b4, e4, r4⟩ := g4.sliceAny Tryd.underlying53
    simp only [List.cons.injEq, and_true] at e0 e1 e2 e3 e4
    obtain ⟨e1_0, e1_1⟩ := e1
    obtain ⟨e3_0, e3_1, e3_2, e3_3, e3_4⟩ := e3
    rw [e0, e1_0, e1_1, e2, e3_0, e3_1, e3_2, e3_3, e3_4, e4]
    exact ⟨a1_1, b1_1, a3_3, b3_3, a3_4, b3_4, a4, b4, rfl, r0, r1_0, r1_1, r3_0, r3_1, r3_2, r3_3, r3_4, r4⟩
set_option maxRecDepth 100000 in
theorem open132_any (h : Rep Tryd.prog w I k 132 cs d) : ∃ (A2 : Option Addr) (c2 : Nat) (A7 : Option Addr) (c7 : Nat) (A8 : Option Addr) (c8 : Nat) (A9 : Option Addr) (c9 : Nat), cs = [.string (d.f 0).s, .string ((d.f 1).f 0).s, .slice A2 ((d.f 1).f 1).l.length c2, .bool (d.f 2).b, .int .i64 ((d.f 3).f 0).n, .int .i64 ((d.f 3).f 1).n, .string ((d.f 3).f 2).s, .slice A7 ((d.f 3).f 3).l.length c7, .slice A8 ((d.f 3).f 4).l.length c8, .slice A9 (d.f 4).l.length c9] ∧ (d.f 0).s.size ≤ maxLen ∧ ((d.f 1).f 0).s.size ≤ maxLen ∧ (((d.f 1).f 1).l.length ≤ c2 ∧ c2 ≤ maxLen ∧ (A2 = none → c2 = 0) ∧ Sl Tryd.prog w I k 3 A2 ((d.f 1).f 1).l) ∧ (Lit.int .i64 ((d.f 3).f 0).n).wf = true ∧ (Lit.int .i64 ((d.f 3).f 1).n).wf = true ∧ ((d.f 3).f 2).s.size ≤ maxLen ∧ (((d.f 3).f 3).l.length ≤ c7 ∧ c7 ≤ maxLen ∧ (A7 = none → c7 = 0) ∧ Sl Tryd.prog w I k 49 A7 ((d.f 3).f 3).l) ∧ (((d.f 3).f 4).l.length ≤ c8 ∧ c8 ≤ maxLen ∧ (A8 = none → c8 = 0) ∧ Sl Tryd.prog w I k 9 A8 ((d.f 3).f 4).l) ∧ ((d.f 4).l.length ≤ c9 ∧ c9 ≤ maxLen ∧ (A9 = none → c9 = 0) ∧ Sl Tryd.prog w I k 101 A9 (d.f 4).l) := by
  cases k with
  | zero => exact h.elim
  | succ k =>
    obtain ⟨A2, c2, A7, c7, A8, c8, A9, c9, rfl, r0, r1, ⟨s2a, s2b, s2c, s2⟩, r3, r4, r5, ⟨s6a, s6b, s6c, s6⟩, ⟨s7a, s7b, s7c, s7⟩, ⟨s8a, s8b, s8c, s8⟩⟩ := open132 h
    exact ⟨A2, c2, A7, c7, A8, c8, A9, c9, rfl, r0, r1, ⟨s2a, s2b, s2c, s2.up⟩, r3, r4, r5, ⟨s6a, s6b, s6c, s6.up⟩, ⟨s7a, s7b, s7c, s7.up⟩, ⟨s8a, s8b, s8c, s8.up⟩⟩
theorem cells64 : Tryd.prog.cellsOf 64 = 5 := by kernel_rfl
theorem cells56 : Tryd.prog.cellsOf 56 = 1 := by kernel_rfl
set_option maxRecDepth 100000 in
theorem open64 (h : Rep Tryd.prog w I (k + 1) 64 cs d) : ∃ (A1 : Option Addr) (c1 : Nat) (A3 : Option Addr) (c3 : Nat) (A4 : Option Addr) (c4 : Nat), cs = [.string (d.f 0).s, .slice A1 (d.f 1).l.length c1, .string ((d.f 2).f 0).s, .slice A3 ((d.f 2).f 1).l.length c3, .slice A4 (d.f 3).l.length c4] ∧ (d.f 0).s.size ≤ maxLen ∧ ((d.f 1).l.length ≤ c1 ∧ c1 ≤ maxLen ∧ (A1 = none → c1 = 0) ∧ Sl Tryd.prog w I k 132 A1 (d.f 1).l) ∧ ((d.f 2).f 0).s.size ≤ maxLen ∧ (((d.f 2).f 1).l.length ≤ c3 ∧ c3 ≤ maxLen ∧ (A3 = none → c3 = 0) ∧ Sl Tryd.prog w I k 3 A3 ((d.f 2).f 1).l) ∧ ((d.f 3).l.length ≤ c4 ∧ c4 ≤ maxLen ∧ (A4 = none → c4 = 0) ∧ Sl Tryd.prog w I k 101 A4 (d.f 3).l) := by
  obtain ⟨hl, hf⟩ := h.struct Tryd.underlying64
  rw [cells64] at hl
  match cs, hl, hf with
  | [x0, x1, x2, x3, x4], _, hf =>
    have g0 : Rep Tryd.prog w I k 9 (([x0, x1, x2, x3, x4].drop 0).take (Tryd.prog.cellsOf 9)) (d.f 0) := hf 0 _ rfl
    simp only [cells9, List.drop_zero, List.drop_succ_cons, List.take_succ_cons, List.take_zero] at g0
    obtain ⟨e0, r0⟩ := g0.str Tryd.underlying9
    have g1 : Rep Tryd.prog w I k 56 (([x0, x1, x2, x3, x4].drop 1).take (Tryd.prog.cellsOf 56)) (d.f 1) := hf 1 _ rfl
    simp only [cells56, List.drop_zero, List.drop_succ_cons, List.take_succ_cons, List.take_zero] at g1
    obtain ⟨a1, b1, e1, r1⟩ := g1.sliceAny Tryd.underlying56
    have g2 : Rep Tryd.prog w I k 62 (([x0, x1, x2, x3, x4].drop 2).take (Tryd.prog.cellsOf 62)) (d.f 2) := hf 2 _ rfl
    simp only [cells62, List.drop_zero, List.drop_succ_cons, List.take_succ_cons, List.take_zero] at g2
    obtain ⟨a2_1, b2_1, e2, r2_0, r2_1⟩ := open62_any g2
    have g3 : Rep Tryd.prog w I k 53 (([x0, x1, x2, x3, x4].drop 4).take (Tryd.prog.cellsOf 53)) (d.f 3) := hf 3 _ rfl
    simp only [cells53, List.drop_zero, List.drop_succ_cons, List.take_succ_cons, List.take_zero] at g3
    obtain ⟨a3, b3, e3, r3⟩ := g3.sliceAny Tryd.underlying53
    simp only [List.cons.injEq, and_true] at e0 e1 e2 e3
    obtain ⟨e2_0, e2_1⟩ := e2
    rw [e0, e1, e2_0, e2_1, e3]
    exact ⟨a1, b1, a2_1, b2_1, a3, b3, rfl, r0, r1, r2_0, r2_1, r3⟩
set_option maxRecDepth 100000 in
theorem open64_any (h : Rep Tryd.prog w I k 64 cs d) : ∃ (A1 : Option Addr) (c1 : Nat) (A3 : Option Addr) (c3 : Nat) (A4 : Option Addr) (c4 : Nat), cs = [.string (d.f 0).s, .slice A1 (d.f 1).l.length c1, .string ((d.f 2).f 0).s, .slice A3 ((d.f 2).f 1).l.length c3, .slice A4 (d.f 3).l.length c4] ∧ (d.f 0).s.size ≤ maxLen ∧ ((d.f 1).l.length ≤ c1 ∧ c1 ≤ maxLen ∧ (A1 = none → c1 = 0) ∧ Sl Tryd.prog w I k 132 A1 (d.f 1).l) ∧ ((d.f 2).f 0).s.size ≤ maxLen ∧ (((d.f 2).f 1).l.length ≤ c3 ∧ c3 ≤ maxLen ∧ (A3 = none → c3 = 0) ∧ Sl Tryd.prog w I k 3 A3 ((d.f 2).f 1).l) ∧ ((d.f 3).l.length ≤ c4 ∧ c4 ≤ maxLen ∧ (A4 = none → c4 = 0) ∧ Sl Tryd.prog w I k 101 A4 (d.f 3).l) := by
  cases k with
  | zero => exact h.elim
  | succ k =>
    obtain ⟨A1, c1, A3, c3, A4, c4, rfl, r0, ⟨s1a, s1b, s1c, s1⟩, r2, ⟨s3a, s3b, s3c, s3⟩, ⟨s4a, s4b, s4c, s4⟩⟩ := open64 h
    exact ⟨A1, c1, A3, c3, A4, c4, rfl, r0, ⟨s1a, s1b, s1c, s1.up⟩, r2, ⟨s3a, s3b, s3c, s3.up⟩, ⟨s4a, s4b, s4c, s4.up⟩⟩
theorem cells112 : Tryd.prog.cellsOf 112 = 2 := by kernel_rfl
set_option maxRecDepth 100000 in
theorem open112 (h : Rep Tryd.prog w I (k + 1) 112 cs d) : ∃ (A1 : Option Addr) (c1 : Nat), cs = [.string (d.f 0).s, .slice A1 (d.f 1).l.length c1] ∧ (d.f 0).s.size ≤ maxLen ∧ ((d.f 1).l.length ≤ c1 ∧ c1 ≤ maxLen ∧ (A1 = none → c1 = 0) ∧ Sl Tryd.prog w I k 101 A1 (d.f 1).l) := by
  obtain ⟨hl, hf⟩ := h.struct Tryd.underlying112
  rw [cells112] at hl
  match cs, hl, hf with
  | [x0, x1], _, hf =>
    have g0 : Rep Tryd.prog w I k 9 (([x0, x1].drop 0).take (Tryd.prog.cellsOf 9)) (d.f 0) := hf 0 _ rfl
    simp only [cells9, List.drop_zero, List.drop_succ_cons, List.take_succ_cons, List.take_zero] at g0
    obtain ⟨e0, r0⟩ := g0.str Tryd.underlying9
    have g1 : Rep Tryd.prog w I k 53 (([x0, x1].drop 1).take (Tryd.prog.cellsOf 53)) (d.f 1) := hf 1 _ rfl
    simp only [cells53, List.drop_zero, List.drop_succ_cons, List.take_succ_cons, List.take_zero] at g1
    obtain ⟨a1, b1, e1, r1⟩ := g1.sliceAny Tryd.underlying53
    simp only [List.cons.injEq, and_true] at e0 e1
    rw [e0, e1]
    exact ⟨a1, b1, rfl, r0, r1⟩
set_option maxRecDepth 100000 in
theorem open112_any (h : Rep Tryd.prog w I k 112 cs d) : ∃ (A1 : Option Addr) (c1 : Nat), cs = [.string (d.f 0).s, .slice A1 (d.f 1).l.length c1] ∧ (d.f 0).s.size ≤ maxLen ∧ ((d.f 1).l.length ≤ c1 ∧ c1 ≤ maxLen ∧ (A1 = none → c1 = 0) ∧ Sl Tryd.prog w I k 101 A1 (d.f 1).l) := by
  cases k with
  | zero => exact h.elim
  | succ k =>
    obtain ⟨A1, c1, rfl, r0, ⟨s1a, s1b, s1c, s1⟩⟩ := open112 h
    exact ⟨A1, c1, rfl, r0, ⟨s1a, s1b, s1c, s1.up⟩⟩
theorem cells54 : Tryd.prog.cellsOf 54 = 1 := by kernel_rfl
theorem cells55 : Tryd.prog.cellsOf 55 = 1 := by kernel_rfl
set_option maxRecDepth 100000 in
theorem open58 (h : Rep Tryd.prog w I (k + 1) 58 cs d) : ∃ (A2 : Option Addr) (c2 : Nat) (A3 : Option Addr) (c3 : Nat) (A4 : Option Addr) (c4 : Nat) (A5 : Option Addr) (c5 : Nat) (A6 : Option Addr) (c6 : Nat), cs = [.int .i64 (d.f 0).n, .string (d.f 1).s, .slice A2 (d.f 2).l.length c2, .slice A3 (d.f 3).l.length c3, .slice A4 (d.f 4).l.length c4, .slice A5 (d.f 5).l.length c5, .slice A6 (d.f 6).l.length c6] ∧ (Lit.int .i64 (d.f 0).n).wf = true ∧ (d.f 1).s.size ≤ maxLen ∧ ((d.f 2).l.length ≤ c2 ∧ c2 ≤ maxLen ∧ (A2 = none → c2 = 0) ∧ Sl Tryd.prog w I k 9 A2 (d.f 2).l) ∧ ((d.f 3).l.length ≤ c3 ∧ c3 ≤ maxLen ∧ (A3 = none → c3 = 0) ∧ Sl Tryd.prog w I k 101 A3 (d.f 3).l) ∧ ((d.f 4).l.length ≤ c4 ∧ c4 ≤ maxLen ∧ (A4 = none → c4 = 0) ∧ Sl Tryd.prog w I k 64 A4 (d.f 4).l) ∧ ((d.f 5).l.length ≤ c5 ∧ c5 ≤ maxLen ∧ (A5 = none → c5 = 0) ∧ Sl Tryd.prog w I k 112 A5 (d.f 5).l) ∧ ((d.f 6).l.length ≤ c6 ∧ c6 ≤ maxLen ∧ (A6 = none → c6 = 0) ∧ Sl Tryd.prog w I k 132 A6 (d.f 6).l) := by
  obtain ⟨hl, hf⟩ := h.struct Tryd.underlying58
  rw [cells58] at hl
  match cs, hl, hf with
  | [x0, x1, x2, x3, x4, x5, x6], _, hf =>
    have g0 : Rep Tryd.prog w I k 3 (([x0, x1, x2, x3, x4, x5, x6].drop 0).take (Tryd.prog.cellsOf 3)) (d.f 0) := hf 0 _ rfl
    simp only [cells3, List.drop_zero, List.drop_succ_cons, List.take_succ_cons, List.take_zero] at g0
    obtain ⟨e0, r0⟩ := g0.int Tryd.underlying3
    have g1 : Rep Tryd.prog w I k 9 (([x0, x1, x2, x3, x4, x5, x6].drop 1).take (Tryd.prog.cellsOf 9)) (d.f 1) := hf 1 _ rfl
    simp only [cells9, List.drop_zero, List.drop_succ_cons, List.take_succ_cons, List.take_zero] at g1
    obtain ⟨e1, r1⟩ := g1.str Tryd.underlying9
    have g2 : Rep Tryd.prog w I k 47 (([x0, x1, x2, x3, x4, x5, x6].drop 2).take (Tryd.prog.cellsOf 47)) (d.f 2) := hf 2 _ rfl
    simp only [cells47, List.drop_zero, List.drop_succ_cons, List.take_succ_cons, List.take_zero] at g2
    obtain ⟨a2, b2, e2, r2⟩ := g2.sliceAny Tryd.underlying47
    have g3 : Rep Tryd.prog w I k 53 (([x0, x1, x2, x3, x4, x5, x6].drop 3).take (Tryd.prog.cellsOf 53)) (d.f 3) := hf 3 _ rfl
    simp only [cells53, List.drop_zero, List.drop_succ_cons, List.take_succ_cons, List.take_zero] at g3
    obtain ⟨a3, b3, e3, r3⟩ := g3.sliceAny Tryd.underlying53
    have g4 : Rep Tryd.prog w I k 54 (([x0, x1, x2, x3, x4, x5, x6].drop 4).take (Tryd.prog.cellsOf 54)) (d.f 4) := hf 4 _ rfl
    simp only [cells54, List.drop_zero, List.drop_succ_cons, List.take_succ_cons, List.take_zero] at g4
    obtain ⟨a4, b4, e4, r4⟩ := g4.sliceAny Tryd.underlying54
    have g5 : Rep Tryd.prog w I k 55 (([x0, x1, x2, x3, x4, x5, x6].drop 5).take (Tryd.prog.cellsOf 55)) (d.f 5) := hf 5 _ rfl
    simp only [cells55, List.drop_zero, List.drop_succ_cons, List.take_succ_cons, List.take_zero] at g5
    obtain ⟨a5, b5, e5, r5⟩ := g5.sliceAny Tryd.underlying55
    have g6 : Rep Tryd.prog w I k 56 (([x0, x1, x2, x3, x4, x5, x6].drop 6).take (Tryd.prog.cellsOf 56)) (d.f 6) := hf 6 _ rfl
    simp only [cells56, List.drop_zero, List.drop_succ_cons, List.take_succ_cons, List.take_zero] at g6
    obtain ⟨a6, b6, e6, r6⟩ := g6.sliceAny Tryd.underlying56
    simp only [List.cons.injEq, and_true] at e0 e1 e2 e3 e4 e5 e6
    rw [e0, e1, e2, e3, e4, e5, e6]
    exact ⟨a2, b2, a3, b3, a4, b4, a5, b5, a6, b6, rfl, r0, r1, r2, r3, r4, r5, r6⟩
set_option maxRecDepth 100000 in
theorem open58_any (h : Rep Tryd.prog w I k 58 cs d) : ∃ (A2 : Option Addr) (c2 : Nat) (A3 : Option Addr) (c3 : Nat) (A4 : Option Addr) (c4 : Nat) (A5 : Option Addr) (c5 : Nat) (A6 : Option Addr) (c6 : Nat), cs = [.int .i64 (d.f 0).n, .string (d.f 1).s, .slice A2 (d.f 2).l.length c2, .slice A3 (d.f 3).l.length c3, .slice A4 (d.f 4).l.length c4, .slice A5 (d.f 5).l.length c5, .slice A6 (d.f 6).l.length c6] ∧ (Lit.int .i64 (d.f 0).n).wf = true ∧ (d.f 1).s.size ≤ maxLen ∧ ((d.f 2).l.length ≤ c2 ∧ c2 ≤ maxLen ∧ (A2 = none → c2 = 0) ∧ Sl Tryd.prog w I k 9 A2 (d.f 2).l) ∧ ((d.f 3).l.length ≤ c3 ∧ c3 ≤ maxLen ∧ (A3 = none → c3 = 0) ∧ Sl Tryd.prog w I k 101 A3 (d.f 3).l) ∧ ((d.f 4).l.length ≤ c4 ∧ c4 ≤ maxLen ∧ (A4 = none → c4 = 0) ∧ Sl Tryd.prog w I k 64 A4 (d.f 4).l) ∧ ((d.f 5).l.length ≤ c5 ∧ c5 ≤ maxLen ∧ (A5 = none → c5 = 0) ∧ Sl Tryd.prog w I k 112 A5 (d.f 5).l) ∧ ((d.f 6).l.length ≤ c6 ∧ c6 ≤ maxLen ∧ (A6 = none → c6 = 0) ∧ Sl Tryd.prog w I k 132 A6 (d.f 6).l) := by
  cases k with
  | zero => exact h.elim
  | succ k =>
    obtain ⟨A2, c2, A3, c3, A4, c4, A5, c5, A6, c6, rfl, r0, r1, ⟨s2a, s2b, s2c, s2⟩, ⟨s3a, s3b, s3c, s3⟩, ⟨s4a, s4b, s4c, s4⟩, ⟨s5a, s5b, s5c, s5⟩, ⟨s6a, s6b, s6c, s6⟩⟩ := open58 h
    exact ⟨A2, c2, A3, c3, A4, c4, A5, c5, A6, c6, rfl, r0, r1, ⟨s2a, s2b, s2c, s2.up⟩, ⟨s3a, s3b, s3c, s3.up⟩, ⟨s4a, s4b, s4c, s4.up⟩, ⟨s5a, s5b, s5c, s5.up⟩, ⟨s6a, s6b, s6c, s6.up⟩⟩
end Go.Proofs.YtohneabalakmeaaDoor
namespace Go.Proofs.YtohneabalakmeaaDoor
open Go.RowKit
/-- the cells cs, of type T, read as d -/
def Rv (w : World) (T : TypeId) (cs : Array Value) (d : D) : Prop := ∃ k, Rep Tryd.prog w (fun b => b < w.heap.size) k T cs.toList d
/-- the slice at A reads as l, its elements of type e -/
def Rs (w : World) (e : TypeId) (A : Option Addr) (l : List D) : Prop := ∃ k, Sl Tryd.prog w (fun b => b < w.heap.size) k e A l
theorem Rs.nil (w : World) (e : TypeId) (A : Option Addr) : Rs w e A [] := ⟨0, Sl.nil _ _ _⟩
theorem wfr {n : Int} (h : (Lit.int .i64 n).wf = true) : -9223372036854775808 ≤ n ∧ n ≤ 9223372036854775807 := by
  simp only [Lit.wf, Bool.and_eq_true, decide_eq_true_eq] at h
  obtain ⟨h1, h2⟩ := h
  have h3 : (n : Int) < 9223372036854775808 := Int.lt_of_le_of_lt h2 (by decide)
  exact ⟨Int.le_trans (by decide) h1, by omega⟩
def At64 (w : World) (b o : Nat) (d : D) : Prop := ∃ (A1 : Option Addr) (c1 : Nat) (A3 : Option Addr) (c3 : Nat) (A4 : Option Addr) (c4 : Nat), w.cell? ⟨b, o, none⟩ = some (.string (d.f 0).s) ∧ w.cell? ⟨b, o + 1, none⟩ = some (.slice A1 (d.f 1).l.length c1) ∧ w.cell? ⟨b, o + 2, none⟩ = some (.string ((d.f 2).f 0).s) ∧ w.cell? ⟨b, o + 3, none⟩ = some (.slice A3 ((d.f 2).f 1).l.length c3) ∧ w.cell? ⟨b, o + 4, none⟩ = some (.slice A4 (d.f 3).l.length c4) ∧ (d.f 0).s.size ≤ maxLen ∧ ((d.f 1).l.length ≤ c1 ∧ c1 ≤ maxLen ∧ (A1 = none → c1 = 0) ∧ Rs w 132 A1 (d.f 1).l) ∧ ((d.f 2).f 0).s.size ≤ maxLen ∧ (((d.f 2).f 1).l.length ≤ c3 ∧ c3 ≤ maxLen ∧ (A3 = none → c3 = 0) ∧ Rs w 3 A3 ((d.f 2).f 1).l) ∧ ((d.f 3).l.length ≤ c4 ∧ c4 ≤ maxLen ∧ (A4 = none → c4 = 0) ∧ Rs w 101 A4 (d.f 3).l) ∧ Rv w 64 #[.string (d.f 0).s, .slice A1 (d.f 1).l.length c1, .string ((d.f 2).f 0).s, .slice A3 ((d.f 2).f 1).l.length c3, .slice A4 (d.f 3).l.length c4] d
set_option maxRecDepth 100000 in
theorem at64 {w : World} {A : Option Addr} {l : List D} (h : Rs w 64 A l) (hp : 0 < l.length) : ∃ b off, A = some ⟨b, off, none⟩ ∧ b < w.heap.size ∧ ∀ i, i < l.length → At64 w b (off + i * 5) (gD l i) := by
  obtain ⟨k, h⟩ := h
  obtain ⟨b, off, hA, hb, hi⟩ := h hp (by rw [cells64]; omega)
  refine ⟨b, off, hA, hb, fun i hil => ?_⟩
  obtain ⟨ys, y1, y2, y3⟩ := hi i hil
  rw [cells64] at y2
  have y4 : Rv w 64 ys.toArray (gD l i) := ⟨k, by simpa using y3⟩
  obtain ⟨A1, c1, A3, c3, A4, c4, rfl, r0, ⟨s1a, s1b, s1c, s1⟩, r2, ⟨s3a, s3b, s3c, s3⟩, ⟨s4a, s4b, s4c, s4⟩⟩ := open64_any y3
  exact ⟨A1, c1, A3, c3, A4, c4, y2 0 _ rfl, y2 1 _ rfl, y2 2 _ rfl, y2 3 _ rfl, y2 4 _ rfl, r0, ⟨s1a, s1b, s1c, ⟨_, s1⟩⟩, r2, ⟨s3a, s3b, s3c, ⟨_, s3⟩⟩, ⟨s4a, s4b, s4c, ⟨_, s4⟩⟩, y4⟩
def At58 (w : World) (b o : Nat) (d : D) : Prop := ∃ (A2 : Option Addr) (c2 : Nat) (A3 : Option Addr) (c3 : Nat) (A4 : Option Addr) (c4 : Nat) (A5 : Option Addr) (c5 : Nat) (A6 : Option Addr) (c6 : Nat), w.cell? ⟨b, o, none⟩ = some (.int .i64 (d.f 0).n) ∧ w.cell? ⟨b, o + 1, none⟩ = some (.string (d.f 1).s) ∧ w.cell? ⟨b, o + 2, none⟩ = some (.slice A2 (d.f 2).l.length c2) ∧ w.cell? ⟨b, o + 3, none⟩ = some (.slice A3 (d.f 3).l.length c3) ∧ w.cell? ⟨b, o + 4, none⟩ = some (.slice A4 (d.f 4).l.length c4) ∧ w.cell? ⟨b, o + 5, none⟩ = some (.slice A5 (d.f 5).l.length c5) ∧ w.cell? ⟨b, o + 6, none⟩ = some (.slice A6 (d.f 6).l.length c6) ∧ (-9223372036854775808 ≤ (d.f 0).n ∧ (d.f 0).n ≤ 9223372036854775807) ∧ (d.f 1).s.size ≤ maxLen ∧ ((d.f 2).l.length ≤ c2 ∧ c2 ≤ maxLen ∧ (A2 = none → c2 = 0) ∧ Rs w 9 A2 (d.f 2).l) ∧ ((d.f 3).l.length ≤ c3 ∧ c3 ≤ maxLen ∧ (A3 = none → c3 = 0) ∧ Rs w 101 A3 (d.f 3).l) ∧ ((d.f 4).l.length ≤ c4 ∧ c4 ≤ maxLen ∧ (A4 = none → c4 = 0) ∧ Rs w 64 A4 (d.f 4).l) ∧ ((d.f 5).l.length ≤ c5 ∧ c5 ≤ maxLen ∧ (A5 = none → c5 = 0) ∧ Rs w 112 A5 (d.f 5).l) ∧ ((d.f 6).l.length ≤ c6 ∧ c6 ≤ maxLen ∧ (A6 = none → c6 = 0) ∧ Rs w 132 A6 (d.f 6).l) ∧ Rv w 58 #[.int .i64 (d.f 0).n, .string (d.f 1).s, .slice A2 (d.f 2).l.length c2, .slice A3 (d.f 3).l.length c3, .slice A4 (d.f 4).l.length c4, .slice A5 (d.f 5).l.length c5, .slice A6 (d.f 6).l.length c6] d
set_option maxRecDepth 100000 in
theorem at58 {w : World} {A : Option Addr} {l : List D} (h : Rs w 58 A l) (hp : 0 < l.length) : ∃ b off, A = some ⟨b, off, none⟩ ∧ b < w.heap.size ∧ ∀ i, i < l.length → At58 w b (off + i * 7) (gD l i) := by
  obtain ⟨k, h⟩ := h
  obtain ⟨b, off, hA, hb, hi⟩ := h hp (by rw [cells58]; omega)
  refine ⟨b, off, hA, hb, fun i hil => ?_⟩
  obtain ⟨ys, y1, y2, y3⟩ := hi i hil
  rw [cells58] at y2
  have y4 : Rv w 58 ys.toArray (gD l i) := ⟨k, by simpa using y3⟩
  obtain ⟨A2, c2, A3, c3, A4, c4, A5, c5, A6, c6, rfl, r0, r1, ⟨s2a, s2b, s2c, s2⟩, ⟨s3a, s3b, s3c, s3⟩, ⟨s4a, s4b, s4c, s4⟩, ⟨s5a, s5b, s5c, s5⟩, ⟨s6a, s6b, s6c, s6⟩⟩ := open58_any y3
  exact ⟨A2, c2, A3, c3, A4, c4, A5, c5, A6, c6, y2 0 _ rfl, y2 1 _ rfl, y2 2 _ rfl, y2 3 _ rfl, y2 4 _ rfl, y2 5 _ rfl, y2 6 _ rfl, wfr r0, r1, ⟨s2a, s2b, s2c, ⟨_, s2⟩⟩, ⟨s3a, s3b, s3c, ⟨_, s3⟩⟩, ⟨s4a, s4b, s4c, ⟨_, s4⟩⟩, ⟨s5a, s5b, s5c, ⟨_, s5⟩⟩, ⟨s6a, s6b, s6c, ⟨_, s6⟩⟩, y4⟩
end Go.Proofs.YtohneabalakmeaaDoor
namespace Go.Proofs.YtohneabalakmeaaDoor
open Go.RowKit
attribute [local irreducible] wpList Calls Code.wp
/-- some bool comes back -/
def Sb (w : World) (e : Ending) (w' : World) : Prop := ∃ b, e = .returned (.bool b) ∧ Below w.heap.size w w'
end Go.Proofs.YtohneabalakmeaaDoor
namespace Go.Proofs.YtohneabalakmeaaDoor
open Go.RowKit
attribute [local irreducible] wpList Calls Code.wp
/-- the value's cells lie at an address; with fuel -/
def AtV (k : Nat) (w : World) (b o : Nat) (d : D) : Prop := ∃ (A3 : Option Addr) (c3 : Nat) (A4 : Option Addr) (c4 : Nat), w.cell? ⟨b, o, none⟩ = some (.int .i64 (d.f 0).n) ∧ w.cell? ⟨b, o + 1, none⟩ = some (.int .i64 (d.f 1).n) ∧ w.cell? ⟨b, o + 2, none⟩ = some (.string (d.f 2).s) ∧ w.cell? ⟨b, o + 3, none⟩ = some (.slice A3 (d.f 3).l.length c3) ∧ w.cell? ⟨b, o + 4, none⟩ = some (.slice A4 (d.f 4).l.length c4) ∧
  Rep Tryd.prog w (fun b => b < w.heap.size) k 49 [.int .i64 (d.f 0).n, .int .i64 (d.f 1).n, .string (d.f 2).s, .slice A3 (d.f 3).l.length c3, .slice A4 (d.f 4).l.length c4] d
set_option maxRecDepth 100000 in
theorem at_val {w : World} {k : Nat} {A : Option Addr} {l : List D} (h : Sl Tryd.prog w (fun b => b < w.heap.size) k 49 A l) (hp : 0 < l.length) : ∃ b off, A = some ⟨b, off, none⟩ ∧ b < w.heap.size ∧ ∀ i, i < l.length → AtV k w b (off + i * 5) (gD l i) := by
  obtain ⟨b, off, hA, hb, hi⟩ := h hp (by rw [cells49]; omega)
  refine ⟨b, off, hA, hb, fun i hil => ?_⟩
  obtain ⟨ys, y1, y2, y3⟩ := hi i hil
  rw [cells49] at y2
  have y4 := y3
  obtain ⟨A3, c3, A4, c4, rfl, -⟩ := open49_any y3
  exact ⟨A3, c3, A4, c4, y2 0 _ rfl, y2 1 _ rfl, y2 2 _ rfl, y2 3 _ rfl, y2 4 _ rfl, y4⟩
set_option maxRecDepth 100000 in
theorem in_val {w : World} {k : Nat} {cs : Array Value} {d : D} (h : Rep Tryd.prog w (fun b => b < w.heap.size) (k + 1) 49 cs.toList d) : ∃ (A3 : Option Addr) (c3 : Nat) (A4 : Option Addr) (c4 : Nat), cs = #[.int .i64 (d.f 0).n, .int .i64 (d.f 1).n, .string (d.f 2).s, .slice A3 (d.f 3).l.length c3, .slice A4 (d.f 4).l.length c4] ∧ ((-9223372036854775808 ≤ (d.f 0).n ∧ (d.f 0).n ≤ 9223372036854775807) ∧ (-9223372036854775808 ≤ (d.f 1).n ∧ (d.f 1).n ≤ 9223372036854775807) ∧ (d.f 2).s.size ≤ 9223372036854775807 ∧ (d.f 3).l.length ≤ 9223372036854775807 ∧ (d.f 4).l.length ≤ 9223372036854775807) ∧ Sl Tryd.prog w (fun b => b < w.heap.size) k 49 A3 (d.f 3).l ∧ Sl Tryd.prog w (fun b => b < w.heap.size) k 9 A4 (d.f 4).l := by
  obtain ⟨A3, c3, A4, c4, e, r0, r1, r2, ⟨s3a, s3b, -, s3⟩, ⟨s4a, s4b, -, s4⟩⟩ := open49 h
  unfold maxLen at *
  exact ⟨A3, c3, A4, c4, Array.ext' e, ⟨wfr r0, wfr r1, by omega, by omega, by omega⟩, s3, s4⟩
/-- some number comes back -/
def Sn (w : World) (e : Ending) (w' : World) : Prop := ∃ n, e = .returned (.int .i64 n) ∧ Below w.heap.size w w'
def VT (k : Nat) (cs : Array Value) (d : D) (w0 w : World) : Prop := Below w0.heap.size w0 w ∧ Rep Tryd.prog w0 (fun b => b < w0.heap.size) k 49 cs.toList d
set_option maxRecDepth 100000 in
set_option maxHeartbeats 4000000 in
theorem sizeR : ∀ (k : Nat) (cs : Array Value) (d : D) (w0 w : World), VT k cs d w0 w → Calls Tryd.prog 39 #[.agg cs] w (Sn w) := by
  intro k
  induction k with
  | zero => intro cs d w0 w h; exact h.2.elim
  | succ k ih =>
    intro cs d w0 w ⟨h0, h⟩
    obtain ⟨A3, c3, A4, c4, rfl, ⟨-, -, -, hlen, -⟩, s3, -⟩ := in_val h
    have H0 := Lib.hid h0; have S3 := Lib.hid s3
    clear h h0 s3
    have IH := Lib.hid ih; clear ih
    go_enter Tryd.func39, Tryd.ntmps39
    go_wp2
    go_loopg [3, 4] (d.f 3).l.length (fun j x i wr => ∃ (m : Nat) (y : Int), m + j = (d.f 3).l.length ∧ i = .int .i64 m ∧ x = .int .i64 y ∧ Below w.heap.size w wr ∧ wr.heap[w.heap.size]? = some (.cells #[.int .i64 (d.f 0).n, .int .i64 (d.f 1).n, .string (d.f 2).s, .slice A3 (d.f 3).l.length c3, .slice A4 (d.f 4).l.length c4] 49 (0, 0)))
    case atStart => exact ⟨0, _, by omega, rfl, rfl, (Below.refl _ _).alloc (Nat.le_refl _) _, heap_at rfl⟩
    case round =>
      obtain ⟨m, y, hmj, rfl, rfl, hb, hx⟩ := hrel
      have k3 : wr.cell? ⟨w.heap.size, 3, none⟩ = some (.slice A3 (d.f 3).l.length c3) := cell_heap hx rfl
      have l0 := heap_lt hx
      have Hb := Lib.hid hb; have Hx := Lib.hid hx
      have Hmj := Lib.hid hmj; have hmn : m ≤ (d.f 3).l.length := by omega
      clear hmj hb hx
      by_cases hlt : m < (d.f 3).l.length
      · obtain ⟨b, off, rfl, hI, hat⟩ := at_val S3.out (by omega)
        obtain ⟨A3', c3', A4', c4', e0, e1, e2, e3, e4, rv⟩ := hat m hlt
        have Rv' := Lib.hid rv
        clear hat rv
        replace e0 := ((H0.out.trans (Hb.out.mono H0.out.size)).cell (p := ⟨b, _, none⟩) hI).trans e0
        replace e1 := ((H0.out.trans (Hb.out.mono H0.out.size)).cell (p := ⟨b, _, none⟩) hI).trans e1
        replace e2 := ((H0.out.trans (Hb.out.mono H0.out.size)).cell (p := ⟨b, _, none⟩) hI).trans e2
        replace e3 := ((H0.out.trans (Hb.out.mono H0.out.size)).cell (p := ⟨b, _, none⟩) hI).trans e3
        replace e4 := ((H0.out.trans (Hb.out.mono H0.out.size)).cell (p := ⟨b, _, none⟩) hI).trans e4
        go_wp2_with fail
        refine (IH.out _ (gD (d.f 3).l m) w0 wr ⟨H0.out.trans (Hb.out.mono H0.out.size), Rv'.out⟩).mono ?_
        rintro e w2 ⟨n2, rfl, b2⟩
        have Hb2 := Lib.hid (Hb.out.trans (b2.mono Hb.out.size))
        have Hx2 := Lib.hid ((b2.block _ l0).trans Hx.out)
        clear b2 e0 e1 e2 e3 e4 k3
        go_wp2
        go_roundg ((d.f 3).l.length - m - 1)
        case measure => have := Hmj.out; omega
        case rel => exact ⟨m + 1, _, by have := Hmj.out; omega, by go_num, rfl, Hb2.out, Hx2.out⟩
      · go_wp2
        go_ret
        exact ⟨_, rfl, Hb.out⟩
set_option maxRecDepth 100000 in
set_option maxHeartbeats 4000000 in
theorem depthR : ∀ (k : Nat) (cs : Array Value) (d : D) (w0 w : World), VT k cs d w0 w → Calls Tryd.prog 73 #[.agg cs] w (Sn w) := by
  intro k
  induction k with
  | zero => intro cs d w0 w h; exact h.2.elim
  | succ k ih =>
    intro cs d w0 w ⟨h0, h⟩
    obtain ⟨A3, c3, A4, c4, rfl, ⟨-, -, -, hlen, -⟩, s3, -⟩ := in_val h
    have H0 := Lib.hid h0; have S3 := Lib.hid s3
    clear h h0 s3
    have IH := Lib.hid ih; clear ih
    go_enter Tryd.func73, Tryd.ntmps73
    go_wp2
    go_loopg [3, 4] (d.f 3).l.length (fun j x i wr => ∃ (m : Nat) (y : Int), m + j = (d.f 3).l.length ∧ i = .int .i64 m ∧ x = .int .i64 y ∧ Below w.heap.size w wr ∧ wr.heap[w.heap.size]? = some (.cells #[.int .i64 (d.f 0).n, .int .i64 (d.f 1).n, .string (d.f 2).s, .slice A3 (d.f 3).l.length c3, .slice A4 (d.f 4).l.length c4] 49 (0, 0)))
    case atStart => exact ⟨0, _, by omega, rfl, rfl, (Below.refl _ _).alloc (Nat.le_refl _) _, heap_at rfl⟩
    case round =>
      obtain ⟨m, y, hmj, rfl, rfl, hb, hx⟩ := hrel
      have k3 : wr.cell? ⟨w.heap.size, 3, none⟩ = some (.slice A3 (d.f 3).l.length c3) := cell_heap hx rfl
      have l0 := heap_lt hx
      have Hb := Lib.hid hb; have Hx := Lib.hid hx
      have Hmj := Lib.hid hmj; have hmn : m ≤ (d.f 3).l.length := by omega
      clear hmj hb hx
      by_cases hlt : m < (d.f 3).l.length
      · obtain ⟨b, off, rfl, hI, hat⟩ := at_val S3.out (by omega)
        obtain ⟨A3', c3', A4', c4', e0, e1, e2, e3, e4, rv⟩ := hat m hlt
        have Rv' := Lib.hid rv
        clear hat rv
        replace e0 := ((H0.out.trans (Hb.out.mono H0.out.size)).cell (p := ⟨b, _, none⟩) hI).trans e0
        replace e1 := ((H0.out.trans (Hb.out.mono H0.out.size)).cell (p := ⟨b, _, none⟩) hI).trans e1
        replace e2 := ((H0.out.trans (Hb.out.mono H0.out.size)).cell (p := ⟨b, _, none⟩) hI).trans e2
        replace e3 := ((H0.out.trans (Hb.out.mono H0.out.size)).cell (p := ⟨b, _, none⟩) hI).trans e3
        replace e4 := ((H0.out.trans (Hb.out.mono H0.out.size)).cell (p := ⟨b, _, none⟩) hI).trans e4
        go_wp2_with fail
        refine (IH.out _ (gD (d.f 3).l m) w0 wr ⟨H0.out.trans (Hb.out.mono H0.out.size), Rv'.out⟩).mono ?_
        rintro e w2 ⟨n2, rfl, b2⟩
        have Hb2 := Lib.hid (Hb.out.trans (b2.mono Hb.out.size))
        have Hx2 := Lib.hid ((b2.block _ l0).trans Hx.out)
        clear b2 e0 e1 e2 e3 e4 k3
        go_wp2
        go_roundg ((d.f 3).l.length - m - 1)
        case measure => have := Hmj.out; omega
        case rel => exact ⟨m + 1, _, by have := Hmj.out; omega, by go_num, rfl, Hb2.out, Hx2.out⟩
      · go_wp2
        go_ret
        exact ⟨_, rfl, Hb.out⟩
end Go.Proofs.YtohneabalakmeaaDoor
namespace Go.Proofs.YtohneabalakmeaaDoor
open Go.RowKit
attribute [local irreducible] wpList Calls Code.wp
/-- the strings of a slice -/
theorem at_str {w : World} {A : Option Addr} {l : List D} (h : Rs w 9 A l) (hp : 0 < l.length) : ∃ b off, A = some ⟨b, off, none⟩ ∧ b < w.heap.size ∧ ∀ i, i < l.length → w.cell? ⟨b, off + i, none⟩ = some (.string (gD l i).s) ∧ (gD l i).s.size ≤ maxLen := by
  obtain ⟨k, h⟩ := h
  obtain ⟨b, off, hA, hb, hi⟩ := h hp (by rw [cells9]; omega)
  refine ⟨b, off, hA, hb, fun i hil => ?_⟩
  obtain ⟨ys, y1, y2, y3⟩ := hi i hil
  rw [cells9] at y2
  obtain ⟨rfl, hs⟩ := y3.str Tryd.underlying9
  have := y2 0 _ rfl
  rw [Nat.mul_one, Nat.add_zero] at this
  exact ⟨this, hs⟩
set_option maxRecDepth 100000 in
set_option maxHeartbeats 4000000 in
theorem twiceR (A : Option Addr) (l : List D) (c : Nat) (w0 w : World) (h0 : Below w0.heap.size w0 w) (h : Rs w0 9 A l) (hl : l.length ≤ 9223372036854775807) :
    Calls Tryd.prog 145 #[.slice A l.length c] w (Sb w) := by
  have H := Lib.hid h; have H0 := Lib.hid h0
  clear h h0
  go_enter Tryd.func145, Tryd.ntmps145
  go_wp2
  go_loopg [3] l.length (fun j i wr => ∃ m : Nat, m + j = l.length ∧ i = .int .i64 m ∧ Below w.heap.size w wr)
  case atStart => exact ⟨0, by omega, rfl, Below.refl _ _⟩
  case round =>
    obtain ⟨m, hmj, rfl, hb⟩ := hrel
    have Hb := Lib.hid hb
    have Hmj := Lib.hid hmj; have hmn : m ≤ l.length := by omega
    clear hmj hb
    by_cases hlt : m < l.length
    · obtain ⟨b, off, rfl, hI, hat⟩ := at_str H.out (by omega)
      obtain ⟨e0, -⟩ := hat m hlt
      have Hat := Lib.hid hat
      clear hat
      have Hmj2 := Lib.hid hlt
      obtain ⟨wo, rfl⟩ : ∃ wo : World, wo = wr := ⟨_, rfl⟩
      go_wp2
      go_loopg [4] m (fun j i wi => ∃ k : Nat, k + j = m ∧ i = .int .i64 k ∧ Below w.heap.size w wi)
      case atStart => exact ⟨0, by omega, rfl, Hb.out⟩
      case round =>
        obtain ⟨k, hkj, rfl, hb⟩ := hrel
        have Hbi := Lib.hid hb
        have Hkj := Lib.hid hkj; have hkn : k ≤ m := by omega
        clear hkj hb
        by_cases hlk : k < m
        · obtain ⟨e1, -⟩ := Hat.out k (by omega)
          have e2 := ((H0.out.trans (Hbi.out.mono H0.out.size)).cell (p := ⟨b, _, none⟩) hI).trans e0
          replace e1 := ((H0.out.trans (Hbi.out.mono H0.out.size)).cell (p := ⟨b, _, none⟩) hI).trans e1
          have z1 : (m : Int) < (l.length : Int) := by omega
          have z2 : (k : Int) < (l.length : Int) := by omega
          have E0 := Lib.hid e0; clear e0
          cases hq : ((gD l m).s.toList == (gD l k).s.toList)
          · go_wp2
            go_quiet (fail)
            go_wp2
            go_roundg (m - k - 1)
            case measure => have := Hkj.out; omega
            case rel => exact ⟨k + 1, by have := Hkj.out; omega, by go_num, below_draws Hbi.out _⟩
          · go_wp2
            go_quiet (fail)
            go_wp2
            go_ret
            exact ⟨_, rfl, below_draws Hbi.out _⟩
        · go_wp2
          go_roundg (l.length - m - 1)
          case measure => have := Hmj.out; omega
          case rel => exact ⟨m + 1, by have := Hmj.out; omega, by go_num, Hbi.out⟩
    · go_wp2
      go_ret
      exact ⟨_, rfl, Hb.out⟩
/-- whether a node is right comes back; if it is, a bool's number is 0 or 1 -/
def Nd (d : D) (w : World) (e : Ending) (w' : World) : Prop := ∃ b, e = .returned (.bool b) ∧ Below w.heap.size w w' ∧ (b = true → (d.f 0).n = 1 → (d.f 1).n = 0 ∨ (d.f 1).n = 1)
set_option maxRecDepth 100000 in
set_option maxHeartbeats 4000000 in
theorem nodeR (k : Nat) (cs : Array Value) (d : D) (w0 w : World) (h : VT (k + 1) cs d w0 w) (b : Bool) : Calls Tryd.prog 109 #[.agg cs, .bool b] w (Nd d w) := by
  obtain ⟨A3, c3, A4, c4, rfl, ⟨h0, h1, h2, h3, h4⟩, s3, s4⟩ := in_val h.2
  have H0 := Lib.hid h.1; have S4 := Lib.hid s4
  clear s3 s4 h
  have HB := Lib.hid (fun o => (Below.refl w.heap.size w).alloc (Nat.le_refl _) o)
  by_cases k1 : (d.f 0).n = 1
  · by_cases i0 : (d.f 1).n = 0
    · go_enter Tryd.func109, Tryd.ntmps109
      go_wp2
      all_goals
        go_ret
        exact ⟨_, rfl, HB.out _, fun _ _ => .inl i0⟩
    by_cases i1 : (d.f 1).n = 1
    · go_enter Tryd.func109, Tryd.ntmps109
      go_wp2
      all_goals
        go_ret
        exact ⟨_, rfl, HB.out _, fun _ _ => .inr i1⟩
    · go_enter Tryd.func109, Tryd.ntmps109
      go_wp2
      all_goals
        go_ret
        exact ⟨_, rfl, HB.out _, fun h => by simp at h⟩
  · have HN := Lib.hid (fun w => nameR (d.f 2).s w h2)
    have HT := Lib.hid (fun w h => twiceR A4 (d.f 4).l c4 w0 w h ⟨_, S4.out⟩ h4)
    clear S4
    go_enter Tryd.func109, Tryd.ntmps109
    go_wp2_with (first | (go_at_call 24; refine (HN.out _).mono ?_; rintro e w' ⟨rfl, rfl⟩) | (go_at_call 145; refine (HT.out _ (H0.out.trans ((HB.out _).mono H0.out.size))).mono ?_; rintro e w2 ⟨bt, rfl, b2⟩; have B2 := Lib.hid ((HB.out _).trans (b2.mono (HB.out _).size)); clear b2))
    all_goals
      go_ret
      first
        | exact ⟨_, rfl, HB.out _, fun _ h => absurd h k1⟩
        | exact ⟨_, rfl, B2.out, fun _ h => absurd h k1⟩
end Go.Proofs.YtohneabalakmeaaDoor
namespace Go.Proofs.YtohneabalakmeaaDoor
open Go.RowKit
attribute [local irreducible] wpList Calls Code.wp
/-- the bools within are 0 or 1 -/
def goodF : Nat → D → Prop
  | 0, _ => True
  | k + 1, d => ((d.f 0).n = 1 → (d.f 1).n = 0 ∨ (d.f 1).n = 1) ∧ ∀ i, i < (d.f 3).l.length → goodF k (gD (d.f 3).l i)
/-- whether a value is right comes back -/
def Wh (k : Nat) (d : D) (w : World) (e : Ending) (w' : World) : Prop := ∃ b, e = .returned (.bool b) ∧ Below w.heap.size w w' ∧ (b = true → goodF k d)
set_option maxRecDepth 100000 in
set_option maxHeartbeats 4000000 in
theorem wholeR : ∀ (k : Nat) (cs : Array Value) (d : D) (w0 w : World), VT k cs d w0 w → Calls Tryd.prog 74 #[.agg cs, .bool true] w (Wh k d w) := by
  intro k
  induction k with
  | zero => intro cs d w0 w h; exact h.2.elim
  | succ k ih =>
    intro cs d w0 w h
    have HN := Lib.hid (fun w (h0 : Below w0.heap.size w0 w) => nodeR k cs d w0 w ⟨h0, h.2⟩ true)
    obtain ⟨h0, h⟩ := h
    obtain ⟨A3, c3, A4, c4, rfl, ⟨-, -, -, hlen, hlen4⟩, s3, s4⟩ := in_val h
    have H0 := Lib.hid h0; have S3 := Lib.hid s3; have S4 := Lib.hid s4
    clear h h0 s3 s4
    have IH := Lib.hid ih; clear ih
    have HB := Lib.hid ((Below.refl w.heap.size w).alloc (Nat.le_refl _) (.cells #[.int .i64 (d.f 0).n, .int .i64 (d.f 1).n, .string (d.f 2).s, .slice A3 (d.f 3).l.length c3, .slice A4 (d.f 4).l.length c4] 49))
    have XD := Lib.hid (heap_at (w := w) (o := .cells #[.int .i64 (d.f 0).n, .int .i64 (d.f 1).n, .string (d.f 2).s, .slice A3 (d.f 3).l.length c3, .slice A4 (d.f 4).l.length c4] 49) rfl)
    go_enter Tryd.func74, Tryd.ntmps74
    go_wp2_with fail
    refine (HN.out _ (H0.out.trans (HB.out.mono H0.out.size))).mono ?_
    rintro e w1 ⟨bn, rfl, b1, hn⟩
    have B1 := Lib.hid (HB.out.trans (b1.mono HB.out.size))
    have X1 := Lib.hid ((b1.block _ (heap_lt XD.out)).trans XD.out)
    have Hn := Lib.hid hn
    clear b1 hn
    cases bn
    · go_wp2
      go_ret
      exact ⟨_, rfl, B1.out, fun h => by cases h⟩
    have Hn2 := Lib.hid (Hn.out rfl)
    go_wp2
    go_loopg [5] (d.f 4).l.length (fun j i wr => ∃ m : Nat, m + j = (d.f 4).l.length ∧ i = .int .i64 m ∧ Below w.heap.size w wr ∧ wr.heap[w.heap.size]? = some (.cells #[.int .i64 (d.f 0).n, .int .i64 (d.f 1).n, .string (d.f 2).s, .slice A3 (d.f 3).l.length c3, .slice A4 (d.f 4).l.length c4] 49 (0, 0)))
    case atStart => exact ⟨0, by omega, rfl, B1.out, X1.out⟩
    case round =>
      obtain ⟨m, hmj, rfl, hb, hx⟩ := hrel
      have k4 : wr.cell? ⟨w.heap.size, 4, none⟩ = some (.slice A4 (d.f 4).l.length c4) := cell_heap hx rfl
      have l0 := heap_lt hx
      have Hb := Lib.hid hb; have Hx := Lib.hid hx
      have Hmj := Lib.hid hmj; have hmn : m ≤ (d.f 4).l.length := by omega
      clear hmj hb hx
      by_cases hlt : m < (d.f 4).l.length
      · obtain ⟨b, off, rfl, hI, hat⟩ := at_str ⟨_, S4.out⟩ (by omega)
        obtain ⟨e0, es⟩ := hat m hlt
        clear hat
        unfold maxLen at es
        replace e0 := ((H0.out.trans (Hb.out.mono H0.out.size)).cell (p := ⟨b, _, none⟩) hI).trans e0
        go_wp2_with fail
        refine (nameR (gD (d.f 4).l m).s wr (by omega)).mono ?_
        rintro e w2 ⟨rfl, rfl⟩
        cases nameB (gD (d.f 4).l m).s
        · go_wp2
          go_ret
          exact ⟨_, rfl, Hb.out, fun h => by cases h⟩
        · go_wp2
          go_roundg ((d.f 4).l.length - m - 1)
          case measure => have := Hmj.out; omega
          case rel => exact ⟨m + 1, by have := Hmj.out; omega, by go_num, Hb.out, Hx.out⟩
      · have Hb1 := Lib.hid Hb.out; have Hx1 := Lib.hid Hx.out
        clear Hb Hx Hmj hmn
        obtain ⟨wo, rfl⟩ : ∃ wo : World, wo = wr := ⟨_, rfl⟩
        go_wp2
        clear k4 l0 hlt
        go_loopg [6] (d.f 3).l.length (fun j i wr => ∃ m : Nat, m + j = (d.f 3).l.length ∧ i = .int .i64 m ∧ Below w.heap.size w wr ∧ wr.heap[w.heap.size]? = some (.cells #[.int .i64 (d.f 0).n, .int .i64 (d.f 1).n, .string (d.f 2).s, .slice A3 (d.f 3).l.length c3, .slice A4 (d.f 4).l.length c4] 49 (0, 0)) ∧ ∀ i, i < m → goodF k (gD (d.f 3).l i))
        case atStart => exact ⟨0, by omega, rfl, Hb1.out, Hx1.out, fun i h => by omega⟩
        case round =>
          obtain ⟨m, hmj, rfl, hb, hx, hg⟩ := hrel
          have k3 : wr.cell? ⟨w.heap.size, 3, none⟩ = some (.slice A3 (d.f 3).l.length c3) := cell_heap hx rfl
          have l0 := heap_lt hx
          have Hb := Lib.hid hb; have Hx := Lib.hid hx; have Hg := Lib.hid hg
          have Hmj := Lib.hid hmj; have hmn : m ≤ (d.f 3).l.length := by omega
          clear hmj hb hx hg
          by_cases hlt : m < (d.f 3).l.length
          · obtain ⟨b, off, rfl, hI, hat⟩ := at_val S3.out (by omega)
            obtain ⟨A3', c3', A4', c4', e0, e1, e2, e3, e4, rv⟩ := hat m hlt
            have Rv' := Lib.hid rv
            clear hat rv
            replace e0 := ((H0.out.trans (Hb.out.mono H0.out.size)).cell (p := ⟨b, _, none⟩) hI).trans e0
            replace e1 := ((H0.out.trans (Hb.out.mono H0.out.size)).cell (p := ⟨b, _, none⟩) hI).trans e1
            replace e2 := ((H0.out.trans (Hb.out.mono H0.out.size)).cell (p := ⟨b, _, none⟩) hI).trans e2
            replace e3 := ((H0.out.trans (Hb.out.mono H0.out.size)).cell (p := ⟨b, _, none⟩) hI).trans e3
            replace e4 := ((H0.out.trans (Hb.out.mono H0.out.size)).cell (p := ⟨b, _, none⟩) hI).trans e4
            go_wp2_with fail
            refine (IH.out _ (gD (d.f 3).l m) w0 wr ⟨H0.out.trans (Hb.out.mono H0.out.size), Rv'.out⟩).mono ?_
            rintro e w2 ⟨b2, rfl, bb, h2⟩
            have Hb2 := Lib.hid (Hb.out.trans (bb.mono Hb.out.size))
            have Hx2 := Lib.hid ((bb.block _ l0).trans Hx.out)
            have H2 := Lib.hid h2
            clear bb e0 e1 e2 e3 e4 k3 h2
            cases b2
            · go_wp2
              go_ret
              exact ⟨_, rfl, Hb2.out, fun h => by cases h⟩
            · have HG := Lib.hid (show ∀ i, i < m + 1 → goodF k (gD (d.f 3).l i) from fun i hi => (Nat.lt_succ_iff_lt_or_eq.1 hi).elim (fun h' => Hg.out i h') (fun h' => by rw [h']; exact H2.out rfl))
              go_wp2
              go_roundg ((d.f 3).l.length - m - 1)
              case measure => have := Hmj.out; omega
              case rel => exact ⟨m + 1, by have := Hmj.out; omega, by go_num, Hb2.out, Hx2.out, HG.out⟩
          · have HG := Lib.hid (show goodF (k + 1) d from ⟨Hn2.out, fun i hi => Hg.out i (by omega)⟩)
            go_wp2
            go_ret
            exact ⟨_, rfl, Hb.out, fun _ => HG.out⟩
set_option maxRecDepth 100000 in
set_option maxHeartbeats 4000000 in
theorem literalR (k : Nat) (cs : Array Value) (d : D) (w0 w : World) (h : VT (k + 1) cs d w0 w) : Calls Tryd.prog 40 #[.agg cs] w (Wh (k + 1) d w) := by
  have HS := Lib.hid (fun w (h0 : Below w0.heap.size w0 w) => sizeR (k + 1) cs d w0 w ⟨h0, h.2⟩)
  have HD := Lib.hid (fun w (h0 : Below w0.heap.size w0 w) => depthR (k + 1) cs d w0 w ⟨h0, h.2⟩)
  have HW := Lib.hid (fun w (h0 : Below w0.heap.size w0 w) => wholeR (k + 1) cs d w0 w ⟨h0, h.2⟩)
  obtain ⟨h0, h⟩ := h
  obtain ⟨A3, c3, A4, c4, rfl, -, -, -⟩ := in_val h
  have H0 := Lib.hid h0
  clear h h0
  have HB := Lib.hid ((Below.refl w.heap.size w).alloc (Nat.le_refl _) (.cells #[.int .i64 (d.f 0).n, .int .i64 (d.f 1).n, .string (d.f 2).s, .slice A3 (d.f 3).l.length c3, .slice A4 (d.f 4).l.length c4] 49))
  have XD := Lib.hid (heap_at (w := w) (o := .cells #[.int .i64 (d.f 0).n, .int .i64 (d.f 1).n, .string (d.f 2).s, .slice A3 (d.f 3).l.length c3, .slice A4 (d.f 4).l.length c4] 49) rfl)
  go_enter Tryd.func40, Tryd.ntmps40
  go_wp2_with fail
  refine (HS.out _ (H0.out.trans (HB.out.mono H0.out.size))).mono ?_
  rintro e w1 ⟨n1, rfl, b1⟩
  have B1 := Lib.hid (HB.out.trans (b1.mono HB.out.size))
  have X1 := Lib.hid ((b1.block _ (heap_lt XD.out)).trans XD.out)
  clear b1
  by_cases hn1 : n1 ≤ 4096
  · have K := Lib.hid X1.out
    have k0 := cell_heap (o := 0) X1.out rfl
    have k1 := cell_heap (o := 1) X1.out rfl
    have k2 := cell_heap (o := 2) X1.out rfl
    have k3 := cell_heap (o := 3) X1.out rfl
    have k4 := cell_heap (o := 4) X1.out rfl
    have l0 := heap_lt X1.out
    go_wp2_with fail
    refine (HD.out _ (H0.out.trans (B1.out.mono H0.out.size))).mono ?_
    rintro e w2 ⟨n2, rfl, b2⟩
    have B2 := Lib.hid (B1.out.trans (b2.mono B1.out.size))
    have X2 := Lib.hid ((b2.block _ (heap_lt X1.out)).trans X1.out)
    clear b2 k0 k1 k2 k3 k4 l0
    by_cases hn2 : n2 ≤ 24
    · have k0 := cell_heap (o := 0) X2.out rfl
      have k1 := cell_heap (o := 1) X2.out rfl
      have k2 := cell_heap (o := 2) X2.out rfl
      have k3 := cell_heap (o := 3) X2.out rfl
      have k4 := cell_heap (o := 4) X2.out rfl
      have l0 := heap_lt X2.out
      go_wp2_with fail
      refine (HW.out _ (H0.out.trans (B2.out.mono H0.out.size))).mono ?_
      rintro e w3 ⟨b, rfl, b3, hg⟩
      have B3 := Lib.hid (B2.out.trans (b3.mono B2.out.size))
      have HG := Lib.hid hg
      clear b3 hg k0 k1 k2 k3 k4 l0
      go_wp2
      go_ret
      exact ⟨_, rfl, B3.out, HG.out⟩
    · go_wp2
      go_ret
      exact ⟨_, rfl, B2.out, fun h => by simp at h⟩
  · go_wp2
    go_ret
    exact ⟨_, rfl, B1.out, fun h => by simp at h⟩
end Go.Proofs.YtohneabalakmeaaDoor
namespace Go.Proofs.YtohneabalakmeaaDoor
open Go.RowKit
attribute [local irreducible] wpList Calls Code.wp
mutual
/-- how many values and letters a datum holds -/
def bulkD : D → Nat
  | .int _ => 1
  | .bool _ => 1
  | .str s => s.size + 1
  | .list l => bulkL l + 1
  | .obj l => bulkL l + 1
def bulkL : List D → Nat
  | [] => 0
  | d :: r => bulkD d + bulkL r
 end
/-- the datum has a type's shape -/
def Fits (P : Program) : Nat → TypeId → D → Prop
  | 0, _, _ => False
  | k + 1, t, d =>
    match P.underlying t with
    | some .bool => ∃ b, d = .bool b
    | some (.int _) => ∃ n, d = .int n
    | some .string => ∃ s, d = .str s
    | some (.slice e) => ∃ l, d = .list l ∧ ∀ i, i < l.length → Fits P k e (gD l i)
    | some (.struct fs) => ∃ l, d = .obj l ∧ l.length = fs.size ∧ ∀ j f, fs[j]? = some f → Fits P k f.type (gD l j)
    | _ => True
theorem Fits.up {P : Program} : ∀ {k : Nat} {t : TypeId} {d : D}, Fits P k t d → Fits P (k + 1) t d
  | 0, _, _, h => h.elim
  | k + 1, t, d, h => by
    unfold Fits at h ⊢
    split at h
    · exact h
    · exact h
    · exact h
    · obtain ⟨l, h1, h2⟩ := h
      exact ⟨l, h1, fun i hi => Fits.up (h2 i hi)⟩
    · obtain ⟨l, h1, h2, h3⟩ := h
      exact ⟨l, h1, h2, fun j f hf => Fits.up (h3 j f hf)⟩
    · trivial
theorem bulk_pos {H : Type} (d : DataW H) : 1 ≤ Rows.uptoBulk d := by
  cases d with
  | lit x => cases x <;> simp [Rows.uptoBulk]
  | _ => simp [Rows.uptoBulk]
theorem bulk_lists {H : Type} : ∀ (l : List D) (xs : List (DataW H × List MemPlace)), l.length = xs.length → (∀ i (h : i < xs.length), bulkD (gD l i) ≤ Rows.uptoBulk (xs[i]'h).1) → bulkL l ≤ Rows.uptoBulkAll (xs.map (·.1))
  | [], _, _, _ => by simp [bulkL]
  | d :: r, [], h, _ => by simp at h
  | d :: r, x :: xs, h, hb => by
    have h0 := hb 0 (by simp)
    have h1 := bulk_lists r xs (by simpa using h) fun i hi => by
      have := hb (i + 1) (by simpa using hi)
      simpa [gD] using this
    simp only [List.map_cons, Rows.uptoBulkAll, bulkL]
    have e : gD (d :: r) 0 = d := rfl
    rw [e] at h0
    have e2 : (((x :: xs)[0]'(by simp)).1) = x.1 := rfl
    rw [e2] at h0
    omega
theorem rep_of_trod2 {P : Program} {w : World} {H : Type} {enc : TypeId × Value → H} {held : Bool} {sp : Nat → Bool} : ∀ {k : Nat} {t : TypeId} {cs : List Value} {x : DataW H × List MemPlace},
    DataW.trod enc P w 0 sp held k t cs = some x → ∃ d, Rep P w (fun b => b < w.heap.size) k t cs d ∧ Fits P k t d ∧ bulkD d ≤ Rows.uptoBulk x.1
  | 0, t, cs, x, h => by simp [DataW.trod] at h
  | k + 1, t, cs, x, h => by
    have hpos := bulk_pos x.1
    cases hu : P.underlying t with
    | none => exact ⟨default, by unfold Rep; rw [hu]; trivial, by unfold Fits; rw [hu]; trivial, by show bulkD (.obj []) ≤ _; simpa [bulkD, bulkL] using hpos⟩
    | some ty =>
      cases ty
      case bool =>
        obtain ⟨b, rfl, _⟩ := DataW.trod_bool hu h
        exact ⟨.bool b, .mk_bool hu, by unfold Fits; rw [hu]; exact ⟨b, rfl⟩, by simpa [bulkD] using hpos⟩
      case int q =>
        obtain ⟨n, rfl, _, hw⟩ := DataW.trod_int hu h
        exact ⟨.int n, .mk_int hu hw, by unfold Fits; rw [hu]; exact ⟨n, rfl⟩, by simpa [bulkD] using hpos⟩
      case string =>
        obtain ⟨s, rfl, hx, hs⟩ := DataW.trod_string hu h
        refine ⟨.str s, .mk_str hu hs, by unfold Fits; rw [hu]; exact ⟨s, rfl⟩, ?_⟩
        rw [hx]
        simp [bulkD, Rows.uptoBulk]
      case slice e =>
        rcases DataW.trod_slice hu h with ⟨rfl, _⟩ | ⟨a, len, cap, elems, rest, n, hk, rfl, hx, _, hle, hcm, hlen, hel, _⟩
        · exact ⟨.list [], .mk_slice hu rfl (by simp) (by simp [maxLen]) (fun _ => rfl) (Sl.nil _ _ _), by unfold Fits; rw [hu]; exact ⟨[], rfl, fun i hi => by simp at hi⟩, by simpa [bulkD, bulkL] using hpos⟩
        · obtain rfl : n = k := by omega
          have hx2 : ∀ i, i < len → ∃ d, (∃ ys, w.cells? 0 (a.add (i * P.cellsOf e)) (P.cellsOf e) = some ys ∧ Rep P w (fun b => b < w.heap.size) n e ys d) ∧ Fits P n e d ∧ ∀ h : i < elems.length, bulkD d ≤ Rows.uptoBulk (elems[i]'h).1 := fun i hi => by
            have h1 := hel i hi
            rw [List.getElem?_eq_getElem (by omega)] at h1
            obtain ⟨ys, y1, y2⟩ := Option.bind_eq_some_iff.1 h1
            obtain ⟨d, hd, hd2, hd3⟩ := rep_of_trod2 y2
            exact ⟨d, ⟨ys, y1, hd⟩, hd2, fun _ => hd3⟩
          obtain ⟨l, hll, hl⟩ := choose_list hx2
          refine ⟨.list l, .mk_slice hu hll.symm (by omega) hcm (fun h => by cases h) ?_, by unfold Fits; rw [hu]; exact ⟨l, rfl, fun i hi => (hl i (by omega)).2.1⟩, ?_⟩
          · intro h0 hc
            obtain ⟨b, off, spot⟩ := a
            obtain ⟨⟨ys, y1, _⟩, _⟩ := hl 0 (by omega)
            obtain ⟨_, y3, y4⟩ := World.cells?_some y1
            have y5 := y4 0 hc
            rw [List.getElem?_eq_getElem (by omega)] at y5
            have hspot : spot = none := by simpa [Addr.add] using World.cell?_spot y5
            subst hspot
            have hbl : b < w.heap.size := by simpa [Addr.add] using block_lt_of_cell y5
            refine ⟨b, off, rfl, hbl, fun i hi => ?_⟩
            obtain ⟨⟨ys, y1, y2⟩, _⟩ := hl i (by omega)
            obtain ⟨_, y3, y4⟩ := World.cells?_some y1
            refine ⟨ys, y3, fun j u hu => ?_, y2⟩
            have hj : j < P.cellsOf e := by have := (List.getElem?_eq_some_iff.1 hu).1; omega
            have := y4 j hj
            rw [Go.WideShapes.add_plain, Go.WideShapes.add_plain, hu] at this
            exact this
          · have := bulk_lists l elems (by omega) fun i hi => (hl i (by omega)).2.2 hi
            rw [hx]
            simp only [bulkD, Rows.uptoBulk]
            omega
      case struct fs =>
        obtain ⟨xs, n, hk, hx, hcs, hxs, hf⟩ := DataW.trod_struct hu h
        obtain rfl : n = k := by omega
        have hx2 : ∀ j, j < fs.size → ∃ d, (∀ f, fs[j]? = some f → Rep P w (fun b => b < w.heap.size) n f.type ((cs.drop f.offset).take (P.cellsOf f.type)) d ∧ Fits P n f.type d) ∧ ∀ h : j < xs.length, bulkD d ≤ Rows.uptoBulk (xs[j]'h).1 := fun j hj => by
          have h1 := hf j fs[j] (Array.getElem?_eq_getElem hj)
          rw [List.getElem?_eq_getElem (by omega)] at h1
          obtain ⟨d, hd, hd2, hd3⟩ := rep_of_trod2 h1
          refine ⟨d, fun f hf => ?_, fun _ => hd3⟩
          rw [Array.getElem?_eq_getElem hj] at hf
          cases hf; exact ⟨hd, hd2⟩
        obtain ⟨l, hll, hl⟩ := choose_list hx2
        refine ⟨.obj l, .mk_struct hu hcs fun j f hjf => ((hl j (Array.getElem?_eq_some_iff.1 hjf).1).1 f hjf).1, by unfold Fits; rw [hu]; exact ⟨l, rfl, hll, fun j f hjf => ((hl j (Array.getElem?_eq_some_iff.1 hjf).1).1 f hjf).2⟩, ?_⟩
        have := bulk_lists l xs (by omega) fun i hi => (hl i (by omega)).2 hi
        rw [hx]
        simp only [bulkD, Rows.uptoBulk]
        omega
      all_goals exact ⟨default, by unfold Rep; rw [hu]; trivial, by unfold Fits; rw [hu]; trivial, by show bulkD (.obj []) ≤ _; simpa [bulkD, bulkL] using hpos⟩
end Go.Proofs.YtohneabalakmeaaDoor
namespace Go.Proofs.YtohneabalakmeaaDoor
open Go.RowKit
set_option maxRecDepth 100000 in
theorem fits49 {k : Nat} {d : D} (h : Fits Tryd.prog (k + 1) 49 d) : ∃ (x0 : Int) (x1 : Int) (x2 : ByteArray) (x3 : List D) (x4 : List D), d = .obj [.int x0, .int x1, .str x2, .list x3, .list x4] ∧ (∀ i, i < x3.length → Fits Tryd.prog (k - 1) 49 (gD x3 i)) ∧ (∀ i, i < x4.length → Fits Tryd.prog (k - 1) 9 (gD x4 i)) := by
  unfold Fits at h
  rw [Tryd.underlying49] at h
  obtain ⟨l, rfl, hl, hf⟩ := h
  have h0 := hf 0 _ rfl
  have h1 := hf 1 _ rfl
  have h2 := hf 2 _ rfl
  have h3 := hf 3 _ rfl
  have h4 := hf 4 _ rfl
  match l, hl with
  | [x0, x1, x2, x3, x4], _ =>
    cases k with
    | zero => exact h0.elim
    | succ k =>
      change Fits Tryd.prog (k + 1) 3 x0 at h0
      change Fits Tryd.prog (k + 1) 3 x1 at h1
      change Fits Tryd.prog (k + 1) 9 x2 at h2
      change Fits Tryd.prog (k + 1) 46 x3 at h3
      change Fits Tryd.prog (k + 1) 47 x4 at h4
      unfold Fits at h0
      rw [Tryd.underlying3] at h0
      unfold Fits at h1
      rw [Tryd.underlying3] at h1
      unfold Fits at h2
      rw [Tryd.underlying9] at h2
      unfold Fits at h3
      rw [Tryd.underlying46] at h3
      unfold Fits at h4
      rw [Tryd.underlying47] at h4
      obtain ⟨y0, rfl⟩ := h0
      obtain ⟨y1, rfl⟩ := h1
      obtain ⟨y2, rfl⟩ := h2
      obtain ⟨y3, rfl, z3⟩ := h3
      obtain ⟨y4, rfl, z4⟩ := h4
      exact ⟨y0, y1, y2, y3, y4, rfl, z3, z4⟩
set_option maxRecDepth 100000 in
theorem fits62 {k : Nat} {d : D} (h : Fits Tryd.prog (k + 1) 62 d) : ∃ (x0 : ByteArray) (x1 : List D), d = .obj [.str x0, .list x1] ∧ (∀ i, i < x1.length → Fits Tryd.prog (k - 1) 3 (gD x1 i)) := by
  unfold Fits at h
  rw [Tryd.underlying62] at h
  obtain ⟨l, rfl, hl, hf⟩ := h
  have h0 := hf 0 _ rfl
  have h1 := hf 1 _ rfl
  match l, hl with
  | [x0, x1], _ =>
    cases k with
    | zero => exact h0.elim
    | succ k =>
      change Fits Tryd.prog (k + 1) 9 x0 at h0
      change Fits Tryd.prog (k + 1) 60 x1 at h1
      unfold Fits at h0
      rw [Tryd.underlying9] at h0
      unfold Fits at h1
      rw [Tryd.underlying60] at h1
      obtain ⟨y0, rfl⟩ := h0
      obtain ⟨y1, rfl, z1⟩ := h1
      exact ⟨y0, y1, rfl, z1⟩
set_option maxRecDepth 100000 in
theorem fits103 {k : Nat} {d : D} (h : Fits Tryd.prog (k + 1) 103 d) : ∃ (x0 : ByteArray) (x1 : D), d = .obj [.str x0, x1] ∧ Fits Tryd.prog k 49 x1 := by
  unfold Fits at h
  rw [Tryd.underlying103] at h
  obtain ⟨l, rfl, hl, hf⟩ := h
  have h0 := hf 0 _ rfl
  have h1 := hf 1 _ rfl
  match l, hl with
  | [x0, x1], _ =>
    cases k with
    | zero => exact h0.elim
    | succ k =>
      change Fits Tryd.prog (k + 1) 9 x0 at h0
      change Fits Tryd.prog (k + 1) 49 x1 at h1
      unfold Fits at h0
      rw [Tryd.underlying9] at h0
      obtain ⟨y0, rfl⟩ := h0
      exact ⟨y0, x1, rfl, h1⟩
set_option maxRecDepth 100000 in
theorem fits101 {k : Nat} {d : D} (h : Fits Tryd.prog (k + 1) 101 d) : ∃ (x0 : ByteArray) (x1 : List D), d = .obj [.str x0, .list x1] ∧ (∀ i, i < x1.length → Fits Tryd.prog (k - 1) 103 (gD x1 i)) := by
  unfold Fits at h
  rw [Tryd.underlying101] at h
  obtain ⟨l, rfl, hl, hf⟩ := h
  have h0 := hf 0 _ rfl
  have h1 := hf 1 _ rfl
  match l, hl with
  | [x0, x1], _ =>
    cases k with
    | zero => exact h0.elim
    | succ k =>
      change Fits Tryd.prog (k + 1) 9 x0 at h0
      change Fits Tryd.prog (k + 1) 99 x1 at h1
      unfold Fits at h0
      rw [Tryd.underlying9] at h0
      unfold Fits at h1
      rw [Tryd.underlying99] at h1
      obtain ⟨y0, rfl⟩ := h0
      obtain ⟨y1, rfl, z1⟩ := h1
      exact ⟨y0, y1, rfl, z1⟩
set_option maxRecDepth 100000 in
theorem fits132 {k : Nat} {d : D} (h : Fits Tryd.prog (k + 1) 132 d) : ∃ (x0 : ByteArray) (x1 : D) (x2 : Bool) (x3 : D) (x4 : List D), d = .obj [.str x0, x1, .bool x2, x3, .list x4] ∧ Fits Tryd.prog k 62 x1 ∧ Fits Tryd.prog k 49 x3 ∧ (∀ i, i < x4.length → Fits Tryd.prog (k - 1) 101 (gD x4 i)) := by
  unfold Fits at h
  rw [Tryd.underlying132] at h
  obtain ⟨l, rfl, hl, hf⟩ := h
  have h0 := hf 0 _ rfl
  have h1 := hf 1 _ rfl
  have h2 := hf 2 _ rfl
  have h3 := hf 3 _ rfl
  have h4 := hf 4 _ rfl
  match l, hl with
  | [x0, x1, x2, x3, x4], _ =>
    cases k with
    | zero => exact h0.elim
    | succ k =>
      change Fits Tryd.prog (k + 1) 9 x0 at h0
      change Fits Tryd.prog (k + 1) 62 x1 at h1
      change Fits Tryd.prog (k + 1) 4 x2 at h2
      change Fits Tryd.prog (k + 1) 49 x3 at h3
      change Fits Tryd.prog (k + 1) 53 x4 at h4
      unfold Fits at h0
      rw [Tryd.underlying9] at h0
      unfold Fits at h2
      rw [Tryd.underlying4] at h2
      unfold Fits at h4
      rw [Tryd.underlying53] at h4
      obtain ⟨y0, rfl⟩ := h0
      obtain ⟨y2, rfl⟩ := h2
      obtain ⟨y4, rfl, z4⟩ := h4
      exact ⟨y0, x1, y2, x3, y4, rfl, h1, h3, z4⟩
set_option maxRecDepth 100000 in
theorem fits64 {k : Nat} {d : D} (h : Fits Tryd.prog (k + 1) 64 d) : ∃ (x0 : ByteArray) (x1 : List D) (x2 : D) (x3 : List D), d = .obj [.str x0, .list x1, x2, .list x3] ∧ (∀ i, i < x1.length → Fits Tryd.prog (k - 1) 132 (gD x1 i)) ∧ Fits Tryd.prog k 62 x2 ∧ (∀ i, i < x3.length → Fits Tryd.prog (k - 1) 101 (gD x3 i)) := by
  unfold Fits at h
  rw [Tryd.underlying64] at h
  obtain ⟨l, rfl, hl, hf⟩ := h
  have h0 := hf 0 _ rfl
  have h1 := hf 1 _ rfl
  have h2 := hf 2 _ rfl
  have h3 := hf 3 _ rfl
  match l, hl with
  | [x0, x1, x2, x3], _ =>
    cases k with
    | zero => exact h0.elim
    | succ k =>
      change Fits Tryd.prog (k + 1) 9 x0 at h0
      change Fits Tryd.prog (k + 1) 56 x1 at h1
      change Fits Tryd.prog (k + 1) 62 x2 at h2
      change Fits Tryd.prog (k + 1) 53 x3 at h3
      unfold Fits at h0
      rw [Tryd.underlying9] at h0
      unfold Fits at h1
      rw [Tryd.underlying56] at h1
      unfold Fits at h3
      rw [Tryd.underlying53] at h3
      obtain ⟨y0, rfl⟩ := h0
      obtain ⟨y1, rfl, z1⟩ := h1
      obtain ⟨y3, rfl, z3⟩ := h3
      exact ⟨y0, y1, x2, y3, rfl, z1, h2, z3⟩
set_option maxRecDepth 100000 in
theorem fits112 {k : Nat} {d : D} (h : Fits Tryd.prog (k + 1) 112 d) : ∃ (x0 : ByteArray) (x1 : List D), d = .obj [.str x0, .list x1] ∧ (∀ i, i < x1.length → Fits Tryd.prog (k - 1) 101 (gD x1 i)) := by
  unfold Fits at h
  rw [Tryd.underlying112] at h
  obtain ⟨l, rfl, hl, hf⟩ := h
  have h0 := hf 0 _ rfl
  have h1 := hf 1 _ rfl
  match l, hl with
  | [x0, x1], _ =>
    cases k with
    | zero => exact h0.elim
    | succ k =>
      change Fits Tryd.prog (k + 1) 9 x0 at h0
      change Fits Tryd.prog (k + 1) 53 x1 at h1
      unfold Fits at h0
      rw [Tryd.underlying9] at h0
      unfold Fits at h1
      rw [Tryd.underlying53] at h1
      obtain ⟨y0, rfl⟩ := h0
      obtain ⟨y1, rfl, z1⟩ := h1
      exact ⟨y0, y1, rfl, z1⟩
set_option maxRecDepth 100000 in
theorem fits58 {k : Nat} {d : D} (h : Fits Tryd.prog (k + 1) 58 d) : ∃ (x0 : Int) (x1 : ByteArray) (x2 : List D) (x3 : List D) (x4 : List D) (x5 : List D) (x6 : List D), d = .obj [.int x0, .str x1, .list x2, .list x3, .list x4, .list x5, .list x6] ∧ (∀ i, i < x2.length → Fits Tryd.prog (k - 1) 9 (gD x2 i)) ∧ (∀ i, i < x3.length → Fits Tryd.prog (k - 1) 101 (gD x3 i)) ∧ (∀ i, i < x4.length → Fits Tryd.prog (k - 1) 64 (gD x4 i)) ∧ (∀ i, i < x5.length → Fits Tryd.prog (k - 1) 112 (gD x5 i)) ∧ (∀ i, i < x6.length → Fits Tryd.prog (k - 1) 132 (gD x6 i)) := by
  unfold Fits at h
  rw [Tryd.underlying58] at h
  obtain ⟨l, rfl, hl, hf⟩ := h
  have h0 := hf 0 _ rfl
  have h1 := hf 1 _ rfl
  have h2 := hf 2 _ rfl
  have h3 := hf 3 _ rfl
  have h4 := hf 4 _ rfl
  have h5 := hf 5 _ rfl
  have h6 := hf 6 _ rfl
  match l, hl with
  | [x0, x1, x2, x3, x4, x5, x6], _ =>
    cases k with
    | zero => exact h0.elim
    | succ k =>
      change Fits Tryd.prog (k + 1) 3 x0 at h0
      change Fits Tryd.prog (k + 1) 9 x1 at h1
      change Fits Tryd.prog (k + 1) 47 x2 at h2
      change Fits Tryd.prog (k + 1) 53 x3 at h3
      change Fits Tryd.prog (k + 1) 54 x4 at h4
      change Fits Tryd.prog (k + 1) 55 x5 at h5
      change Fits Tryd.prog (k + 1) 56 x6 at h6
      unfold Fits at h0
      rw [Tryd.underlying3] at h0
      unfold Fits at h1
      rw [Tryd.underlying9] at h1
      unfold Fits at h2
      rw [Tryd.underlying47] at h2
      unfold Fits at h3
      rw [Tryd.underlying53] at h3
      unfold Fits at h4
      rw [Tryd.underlying54] at h4
      unfold Fits at h5
      rw [Tryd.underlying55] at h5
      unfold Fits at h6
      rw [Tryd.underlying56] at h6
      obtain ⟨y0, rfl⟩ := h0
      obtain ⟨y1, rfl⟩ := h1
      obtain ⟨y2, rfl, z2⟩ := h2
      obtain ⟨y3, rfl, z3⟩ := h3
      obtain ⟨y4, rfl, z4⟩ := h4
      obtain ⟨y5, rfl, z5⟩ := h5
      obtain ⟨y6, rfl, z6⟩ := h6
      exact ⟨y0, y1, y2, y3, y4, y5, y6, rfl, z2, z3, z4, z5, z6⟩
set_option maxRecDepth 100000 in
theorem fits42 {k : Nat} {d : D} (h : Fits Tryd.prog (k + 1) 42 d) : ∃ (x0 : List D), d = .obj [.list x0] ∧ (∀ i, i < x0.length → Fits Tryd.prog (k - 1) 58 (gD x0 i)) := by
  unfold Fits at h
  rw [Tryd.underlying42] at h
  obtain ⟨l, rfl, hl, hf⟩ := h
  have h0 := hf 0 _ rfl
  match l, hl with
  | [x0], _ =>
    cases k with
    | zero => exact h0.elim
    | succ k =>
      change Fits Tryd.prog (k + 1) 40 x0 at h0
      unfold Fits at h0
      rw [Tryd.underlying40] at h0
      obtain ⟨y0, rfl, z0⟩ := h0
      exact ⟨y0, rfl, z0⟩
set_option maxRecDepth 100000 in
theorem fits_str {k : Nat} {d : D} (h : Fits Tryd.prog k 9 d) : ∃ s, d = .str s := by
  cases k with
  | zero => exact h.elim
  | succ k => unfold Fits at h; rw [Tryd.underlying9] at h; exact h
end Go.Proofs.YtohneabalakmeaaDoor
namespace Go.Proofs.YtohneabalakmeaaDoor
open Go.RowKit
attribute [local irreducible] wpList Calls Code.wp
/-- ", " -/
def commaB : List UInt8 := [44, 32]
/-- the text of a value; the fuel bounds its depth -/
def valF : Nat → D → List UInt8
  | 0, _ => []
  | k + 1, d =>
    if (d.f 0).n = 1 then (if (d.f 1).n = 1 then [116, 114, 117, 101] else [102, 97, 108, 115, 101])
    else if (d.f 0).n = 2 then Lib.itoa (d.f 1).n
    else if (d.f 0).n = 3 then quoteU (d.f 2).s.data.toList
    else if (d.f 0).n = 4 then (d.f 2).s.data.toList
    else if (d.f 0).n = 7 then [36] ++ (d.f 2).s.data.toList
    else if (d.f 0).n = 5 then [91] ++ Lib.join ((List.range (d.f 3).l.length).map fun i => valF k (gD (d.f 3).l i)) commaB ++ [93]
    else if (d.f 0).n = 6 then [123] ++ Lib.join ((List.range (min (d.f 4).l.length (d.f 3).l.length)).map fun i => (gD (d.f 4).l i).s.data.toList ++ [58, 32] ++ valF k (gD (d.f 3).l i)) commaB ++ [125]
    else [110, 117, 108, 108]
theorem joinTail_length (sep : List UInt8) : ∀ (ls : List (List UInt8)), (Lib.joinTail sep ls).length = (ls.map fun l => l.length + sep.length).sum
  | [] => rfl
  | l :: r => by
    have := joinTail_length sep r
    unfold Lib.joinTail at this ⊢
    simp only [List.map_cons, List.flatten_cons, List.length_append, List.sum_cons, this]
    omega
theorem join_length (sep : List UInt8) (ls : List (List UInt8)) : (Lib.join ls sep).length ≤ (ls.map fun l => l.length + sep.length).sum := by
  cases ls with
  | nil => simp [Lib.join_nil]
  | cons x r =>
    rw [Lib.join_cons, List.length_append, joinTail_length]
    simp only [List.map_cons, List.sum_cons]
    omega
theorem sum_range_le {n : Nat} {f g : Nat → Nat} (h : ∀ i, i < n → f i ≤ g i) : ((List.range n).map f).sum ≤ ((List.range n).map g).sum := by
  induction n with
  | zero => simp
  | succ n ih =>
    simp only [List.range_succ, List.map_append, List.sum_append, List.map_cons, List.map_nil, List.sum_cons, List.sum_nil]
    have := ih fun i hi => h i (by omega)
    have := h n (by omega)
    omega
theorem sum_range_mono {n m : Nat} (hn : n ≤ m) (f : Nat → Nat) : ((List.range n).map f).sum ≤ ((List.range m).map f).sum := by
  induction m with
  | zero => have : n = 0 := by omega
            subst this; exact Nat.le_refl _
  | succ m ih =>
    rcases Nat.lt_or_ge n (m + 1) with h | h
    · have := ih (by omega)
      simp only [List.range_succ, List.map_append, List.sum_append, List.map_cons, List.map_nil, List.sum_cons, List.sum_nil]
      omega
    · have : n = m + 1 := by omega
      subst this; exact Nat.le_refl _
theorem bulkL_range (l : List D) : bulkL l = ((List.range l.length).map fun i => bulkD (gD l i)).sum := by
  have key : ∀ (l : List D), bulkL l = (l.map bulkD).sum := fun l => by
    induction l with
    | nil => rfl
    | cons d r ih => simp [bulkL, ih]
  rw [key]
  congr 1
  apply List.ext_getElem (by simp)
  intro i h1 h2
  simp [gD_get (l := l) (i := i) (by simpa using h1)]
theorem bulk_mem {l : List D} {i : Nat} (h : i < l.length) : bulkD (gD l i) ≤ bulkL l := by
  rw [bulkL_range]
  have : ((List.range (i + 1)).map fun i => bulkD (gD l i)).sum ≤ ((List.range l.length).map fun i => bulkD (gD l i)).sum := sum_range_mono (by omega) _
  rw [List.range_succ, List.map_append, List.sum_append] at this
  simp at this
  omega
theorem map_sum_add (n : Nat) (f g : Nat → Nat) : ((List.range n).map fun i => f i + g i).sum = ((List.range n).map f).sum + ((List.range n).map g).sum := by
  induction n with
  | zero => rfl
  | succ n ih => simp only [List.range_succ, List.map_append, List.sum_append, List.map_cons, List.map_nil, List.sum_cons, List.sum_nil, ih]; omega
theorem map_sum_mul (n c : Nat) (f : Nat → Nat) : ((List.range n).map fun i => c * f i).sum = c * ((List.range n).map f).sum := by
  induction n with
  | zero => simp
  | succ n ih => simp only [List.range_succ, List.map_append, List.sum_append, List.map_cons, List.map_nil, List.sum_cons, List.sum_nil, ih, Nat.add_zero, Nat.mul_add]
/-- how long a text that is joined can be -/
theorem join_range (n m : Nat) (f : Nat → List UInt8) (sep : List UInt8) (b : Nat → Nat) (hn : n ≤ m) (h : ∀ i, i < n → (f i).length + sep.length ≤ 8 * b i) : (Lib.join ((List.range n).map f) sep).length ≤ 8 * ((List.range m).map b).sum := by
  refine Nat.le_trans (join_length _ _) ?_
  rw [List.map_map, ← map_sum_mul]
  exact Nat.le_trans (sum_range_le h) (sum_range_mono hn _)
theorem itoa_len (n : Int) : (Lib.itoa n).length ≤ 21 ∨ ¬ (-9223372036854775808 ≤ n ∧ n ≤ 9223372036854775807) := by
  by_cases h : -9223372036854775808 ≤ n ∧ n ≤ 9223372036854775807
  · have := itoa_size n h.1 h.2
    rw [bs_size] at this
    exact .inl this
  · exact .inr h
/-- the numbers within are 64 bits wide -/
def wideF : Nat → D → Prop
  | 0, _ => True
  | k + 1, d => (-9223372036854775808 ≤ (d.f 1).n ∧ (d.f 1).n ≤ 9223372036854775807) ∧ ∀ i, i < (d.f 3).l.length → wideF k (gD (d.f 3).l i)
set_option maxRecDepth 100000 in
theorem valF_bound : ∀ (k : Nat) (d : D), Fits Tryd.prog k 49 d → wideF k d → (valF k d).length + 2 ≤ 8 * bulkD d
  | 0, d, h, _ => h.elim
  | k + 1, d, h, hw => by
    obtain ⟨x0, x1, x2, x3, x4, rfl, h3, h4⟩ := fits49 h
    have hw1 := hw.1
    have hw2 := hw.2
    have e0 : (D.obj [.int x0, .int x1, .str x2, .list x3, .list x4]).f 0 = .int x0 := rfl
    have e1 : (D.obj [.int x0, .int x1, .str x2, .list x3, .list x4]).f 1 = .int x1 := rfl
    have e2 : (D.obj [.int x0, .int x1, .str x2, .list x3, .list x4]).f 2 = .str x2 := rfl
    have e3 : (D.obj [.int x0, .int x1, .str x2, .list x3, .list x4]).f 3 = .list x3 := rfl
    have e4 : (D.obj [.int x0, .int x1, .str x2, .list x3, .list x4]).f 4 = .list x4 := rfl
    rw [e1] at hw1
    rw [e3] at hw2
    have hb : bulkD (D.obj [.int x0, .int x1, .str x2, .list x3, .list x4]) = x2.size + 5 + bulkL x3 + bulkL x4 + 1 := by simp [bulkD, bulkL]; omega
    rw [hb]
    have hsz : x2.data.toList.length = x2.size := by simp
    have hitem : ∀ i, i < x3.length → (valF k (gD x3 i)).length + 2 ≤ 8 * bulkD (gD x3 i) := fun i hi => by
      cases k with
      | zero => exact (h3 i hi).elim
      | succ k => exact valF_bound (k + 1) _ (h3 i hi).up (hw2 i hi)
    unfold valF
    rw [e0, e1, e2, e3, e4]
    by_cases q0 : (D.int x0).n = 1
    · rw [if_pos q0]
      by_cases c1 : (D.int x1).n = 1
      · rw [if_pos c1]; simp; omega
      · rw [if_neg c1]; simp; omega
    rw [if_neg q0]
    by_cases q1 : (D.int x0).n = 2
    · rw [if_pos q1]
      simp only [D.n, D.s, D.l]
      rcases itoa_len x1 with h | h
      · omega
      · exact absurd hw1 h
    rw [if_neg q1]
    by_cases q2 : (D.int x0).n = 3
    · rw [if_pos q2]
      simp only [D.n, D.s, D.l]
      have := escL_length x2.data.toList
      simp only [quoteU, List.length_append, List.length_cons, List.length_nil]
      omega
    rw [if_neg q2]
    by_cases q3 : (D.int x0).n = 4
    · rw [if_pos q3]
      simp only [D.n, D.s, D.l]
      omega
    rw [if_neg q3]
    by_cases q4 : (D.int x0).n = 7
    · rw [if_pos q4]
      simp only [D.n, D.s, D.l]
      simp only [List.length_append, List.length_cons, List.length_nil]; omega
    rw [if_neg q4]
    by_cases q5 : (D.int x0).n = 5
    · rw [if_pos q5]
      simp only [D.l]
      have := join_range x3.length x3.length (fun i => valF k (gD x3 i)) commaB (fun i => bulkD (gD x3 i)) (Nat.le_refl _) (fun i hi => hitem i hi)
      rw [← bulkL_range] at this
      simp only [List.length_append, List.length_cons, List.length_nil]; omega
    rw [if_neg q5]
    by_cases q6 : (D.int x0).n = 6
    · rw [if_pos q6]
      simp only [D.l]
      have := join_range (min x4.length x3.length) (min x4.length x3.length) (fun i => (gD x4 i).s.data.toList ++ [58, 32] ++ valF k (gD x3 i)) commaB (fun i => bulkD (gD x4 i) + bulkD (gD x3 i)) (Nat.le_refl _) (fun i hi => by
        have a := hitem i (by omega)
        have b : bulkD (gD x4 i) = (gD x4 i).s.size + 1 := by
          obtain ⟨s, hs⟩ := fits_str (h4 i (by omega))
          rw [hs]; simp [bulkD, D.s]
        have c : (gD x4 i).s.data.toList.length = (gD x4 i).s.size := by simp
        have e : commaB.length = 2 := rfl
        simp only [List.length_append, List.length_cons, List.length_nil]
        omega)
      rw [map_sum_add] at this
      have a1 := sum_range_mono (show min x4.length x3.length ≤ x4.length by omega) fun i => bulkD (gD x4 i)
      have a2 := sum_range_mono (show min x4.length x3.length ≤ x3.length by omega) fun i => bulkD (gD x3 i)
      rw [← bulkL_range] at a1 a2
      simp only [List.length_append, List.length_cons, List.length_nil]; omega
    rw [if_neg q6]
    simp; omega
end Go.Proofs.YtohneabalakmeaaDoor
namespace Go.Proofs.YtohneabalakmeaaDoor
open Go.RowKit
attribute [local irreducible] wpList Calls Code.wp
def strs (ls : List (List UInt8)) : List Value := ls.map fun l => .string (bs l)
theorem strs_snoc (ls : List (List UInt8)) (l : List UInt8) : strs (ls ++ [l]) = strs ls ++ [.string (bs l)] := by simp [strs]
theorem strs_length (ls : List (List UInt8)) : (strs ls).length = ls.length := by simp [strs]
def gU (ls : List (List UInt8)) (i : Nat) : List UInt8 := ls.getD i []
/-- the cells of a slice of strings that a call owns -/
theorem own_strs {w : World} {B n : Nat} {v : Value} {ls : List (List UInt8)} (h : w.ownsRow B 9 1 v n (strs ls)) : n = ls.length ∧ ∃ A c, v = .slice A n c ∧ n ≤ c ∧ c ≤ maxLen ∧ (0 < n → ∃ g, A = some ⟨g, 0, none⟩ ∧ g < w.heap.size ∧ B ≤ g ∧ ∀ j, j < n → w.cell? ⟨g, j, none⟩ = some (.string (bs (gU ls j)))) := by
  have hn : n = ls.length := by have := h.1; rw [strs_length] at this; omega
  refine ⟨hn, ?_⟩
  rcases h.2 with ⟨rfl, rfl⟩ | ⟨g, cap, cur, rfl, hb, hg, hc, hm, r⟩
  · exact ⟨none, 0, rfl, Nat.le_refl _, by decide, fun h => by omega⟩
  · refine ⟨_, cap, rfl, hc, hm, fun h0 => ⟨g, rfl, (h.lt g rfl).2, hb, fun j hj => ?_⟩⟩
    rw [h.cellAt j (by omega)]
    simp [strs, gU, List.getElem?_eq_getElem (show j < ls.length by omega)]
theorem gU_get {ls : List (List UInt8)} {i : Nat} (h : i < ls.length) : gU ls i = ls[i] := by simp [gU, List.getElem?_eq_getElem h]
/-- strings.Join of a slice of the call's own -/
theorem strJoinP {B n : Nat} {v : Value} {ls : List (List UInt8)} (sep : List UInt8) (w : World) (h : w.ownsRow B 9 1 v n (strs ls)) (hn : n ≤ 100000000) (hl : (Lib.join ls sep).length ≤ 100000000) :
    Calls Tryd.prog 76 #[v, .string (bs sep)] w (St (Lib.join ls sep) w) := by
  obtain ⟨rfl, A, c, rfl, hc, hm, hcells⟩ := own_strs h
  have e1 : (ls.map bs).map (·.data.toList) = ls := by
    rw [List.map_map]
    conv => rhs; rw [← List.map_id ls]
    exact List.map_congr_left fun l _ => bs_data l
  have e2 : (bs sep).data.toList = sep := bs_data sep
  by_cases h0 : 0 < ls.length
  · obtain ⟨g, rfl, hg, _, hj⟩ := hcells h0
    have hk := Tryd.strings_Join g 0 c (ls.map bs) (bs sep) w (fun j x hx => by
      rw [List.getElem?_map, Option.map_eq_some_iff] at hx
      obtain ⟨l, hl, rfl⟩ := hx
      have hjl := (List.getElem?_eq_some_iff.1 hl)
      rw [Nat.zero_add, hj j hjl.1, gU_get hjl.1, hjl.2]) hg (by simp; omega) (by simpa using hc) (by rw [e1, e2]; omega)
    rw [List.length_map] at hk
    refine hk.mono fun e w' h => ⟨?_, h.2⟩
    rw [h.1, e1, e2]; rfl
  · have hz : ls = [] := List.eq_nil_of_length_eq_zero (by omega)
    subst hz
    refine (Tryd.strings_Join_none A c (bs sep) w).mono fun e w' h => ⟨by rw [h.1]; rfl, by rw [h.2]; exact Below.refl _ _⟩
theorem join_snoc (ls : List (List UInt8)) (l sep : List UInt8) (h : ls ≠ []) : Lib.join (ls ++ [l]) sep = Lib.join ls sep ++ sep ++ l := by
  cases ls with
  | nil => exact absurd rfl h
  | cons x r =>
    rw [List.cons_append, Lib.join_cons, Lib.join_cons]
    simp [Lib.joinTail]
theorem take_gU {ls : List (List UInt8)} {m : Nat} (h : m < ls.length) : ls.take (m + 1) = ls.take m ++ [gU ls m] := by
  rw [List.take_succ_eq_append_getElem h, gU_get h]
theorem join_mono (ls : List (List UInt8)) (sep : List UInt8) : ∀ m, (Lib.join (ls.take m) sep).length ≤ (Lib.join ls sep).length := fun m => by
  have e : ls = ls.take m ++ ls.drop m := (List.take_append_drop m ls).symm
  generalize ls.take m = a at *
  generalize ls.drop m = b at *
  subst e
  cases a with
  | nil => simp [Lib.join_nil]
  | cons x r =>
    rw [List.cons_append, Lib.join_cons, Lib.join_cons]
    simp [Lib.joinTail]
set_option maxRecDepth 100000 in
set_option maxHeartbeats 4000000 in
/-- the reference's join -/
theorem strJoinR {B n : Nat} {v : Value} {ls : List (List UInt8)} (sep : List UInt8) (w : World) (h : w.ownsRow B 9 1 v n (strs ls)) (hn : n ≤ 100000000) (hl : (Lib.join ls sep).length ≤ 100000000) :
    Calls Tryd.prog 77 #[v, .string (bs sep)] w (St (Lib.join ls sep) w) := by
  obtain ⟨hnl, A, c, rfl, hc, hm, hcells⟩ := own_strs h
  have Hcells := Lib.hid hcells
  have Hmono := Lib.hid (join_mono ls sep)
  have Hnl := Lib.hid hnl
  clear h hc hm hcells hnl
  have Hl := Lib.hid hl; clear hl
  go_enter Tryd.func77, Tryd.ntmps77
  go_wp2
  go_loopg [5, 6] n (fun j o i wr => ∃ m : Nat, m + j = n ∧ i = .int .i64 m ∧ o = .string (bs (Lib.join (ls.take m) sep)) ∧ w = wr)
  case atStart => exact ⟨0, by omega, rfl, rfl, rfl⟩
  case round =>
    obtain ⟨m, hmj, rfl, rfl, rfl⟩ := hrel
    have Hmj := Lib.hid hmj; have hmn : m ≤ n := by omega
    clear hmj
    by_cases hlt : m < n
    · obtain ⟨g, rfl, -, -, hj⟩ := Hcells.out (by omega)
      have e0 := hj m hlt
      clear hj
      have htk := take_gU (ls := ls) (m := m) (by rw [← Hnl.out]; exact hlt)
      have h1 := Hmono.out m; have h2 := Hmono.out (m + 1)
      have hl2 := Hl.out
      by_cases h0 : m = 0
      · subst h0
        have HV := Lib.hid (show bs (Lib.join (ls.take (0 + 1)) sep) = bs [] ++ bs (gU ls 0) by rw [htk, List.take_zero, List.nil_append, Lib.join_one]; exact bs_append [] _)
        have hz : (bs (Lib.join (ls.take (0 + 1)) sep)).size ≤ 100000000 := by rw [bs_size]; omega
        rw [htk, List.take_zero, List.nil_append, Lib.join_one] at hz
        rw [List.take_zero, Lib.join_nil]
        generalize bs (gU ls 0) = q at *
        clear htk h1 h2 hl2
        have hz0 : (bs []).size = 0 := rfl
        go_wp2
        go_roundg (n - 0 - 1)
        case measure => have := Hmj.out; omega
        case rel => exact ⟨0 + 1, by have := Hmj.out; omega, by first | rfl | go_num, by rw [HV.out], rfl⟩
      · have hne : ls.take m ≠ [] := fun e => by
          have h3 := congrArg List.length e
          rw [List.length_take, List.length_nil] at h3
          have h4 := Hnl.out
          omega
        have HV := Lib.hid (show bs (Lib.join (ls.take (m + 1)) sep) = bs (Lib.join (ls.take m) sep) ++ bs sep ++ bs (gU ls m) by rw [htk, join_snoc _ _ _ hne, bs_append, bs_append])
        have hz : (Lib.join (ls.take (m + 1)) sep).length ≤ 100000000 := by omega
        rw [htk, join_snoc _ _ _ hne, List.length_append, List.length_append] at hz
        have y1 : (bs (Lib.join (ls.take m) sep)).size + (bs sep).size + (bs (gU ls m)).size ≤ 100000000 := by rw [bs_size, bs_size, bs_size]; omega
        generalize bs (Lib.join (ls.take m) sep) = a at *
        generalize bs (gU ls m) = q at *
        generalize bs sep = sp at *
        clear htk h1 h2 hl2 hz hne
        go_wp2
        go_roundg (n - m - 1)
        case measure => have := Hmj.out; omega
        case rel => exact ⟨m + 1, by have := Hmj.out; omega, by go_num, by rw [HV.out], rfl⟩
    · have HE := Lib.hid (show ls.take m = ls from List.take_of_length_le (by rw [← Hnl.out]; omega))
      go_wp2
      go_ret
      exact ⟨by rw [HE.out]; rfl, Below.refl _ _⟩
end Go.Proofs.YtohneabalakmeaaDoor
