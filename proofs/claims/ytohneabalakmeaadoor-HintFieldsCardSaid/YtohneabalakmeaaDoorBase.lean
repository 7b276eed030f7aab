/- Small lemmas on worlds, rows and lists of numbers. -/
import Derived.Test.YtohneabalakmeaaDoorRows
import Derived.WalkKit
import Derived.WalkSpells
import Derived.WalkLawsBesides
import Derived.Deep.OwnRows
import Derived.Deep.LoopGhost
import Derived.Deep.QuietTactic
import Derived.BigQuiet
import Derived.Handy
import Derived.Lib.Hide
import Derived.Laws.BitsAllLaws
namespace Go.Proofs.YtohneabalakmeaaDoor
open Go.RowKit
theorem ret_int {k : IntKind} {a b : Int} (h : a = b) : Ending.returned (.int k a) = .returned (.int k b) := by rw [h]
theorem below_draws {B : Nat} {a w : World} (h : Below B a w) (q : Nat) : Below B a (w.drewN q) := ⟨h.os, h.tape, h.output, h.size, h.block⟩
theorem row_draws {w : World} {b : Nat} {t : TypeId} {n : Nat} {f : Nat → Value} (h : w.rowIs b t n f) (q : Nat) : (w.drewN q).rowIs b t n f := h
/-- the number at an index of a list, 0 behind its end -/
def gI (l : List Int) (j : Nat) : Int := l.getD j 0
theorem gI_snoc (l : List Int) (x : Int) (j : Nat) : gI (l ++ [x]) j = if j = l.length then x else gI l j := by
  unfold gI
  by_cases h : j < l.length
  · rw [if_neg (by omega), List.getD_eq_getElem?_getD, List.getD_eq_getElem?_getD, List.getElem?_append_left h]
  · by_cases e : j = l.length
    · subst e; simp
    · rw [if_neg e, List.getD_eq_getElem?_getD, List.getD_eq_getElem?_getD, List.getElem?_eq_none (by simp; omega), List.getElem?_eq_none (by omega)]
/-- a row of numbers is its block, written out -/
theorem row_block {w : World} {b : Nat} {t : TypeId} {n : Nat} {k : IntKind} {l : List Int} (h : w.rowIs b t n (fun j => .int k (gI l j))) (hl : l.length = n) : w.heap[b]? = some (.cells (l.map (Value.int k)).toArray t (0, 0)) := by
  obtain ⟨c, hb, hn, hc⟩ := h
  rw [hb]
  congr 2
  apply Array.ext
  · simp [hn, hl]
  · intro i h1 h2
    have h3 := hc i (by omega)
    rw [Array.getElem?_eq_getElem h1] at h3
    simp only [Option.some.injEq] at h3
    rw [h3]
    have h4 : i < l.length := by omega
    simp [gI, List.getD_eq_getElem?_getD, List.getElem?_eq_getElem h4]
theorem ints_one (k : IntKind) (l : List Int) : (l.map (Value.int k)).toArray.all (·.oneCell') = true := by
  rw [Array.all_eq_true_iff_forall_mem]
  intro x hx
  simp only [List.mem_toArray, List.mem_map] at hx
  obtain ⟨a, _, rfl⟩ := hx
  rfl
theorem zeros_row {w : World} {c : Array Value} {t : TypeId} {b n : Nat} {z : Value} (hb : w.heap.size = b) (h : c = Array.replicate n z) : (w.alloc (.cells c t)).rowIs b t n (fun _ => z) := by
  subst h
  subst hb
  have h := World.rowIs_alloc w (Array.replicate n z) t (fun _ => z) (fun i hi => by simp at hi; simp [hi])
  simpa using h
theorem heap_at {w : World} {o : Obj} {b : Nat} (hb : w.heap.size = b) : (w.alloc o).heap[b]? = some o := by subst hb; exact Deep.blk_alloc_new w o
theorem heap_under {w : World} {o x : Obj} {b : Nat} (h : w.heap[b]? = some x) : (w.alloc o).heap[b]? = some x := by
  have hb : b < w.heap.size := by
    rcases Nat.lt_or_ge b w.heap.size with h' | h'
    · exact h'
    · rw [Array.getElem?_eq_none h'] at h; cases h
  rw [Deep.blk_alloc_lt _ _ _ hb]; exact h
/-- an array by value, read at an index -/
theorem run_index_arr {P : Program} {w : World} (t e : TypeId) (n : Nat) (cs : Array Value) (k : IntKind) (i : Nat) (v : Value) (h : P.underlying t = some (.array n e)) (ha : ∀ w, (isAgg e).run P w = .ok false w) (hs : ∀ w, (sizeOf e).run P w = .ok 1 w) (hi : i < n) (hv : cs[i]? = some v) :
    (Instr.index t (.agg cs) (.int k (i : Int))).run P w = .ok v w := by
  have h2 : ¬ n ≤ i := by omega
  simp [Instr.index, run_underlying h, asIntOf, part, ha, hs, hv, hi, h2, go_sem]
theorem row_of_block {w : World} {b : Nat} {t : TypeId} {k : IntKind} (l : List Int) {c : Array Value} {n : Nat} (hc : c = (l.map (Value.int k)).toArray) (hn : l.length = n) (h : w.heap[b]? = some (.cells c t (0, 0))) : w.rowIs b t n (fun j => .int k (gI l j)) := by
  subst hc; subst hn
  refine ⟨_, h, by simp, fun i hi => ?_⟩
  simp [gI, List.getElem?_eq_getElem hi]
/-- a callee that leaves the world alone, met inside a region behind a draws (and n of the region's own) -/
theorem quiet_first {P : Program} {f : FuncId} {args : Array Value} {w : World} {n : Nat} {v : Value} (h : Calls P f args (w.drewN n) fun e w' => e = .returned v ∧ w.drewN n = w') :
    Calls P f args (w.drewN n) fun e w' => e = .returned v ∧ ∃ m, w' = w.drewN m := h.mono fun _ _ ⟨he, hw⟩ => ⟨he, n, hw.symm⟩
theorem quiet_next {P : Program} {f : FuncId} {args : Array Value} {w : World} {a n : Nat} {v : Value} (h : Calls P f args (w.drewN (a + n)) fun e w' => e = .returned v ∧ w.drewN (a + n) = w') :
    Calls P f args (w.drewN (a + n)) fun e w' => e = .returned v ∧ ∃ m, w' = w.drewN (a + m) := h.mono fun _ _ ⟨he, hw⟩ => ⟨he, n, hw.symm⟩
/-- a new array that is filled at once from an array by value -/
theorem store_whole {P : Program} {w : World} (g : Nat) (t : TypeId) (cs vs : Array Value) (hg : w.heap.size = g) (hs : cs.size = vs.size) (h1 : vs.all (·.oneCell') = true) :
    (storeCells ⟨g, 0, none⟩ vs.toList).run P (w.alloc (.cells cs t)) = .ok () ((w.alloc (.cells cs t)).setRow g vs) := by
  have h := run_storeCells_from (P := P) g t vs.toList 0 cs (w.alloc (.cells cs t)) (heap_at hg) (by simp [hs]) (fun v hv => (Array.all_eq_true_iff_forall_mem.1 h1) v (by simpa using hv))
  simpa using h
/-- a literal of an array: what is built, under a name -/
theorem build_to {P : Program} {ops : Array Oper} {rest : List Oper} {o : Oper} {a : Act} {w : World} {Q : Exit → Act → World → Prop} (cells : Array Value) (hg : o.guard = none) (t : TypeId) (parts : Array (Nat × Operand)) (ho : o.op = .build t parts)
    (hf : P.built t (parts.map fun (i, x) => (i, a.eval x)).toList = some cells)
    (h : wpList P ops Q rest (a.put o.dst (.agg cells)) w) : wpList P ops Q (o :: rest) a w :=
  wpList_build hg t parts ho (by rw [hf]; rfl) (by rw [hf]; exact h)
end Go.Proofs.YtohneabalakmeaaDoor
