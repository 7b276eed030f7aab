/- The first of a list with a name. By a program of this repo (genfind.py). -/
import Derived.Test.YtohneabalakmeaaDoorY
import Derived.Test.YtohneabalakmeaaDoorTy2
namespace Go.Proofs.YtohneabalakmeaaDoor
open Go.RowKit
attribute [local irreducible] wpList Calls Code.wp
/-- the first element whose text at a place is a name -/
def findD (l : List D) (j : Nat) (s : ByteArray) : Option D := l.find? fun d => (d.f j).s.toList == s.toList
/-- what was found comes back, or nothing -/
def Fd (T : TypeId) (r : Option D) (w0 w : World) (e : Ending) (w' : World) : Prop := ∃ cs, e = .returned (.tuple #[.agg cs, .bool r.isSome]) ∧ Below w.heap.size w w' ∧ Rv w0 T cs (r.getD default)
theorem find_none {l : List D} {j : Nat} {s : ByteArray} (h : ∀ i, i < l.length → (((gD l i).f j).s.toList == s.toList) = false) : findD l j s = none := by
  refine List.find?_eq_none.2 fun d hd => ?_
  obtain ⟨i, hi, rfl⟩ := List.getElem_of_mem hd
  have := h i hi
  rw [gD_get hi] at this
  rw [this]; simp
theorem find_some {l : List D} {j : Nat} {s : ByteArray} {m : Nat} (hm : m < l.length) (h : ∀ i, i < m → (((gD l i).f j).s.toList == s.toList) = false) (he : (((gD l m).f j).s.toList == s.toList) = true) : findD l j s = some (gD l m) := by
  unfold findD
  rw [← List.take_append_drop m l, List.find?_append, List.drop_eq_getElem_cons hm, List.find?_cons]
  have h0 : (l.take m).find? (fun d => (d.f j).s.toList == s.toList) = none := by
    refine List.find?_eq_none.2 fun d hd => ?_
    obtain ⟨i, hi, rfl⟩ := List.getElem_of_mem hd
    rw [List.length_take] at hi
    have := h i (by omega)
    rw [gD_get (by omega)] at this
    rw [List.getElem_take, this]; simp
  have h1 : gD (l.take m ++ l[m] :: l.drop (m + 1)) m = l[m] := by rw [← List.drop_eq_getElem_cons hm, List.take_append_drop, gD_get hm]
  rw [gD_get hm] at he
  rw [h0, h1, he]
  rfl
theorem part103_49 {w : World} {x a b c e f : Value} {d : D} (h : Rv w 103 #[x, a, b, c, e, f] d) : Rv w 49 #[a, b, c, e, f] (d.f 1) := by
  obtain ⟨k, h⟩ := h
  cases k with
  | zero => exact h.elim
  | succ k =>
    obtain ⟨_, hf⟩ := h.struct Tryd.underlying103
    have g : Rep Tryd.prog w (fun b => b < w.heap.size) k 49 (([x, a, b, c, e, f].drop 1).take (Tryd.prog.cellsOf 49)) (d.f 1) := hf 1 _ rfl
    rw [cells49] at g
    exact ⟨k, g⟩
set_option maxRecDepth 100000 in
set_option maxHeartbeats 8000000 in
theorem findR (A : Option Addr) (l : List D) (c : Nat) (s : ByteArray) (w0 w : World) (h0 : Below w0.heap.size w0 w) (h : Rs w0 58 A l) (hl : l.length ≤ c) (hc : c ≤ maxLen) :
    Calls Tryd.prog 105 #[.agg #[.slice A l.length c], .string s] w (Fd 58 (findD l 1 s) w0 w) := by
  unfold maxLen at hc
  have hlc : l.length ≤ 9223372036854775807 := by omega
  have Hsome := Lib.hid (fun m => @find_some l 1 s m); have Hnone := Lib.hid (@find_none l 1 s)
  generalize findD l 1 s = r at *
  have H := Lib.hid h; have H0 := Lib.hid h0; clear h h0 hl hc
  go_enter Tryd.func105, Tryd.ntmps105
  go_wp2
  have hb0 : Below w.heap.size w ((w.alloc (.cells #[.slice A l.length c] 42)).alloc (.cells #[.int .i64 0, .string ⟨#[]⟩, .slice none 0 0, .slice none 0 0, .slice none 0 0, .slice none 0 0, .slice none 0 0] 58)) := ((Below.refl _ _).alloc (Nat.le_refl _) _).alloc (by simp) _
  have hx0 : ((w.alloc (.cells #[.slice A l.length c] 42)).alloc (.cells #[.int .i64 0, .string ⟨#[]⟩, .slice none 0 0, .slice none 0 0, .slice none 0 0, .slice none 0 0, .slice none 0 0] 58)).heap[w.heap.size]? = some (.cells #[.slice A l.length c] 42 (0, 0)) := heap_under (heap_at rfl)
  have hx1 : ((w.alloc (.cells #[.slice A l.length c] 42)).alloc (.cells #[.int .i64 0, .string ⟨#[]⟩, .slice none 0 0, .slice none 0 0, .slice none 0 0, .slice none 0 0, .slice none 0 0] 58)).heap[w.heap.size + 1]? = some (.cells #[.int .i64 0, .string ⟨#[]⟩, .slice none 0 0, .slice none 0 0, .slice none 0 0, .slice none 0 0, .slice none 0 0] 58 (0, 0)) := heap_at (by simp)
  go_loopg [6] l.length (fun j v wr => ∃ m : Nat, m + j = l.length ∧ v = .int .i64 m ∧ (∀ i, i < m → (((gD l i).f 1).s.toList == s.toList) = false) ∧ Below w.heap.size w wr ∧ wr.heap[w.heap.size]? = some (.cells #[.slice A l.length c] 42 (0, 0)) ∧ wr.heap[w.heap.size + 1]? = some (.cells #[.int .i64 0, .string ⟨#[]⟩, .slice none 0 0, .slice none 0 0, .slice none 0 0, .slice none 0 0, .slice none 0 0] 58 (0, 0)))
  case atStart => exact ⟨0, by omega, rfl, fun i hi => by omega, hb0, hx0, hx1⟩
  case round =>
    obtain ⟨m, hmj, rfl, hall, hb, hy0, hy1⟩ := hrel
    clear hb0 hx0 hx1
    have p0 : wr.cell? ⟨w.heap.size, 0, none⟩ = some (.slice A l.length c) := cell_heap hy0 rfl
    have k0 : wr.cell? ⟨w.heap.size + 1, 0, none⟩ = some (.int .i64 0) := cell_heap hy1 rfl
    have k1 : wr.cell? ⟨w.heap.size + 1, 1, none⟩ = some (.string ⟨#[]⟩) := cell_heap hy1 rfl
    have k2 : wr.cell? ⟨w.heap.size + 1, 2, none⟩ = some (.slice none 0 0) := cell_heap hy1 rfl
    have k3 : wr.cell? ⟨w.heap.size + 1, 3, none⟩ = some (.slice none 0 0) := cell_heap hy1 rfl
    have k4 : wr.cell? ⟨w.heap.size + 1, 4, none⟩ = some (.slice none 0 0) := cell_heap hy1 rfl
    have k5 : wr.cell? ⟨w.heap.size + 1, 5, none⟩ = some (.slice none 0 0) := cell_heap hy1 rfl
    have k6 : wr.cell? ⟨w.heap.size + 1, 6, none⟩ = some (.slice none 0 0) := cell_heap hy1 rfl
    have f0 := frozen_heap (o := 0) hy1
    have f1 := frozen_heap (o := 1) hy1
    have f2 := frozen_heap (o := 2) hy1
    have f3 := frozen_heap (o := 3) hy1
    have f4 := frozen_heap (o := 4) hy1
    have f5 := frozen_heap (o := 5) hy1
    have f6 := frozen_heap (o := 6) hy1
    have l0 := heap_lt hy0
    have l1 := heap_lt hy1
    have Hb := Lib.hid hb; have Hall := Lib.hid hall; have Hy0 := Lib.hid hy0; have Hy1 := Lib.hid hy1
    have Hmj := Lib.hid hmj; have hmn : m ≤ l.length := by omega
    clear hmj hb hall hy0 hy1
    by_cases hlt : m < l.length
    · obtain ⟨b, off, rfl, hI, hat⟩ := at58 H.out (by omega)
      obtain ⟨A2, c2, A3, c3, A4, c4, A5, c5, A6, c6, e0, e1, e2, e3, e4, e5, e6, -, -, -, -, -, -, -, y⟩ := hat m hlt
      have Hy := Lib.hid y
      clear hat y
      replace e0 := ((H0.out.trans (Hb.out.mono H0.out.size)).cell (p := ⟨b, _, none⟩) hI).trans e0
      replace e1 := ((H0.out.trans (Hb.out.mono H0.out.size)).cell (p := ⟨b, _, none⟩) hI).trans e1
      replace e2 := ((H0.out.trans (Hb.out.mono H0.out.size)).cell (p := ⟨b, _, none⟩) hI).trans e2
      replace e3 := ((H0.out.trans (Hb.out.mono H0.out.size)).cell (p := ⟨b, _, none⟩) hI).trans e3
      replace e4 := ((H0.out.trans (Hb.out.mono H0.out.size)).cell (p := ⟨b, _, none⟩) hI).trans e4
      replace e5 := ((H0.out.trans (Hb.out.mono H0.out.size)).cell (p := ⟨b, _, none⟩) hI).trans e5
      replace e6 := ((H0.out.trans (Hb.out.mono H0.out.size)).cell (p := ⟨b, _, none⟩) hI).trans e6
      cases hq : (((gD l m).f 1).s.toList == s.toList)
      · have Hq := Lib.hid hq
        have Hal2 := Lib.hid (show ∀ i, i < m + 1 → (((gD l i).f 1).s.toList == s.toList) = false from fun i hi => (Nat.lt_succ_iff_lt_or_eq.1 hi).elim (fun h' => Hall.out i h') (fun h' => by rw [h']; exact Hq.out))
        go_wp2
        go_roundg (l.length - m - 1)
        case measure => have := Hmj.out; omega
        case rel => exact ⟨m + 1, by have := Hmj.out; omega, by go_num, Hal2.out, Hb.out, Hy0.out, Hy1.out⟩
      · have Hr := Lib.hid (Hsome.out m hlt Hall.out hq)
        go_wp2
        have hB := (((((((Hb.out.setCell (p := ⟨w.heap.size + 1, 0, none⟩) (Nat.le_succ _) (.int .i64 ((gD l m).f 0).n)).setCell (p := ⟨w.heap.size + 1, 1, none⟩) (Nat.le_succ _) (.string ((gD l m).f 1).s)).setCell (p := ⟨w.heap.size + 1, 2, none⟩) (Nat.le_succ _) (.slice A2 ((gD l m).f 2).l.length c2)).setCell (p := ⟨w.heap.size + 1, 3, none⟩) (Nat.le_succ _) (.slice A3 ((gD l m).f 3).l.length c3)).setCell (p := ⟨w.heap.size + 1, 4, none⟩) (Nat.le_succ _) (.slice A4 ((gD l m).f 4).l.length c4)).setCell (p := ⟨w.heap.size + 1, 5, none⟩) (Nat.le_succ _) (.slice A5 ((gD l m).f 5).l.length c5)).setCell (p := ⟨w.heap.size + 1, 6, none⟩) (Nat.le_succ _) (.slice A6 ((gD l m).f 6).l.length c6))
        exact bodyPost_ret (v := .tuple #[.agg #[.int .i64 ((gD l m).f 0).n, .string ((gD l m).f 1).s, .slice A2 ((gD l m).f 2).l.length c2, .slice A3 ((gD l m).f 3).l.length c3, .slice A4 ((gD l m).f 4).l.length c4, .slice A5 ((gD l m).f 5).l.length c5, .slice A6 ((gD l m).f 6).l.length c6], .bool true]) (by simp [results, Tryd.results105, go_sem, k0, k1, k2, k3, k4, k5, k6, l1]) rfl ⟨_, by rw [Hr.out]; rfl, hB, by rw [Hr.out]; exact Hy.out⟩
    · obtain rfl : m = l.length := by omega
      have Hr := Lib.hid (Hnone.out Hall.out)
      go_wp2
      exact bodyPost_ret (v := .tuple #[.agg #[.int .i64 0, .string ⟨#[]⟩, .slice none 0 0, .slice none 0 0, .slice none 0 0, .slice none 0 0, .slice none 0 0], .bool false]) (by simp [results, Tryd.results105, go_sem, k0, k1, k2, k3, k4, k5, k6, l1]) rfl ⟨_, by rw [Hr.out]; rfl, (((((((Hb.out.setCell (p := ⟨w.heap.size + 1, 0, none⟩) (Nat.le_succ _) (.int .i64 0)).setCell (p := ⟨w.heap.size + 1, 1, none⟩) (Nat.le_succ _) (.string ⟨#[]⟩)).setCell (p := ⟨w.heap.size + 1, 2, none⟩) (Nat.le_succ _) (.slice none 0 0)).setCell (p := ⟨w.heap.size + 1, 3, none⟩) (Nat.le_succ _) (.slice none 0 0)).setCell (p := ⟨w.heap.size + 1, 4, none⟩) (Nat.le_succ _) (.slice none 0 0)).setCell (p := ⟨w.heap.size + 1, 5, none⟩) (Nat.le_succ _) (.slice none 0 0)).setCell (p := ⟨w.heap.size + 1, 6, none⟩) (Nat.le_succ _) (.slice none 0 0)), by rw [Hr.out]; exact rv_zero58 _⟩
end Go.Proofs.YtohneabalakmeaaDoor
