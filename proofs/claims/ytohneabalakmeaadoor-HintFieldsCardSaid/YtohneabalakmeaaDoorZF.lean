/- The first of a list with a name. By a program of this repo (genfind.py). -/
import Derived.Test.YtohneabalakmeaaDoorZA
namespace Go.Proofs.YtohneabalakmeaaDoor
open Go.RowKit
attribute [local irreducible] wpList Calls Code.wp
set_option maxRecDepth 100000 in
set_option maxHeartbeats 8000000 in
theorem argR (nm : ByteArray) (A : Option Addr) (l : List D) (c : Nat) (s : ByteArray) (w0 w : World) (h0 : Below w0.heap.size w0 w) (h : Rs w0 103 A l) (hl : l.length ≤ c) (hc : c ≤ maxLen) :
    Calls Tryd.prog 144 #[.agg #[.string nm, .slice A l.length c], .string s] w (Fd 49 ((findD l 0 s).map fun d => d.f 1) w0 w) := by
  unfold maxLen at hc
  have hlc : l.length ≤ 9223372036854775807 := by omega
  have Hsome := Lib.hid (fun m => @find_some l 0 s m); have Hnone := Lib.hid (@find_none l 0 s)
  generalize findD l 0 s = r at *
  have H := Lib.hid h; have H0 := Lib.hid h0; clear h h0 hl hc
  go_enter Tryd.func144, Tryd.ntmps144
  go_wp2
  have hb0 : Below w.heap.size w ((w.alloc (.cells #[.string nm, .slice A l.length c] 101)).alloc (.cells #[.int .i64 0, .int .i64 0, .string ⟨#[]⟩, .slice none 0 0, .slice none 0 0] 49)) := ((Below.refl _ _).alloc (Nat.le_refl _) _).alloc (by simp) _
  have hx0 : ((w.alloc (.cells #[.string nm, .slice A l.length c] 101)).alloc (.cells #[.int .i64 0, .int .i64 0, .string ⟨#[]⟩, .slice none 0 0, .slice none 0 0] 49)).heap[w.heap.size]? = some (.cells #[.string nm, .slice A l.length c] 101 (0, 0)) := heap_under (heap_at rfl)
  have hx1 : ((w.alloc (.cells #[.string nm, .slice A l.length c] 101)).alloc (.cells #[.int .i64 0, .int .i64 0, .string ⟨#[]⟩, .slice none 0 0, .slice none 0 0] 49)).heap[w.heap.size + 1]? = some (.cells #[.int .i64 0, .int .i64 0, .string ⟨#[]⟩, .slice none 0 0, .slice none 0 0] 49 (0, 0)) := heap_at (by simp)
  go_loopg [6] l.length (fun j v wr => ∃ m : Nat, m + j = l.length ∧ v = .int .i64 m ∧ (∀ i, i < m → (((gD l i).f 0).s.toList == s.toList) = false) ∧ Below w.heap.size w wr ∧ wr.heap[w.heap.size]? = some (.cells #[.string nm, .slice A l.length c] 101 (0, 0)) ∧ wr.heap[w.heap.size + 1]? = some (.cells #[.int .i64 0, .int .i64 0, .string ⟨#[]⟩, .slice none 0 0, .slice none 0 0] 49 (0, 0)))
  case atStart => exact ⟨0, by omega, rfl, fun i hi => by omega, hb0, hx0, hx1⟩
  case round =>
    obtain ⟨m, hmj, rfl, hall, hb, hy0, hy1⟩ := hrel
    clear hb0 hx0 hx1
    have p0 : wr.cell? ⟨w.heap.size, 0, none⟩ = some (.string nm) := cell_heap hy0 rfl
    have p1 : wr.cell? ⟨w.heap.size, 1, none⟩ = some (.slice A l.length c) := cell_heap hy0 rfl
    have k0 : wr.cell? ⟨w.heap.size + 1, 0, none⟩ = some (.int .i64 0) := cell_heap hy1 rfl
    have k1 : wr.cell? ⟨w.heap.size + 1, 1, none⟩ = some (.int .i64 0) := cell_heap hy1 rfl
    have k2 : wr.cell? ⟨w.heap.size + 1, 2, none⟩ = some (.string ⟨#[]⟩) := cell_heap hy1 rfl
    have k3 : wr.cell? ⟨w.heap.size + 1, 3, none⟩ = some (.slice none 0 0) := cell_heap hy1 rfl
    have k4 : wr.cell? ⟨w.heap.size + 1, 4, none⟩ = some (.slice none 0 0) := cell_heap hy1 rfl
    have f0 := frozen_heap (o := 0) hy1
    have f1 := frozen_heap (o := 1) hy1
    have f2 := frozen_heap (o := 2) hy1
    have f3 := frozen_heap (o := 3) hy1
    have f4 := frozen_heap (o := 4) hy1
    have l0 := heap_lt hy0
    have l1 := heap_lt hy1
    have Hb := Lib.hid hb; have Hall := Lib.hid hall; have Hy0 := Lib.hid hy0; have Hy1 := Lib.hid hy1
    have Hmj := Lib.hid hmj; have hmn : m ≤ l.length := by omega
    clear hmj hb hall hy0 hy1
    by_cases hlt : m < l.length
    · obtain ⟨b, off, rfl, hI, hat⟩ := at103 H.out (by omega)
      obtain ⟨A4, c4, A5, c5, e0, e1, e2, e3, e4, e5, -, -, -, -, -, -, y⟩ := hat m hlt
      have Hy := Lib.hid y
      clear hat y
      replace e0 := ((H0.out.trans (Hb.out.mono H0.out.size)).cell (p := ⟨b, _, none⟩) hI).trans e0
      replace e1 := ((H0.out.trans (Hb.out.mono H0.out.size)).cell (p := ⟨b, _, none⟩) hI).trans e1
      replace e2 := ((H0.out.trans (Hb.out.mono H0.out.size)).cell (p := ⟨b, _, none⟩) hI).trans e2
      replace e3 := ((H0.out.trans (Hb.out.mono H0.out.size)).cell (p := ⟨b, _, none⟩) hI).trans e3
      replace e4 := ((H0.out.trans (Hb.out.mono H0.out.size)).cell (p := ⟨b, _, none⟩) hI).trans e4
      replace e5 := ((H0.out.trans (Hb.out.mono H0.out.size)).cell (p := ⟨b, _, none⟩) hI).trans e5
      cases hq : (((gD l m).f 0).s.toList == s.toList)
      · have Hq := Lib.hid hq
        have Hal2 := Lib.hid (show ∀ i, i < m + 1 → (((gD l i).f 0).s.toList == s.toList) = false from fun i hi => (Nat.lt_succ_iff_lt_or_eq.1 hi).elim (fun h' => Hall.out i h') (fun h' => by rw [h']; exact Hq.out))
        go_wp2
        go_roundg (l.length - m - 1)
        case measure => have := Hmj.out; omega
        case rel => exact ⟨m + 1, by have := Hmj.out; omega, by go_num, Hal2.out, Hb.out, Hy0.out, Hy1.out⟩
      · have Hr := Lib.hid (Hsome.out m hlt Hall.out hq)
        go_wp2
        have hB := (((((Hb.out.setCell (p := ⟨w.heap.size + 1, 0, none⟩) (Nat.le_succ _) (.int .i64 (((gD l m).f 1).f 0).n)).setCell (p := ⟨w.heap.size + 1, 1, none⟩) (Nat.le_succ _) (.int .i64 (((gD l m).f 1).f 1).n)).setCell (p := ⟨w.heap.size + 1, 2, none⟩) (Nat.le_succ _) (.string (((gD l m).f 1).f 2).s)).setCell (p := ⟨w.heap.size + 1, 3, none⟩) (Nat.le_succ _) (.slice A4 (((gD l m).f 1).f 3).l.length c4)).setCell (p := ⟨w.heap.size + 1, 4, none⟩) (Nat.le_succ _) (.slice A5 (((gD l m).f 1).f 4).l.length c5))
        exact bodyPost_ret (v := .tuple #[.agg #[.int .i64 (((gD l m).f 1).f 0).n, .int .i64 (((gD l m).f 1).f 1).n, .string (((gD l m).f 1).f 2).s, .slice A4 (((gD l m).f 1).f 3).l.length c4, .slice A5 (((gD l m).f 1).f 4).l.length c5], .bool true]) (by simp [results, Tryd.results144, go_sem, k0, k1, k2, k3, k4, l1]) rfl ⟨_, by rw [Hr.out]; rfl, hB, by rw [Hr.out]; exact (part103_49 Hy.out)⟩
    · obtain rfl : m = l.length := by omega
      have Hr := Lib.hid (Hnone.out Hall.out)
      go_wp2
      exact bodyPost_ret (v := .tuple #[.agg #[.int .i64 0, .int .i64 0, .string ⟨#[]⟩, .slice none 0 0, .slice none 0 0], .bool false]) (by simp [results, Tryd.results144, go_sem, k0, k1, k2, k3, k4, l1]) rfl ⟨_, by rw [Hr.out]; rfl, (((((Hb.out.setCell (p := ⟨w.heap.size + 1, 0, none⟩) (Nat.le_succ _) (.int .i64 0)).setCell (p := ⟨w.heap.size + 1, 1, none⟩) (Nat.le_succ _) (.int .i64 0)).setCell (p := ⟨w.heap.size + 1, 2, none⟩) (Nat.le_succ _) (.string ⟨#[]⟩)).setCell (p := ⟨w.heap.size + 1, 3, none⟩) (Nat.le_succ _) (.slice none 0 0)).setCell (p := ⟨w.heap.size + 1, 4, none⟩) (Nat.le_succ _) (.slice none 0 0)), by rw [Hr.out]; exact rv_zero49 _⟩
end Go.Proofs.YtohneabalakmeaaDoor
