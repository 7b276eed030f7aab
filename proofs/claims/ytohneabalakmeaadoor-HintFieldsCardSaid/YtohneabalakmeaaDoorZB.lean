/- The first of a list with a name. By a program of this repo (genfind.py). -/
import Derived.Test.YtohneabalakmeaaDoorZA
namespace Go.Proofs.YtohneabalakmeaaDoor
open Go.RowKit
attribute [local irreducible] wpList Calls Code.wp
set_option maxRecDepth 100000 in
set_option maxHeartbeats 8000000 in
theorem findP (A : Option Addr) (l : List D) (c : Nat) (s : ByteArray) (w0 w : World) (h0 : Below w0.heap.size w0 w) (h : Rs w0 58 A l) (hl : l.length ≤ c) (hc : c ≤ maxLen) :
    Calls Tryd.prog 101 #[.agg #[.slice A l.length c], .string s] w (Fd 58 (findD l 1 s) w0 w) := by
  unfold maxLen at hc
  have hlc : l.length ≤ 9223372036854775807 := by omega
  have Hsome := Lib.hid (fun m => @find_some l 1 s m); have Hnone := Lib.hid (@find_none l 1 s)
  generalize findD l 1 s = r at *
  have H := Lib.hid h; have H0 := Lib.hid h0; clear h h0 hl hc
  go_enter Tryd.func101, Tryd.ntmps101
  go_wp2
  have hb0 : Below w.heap.size w ((w.alloc (.cells #[.slice A l.length c] 42)).alloc (.cells #[.int .i64 0, .string ⟨#[]⟩, .slice none 0 0, .slice none 0 0, .slice none 0 0, .slice none 0 0, .slice none 0 0] 58)) := ((Below.refl _ _).alloc (Nat.le_refl _) _).alloc (by simp) _
  have hx0 : ((w.alloc (.cells #[.slice A l.length c] 42)).alloc (.cells #[.int .i64 0, .string ⟨#[]⟩, .slice none 0 0, .slice none 0 0, .slice none 0 0, .slice none 0 0, .slice none 0 0] 58)).heap[w.heap.size]? = some (.cells #[.slice A l.length c] 42 (0, 0)) := heap_under (heap_at rfl)
  have hx1 : ((w.alloc (.cells #[.slice A l.length c] 42)).alloc (.cells #[.int .i64 0, .string ⟨#[]⟩, .slice none 0 0, .slice none 0 0, .slice none 0 0, .slice none 0 0, .slice none 0 0] 58)).heap[w.heap.size + 1]? = some (.cells #[.int .i64 0, .string ⟨#[]⟩, .slice none 0 0, .slice none 0 0, .slice none 0 0, .slice none 0 0, .slice none 0 0] 58 (0, 0)) := heap_at (by simp)
  go_loopg [11] l.length (fun j v wr => ∃ m : Nat, m + j = l.length ∧ v = .int .i64 m ∧ (∀ i, i < m → (((gD l i).f 1).s.toList == s.toList) = false) ∧ Below w.heap.size w wr ∧ wr.heap[w.heap.size]? = some (.cells #[.slice A l.length c] 42 (0, 0)) ∧ wr.heap[w.heap.size + 1]? = some (.cells #[.int .i64 0, .string ⟨#[]⟩, .slice none 0 0, .slice none 0 0, .slice none 0 0, .slice none 0 0, .slice none 0 0] 58 (0, 0)))
  case atStart => exact ⟨0, by omega, rfl, fun i hi => by omega, hb0, hx0, hx1⟩
  case round =>
    obtain ⟨m, hmj, rfl, hall, hb, hy0, hy1⟩ := hrel
    clear hb0 hx0 hx1
    have p0 : wr.cell? ⟨w.heap.size, 0, none⟩ = some (.slice A l.length c) := cell_heap hy0 rfl
    have k0 : wr.cell? ⟨w.heap.size + 1, 0, none⟩ = some (.int .i64 0) := cell_heap hy1 rfl
    have k1 : wr.cell? ⟨w.heap.size + 1, 1, none⟩ = some (.string ⟨#[]⟩) := cell_heap hy1 rfl
    have k2 : wr.cell? ⟨w.heap.size + 1, 2, none⟩ = some (.slice none 0 0) := cell_heap hy1 rfl
    have k3 : wr.cell? ⟨w.heap.size + 1, 3, none⟩ = some (.slice none 0 0) := cell_heap hy1 rfl
    have k4 : wr.cell? ⟨w.heap.size + 1, 4, none⟩ = some (.slice none 0 0) := cell_heap hy1 rfl
    have k5 : wr.cell? ⟨w.heap.size + 1, 5, none⟩ = some (.slice none 0 0) := cell_heap hy1 rfl
    have k6 : wr.cell? ⟨w.heap.size + 1, 6, none⟩ = some (.slice none 0 0) := cell_heap hy1 rfl
    have f0 := frozen_heap (o := 0) hy1
    have f1 := frozen_heap (o := 1) hy1
    have f2 := frozen_heap (o := 2) hy1
    have f3 := frozen_heap (o := 3) hy1
    have f4 := frozen_heap (o := 4) hy1
    have f5 := frozen_heap (o := 5) hy1
    have f6 := frozen_heap (o := 6) hy1
    have l0 := heap_lt hy0
    have l1 := heap_lt hy1
    have Hb := Lib.hid hb; have Hall := Lib.hid hall; have Hy0 := Lib.hid hy0; have Hy1 := Lib.hid hy1
    have Hmj := Lib.hid hmj; have hmn : m ≤ l.length := by omega
    clear hmj hb hall hy0 hy1
    by_cases hlt : m < l.length
    · obtain ⟨b, off, rfl, hI, hat⟩ := at58 H.out (by omega)
      obtain ⟨A2, c2, A3, c3, A4, c4, A5, c5, A6, c6, e0, e1, e2, e3, e4, e5, e6, -, -, -, -, -, -, -, y⟩ := hat m hlt
      have Hy := Lib.hid y
      clear hat y
      replace e0 := ((H0.out.trans (Hb.out.mono H0.out.size)).cell (p := ⟨b, _, none⟩) hI).trans e0
      replace e1 := ((H0.out.trans (Hb.out.mono H0.out.size)).cell (p := ⟨b, _, none⟩) hI).trans e1
      replace e2 := ((H0.out.trans (Hb.out.mono H0.out.size)).cell (p := ⟨b, _, none⟩) hI).trans e2
      replace e3 := ((H0.out.trans (Hb.out.mono H0.out.size)).cell (p := ⟨b, _, none⟩) hI).trans e3
      replace e4 := ((H0.out.trans (Hb.out.mono H0.out.size)).cell (p := ⟨b, _, none⟩) hI).trans e4
      replace e5 := ((H0.out.trans (Hb.out.mono H0.out.size)).cell (p := ⟨b, _, none⟩) hI).trans e5
      replace e6 := ((H0.out.trans (Hb.out.mono H0.out.size)).cell (p := ⟨b, _, none⟩) hI).trans e6
      cases hq : (((gD l m).f 1).s.toList == s.toList)
      · have Hq := Lib.hid hq
        have Hal2 := Lib.hid (show ∀ i, i < m + 1 → (((gD l i).f 1).s.toList == s.toList) = false from fun i hi => (Nat.lt_succ_iff_lt_or_eq.1 hi).elim (fun h' => Hall.out i h') (fun h' => by rw [h']; exact Hq.out))
        go_wp2
        go_roundg (l.length - m - 1)
        case measure => have := Hmj.out; omega
        case rel => exact ⟨m + 1, by have := Hmj.out; omega, by go_num, Hal2.out, Hb.out.alloc Hb.out.size _, heap_under Hy0.out, heap_under Hy1.out⟩
      · have Hr := Lib.hid (Hsome.out m hlt Hall.out hq)
        go_upto_region 5 with (fail)
        have hba : Below w.heap.size w (wr.alloc (.cells #[.int .i64 ((gD l m).f 0).n, .string ((gD l m).f 1).s, .slice A2 ((gD l m).f 2).l.length c2, .slice A3 ((gD l m).f 3).l.length c3, .slice A4 ((gD l m).f 4).l.length c4, .slice A5 ((gD l m).f 5).l.length c5, .slice A6 ((gD l m).f 6).l.length c6] 58)) := Hb.out.alloc Hb.out.size _
        have hxa : (wr.alloc (.cells #[.int .i64 ((gD l m).f 0).n, .string ((gD l m).f 1).s, .slice A2 ((gD l m).f 2).l.length c2, .slice A3 ((gD l m).f 3).l.length c3, .slice A4 ((gD l m).f 4).l.length c4, .slice A5 ((gD l m).f 5).l.length c5, .slice A6 ((gD l m).f 6).l.length c6] 58)).heap[wr.heap.size]? = some (.cells #[.int .i64 ((gD l m).f 0).n, .string ((gD l m).f 1).s, .slice A2 ((gD l m).f 2).l.length c2, .slice A3 ((gD l m).f 3).l.length c3, .slice A4 ((gD l m).f 4).l.length c4, .slice A5 ((gD l m).f 5).l.length c5, .slice A6 ((gD l m).f 6).l.length c6] 58 (0, 0)) := heap_at rfl
        have hya : (wr.alloc (.cells #[.int .i64 ((gD l m).f 0).n, .string ((gD l m).f 1).s, .slice A2 ((gD l m).f 2).l.length c2, .slice A3 ((gD l m).f 3).l.length c3, .slice A4 ((gD l m).f 4).l.length c4, .slice A5 ((gD l m).f 5).l.length c5, .slice A6 ((gD l m).f 6).l.length c6] 58)).heap[w.heap.size + 1]? = some (.cells #[.int .i64 0, .string ⟨#[]⟩, .slice none 0 0, .slice none 0 0, .slice none 0 0, .slice none 0 0, .slice none 0 0] 58 (0, 0)) := heap_under Hy1.out
        generalize wr.alloc (.cells #[.int .i64 ((gD l m).f 0).n, .string ((gD l m).f 1).s, .slice A2 ((gD l m).f 2).l.length c2, .slice A3 ((gD l m).f 3).l.length c3, .slice A4 ((gD l m).f 4).l.length c4, .slice A5 ((gD l m).f 5).l.length c5, .slice A6 ((gD l m).f 6).l.length c6] 58) = wa at *
        generalize wr.heap.size = ba at *
        clear k0 f0 k1 f1 k2 f2 k3 f3 k4 f4 k5 f5 k6 f6 l0 l1 Hb
        have Hb := Lib.hid hba
        have l1 := heap_lt hya
        have l2 := heap_lt hxa
        have k0 : wa.cell? ⟨w.heap.size + 1, 0, none⟩ = some (.int .i64 0) := cell_heap hya rfl
        have k1 : wa.cell? ⟨w.heap.size + 1, 1, none⟩ = some (.string ⟨#[]⟩) := cell_heap hya rfl
        have k2 : wa.cell? ⟨w.heap.size + 1, 2, none⟩ = some (.slice none 0 0) := cell_heap hya rfl
        have k3 : wa.cell? ⟨w.heap.size + 1, 3, none⟩ = some (.slice none 0 0) := cell_heap hya rfl
        have k4 : wa.cell? ⟨w.heap.size + 1, 4, none⟩ = some (.slice none 0 0) := cell_heap hya rfl
        have k5 : wa.cell? ⟨w.heap.size + 1, 5, none⟩ = some (.slice none 0 0) := cell_heap hya rfl
        have k6 : wa.cell? ⟨w.heap.size + 1, 6, none⟩ = some (.slice none 0 0) := cell_heap hya rfl
        have f0 := frozen_heap (o := 0) hya
        have f1 := frozen_heap (o := 1) hya
        have f2 := frozen_heap (o := 2) hya
        have f3 := frozen_heap (o := 3) hya
        have f4 := frozen_heap (o := 4) hya
        have f5 := frozen_heap (o := 5) hya
        have f6 := frozen_heap (o := 6) hya
        have q0 : wa.cell? ⟨ba, 0, none⟩ = some (.int .i64 ((gD l m).f 0).n) := cell_heap hxa rfl
        have q1 : wa.cell? ⟨ba, 1, none⟩ = some (.string ((gD l m).f 1).s) := cell_heap hxa rfl
        have q2 : wa.cell? ⟨ba, 2, none⟩ = some (.slice A2 ((gD l m).f 2).l.length c2) := cell_heap hxa rfl
        have q3 : wa.cell? ⟨ba, 3, none⟩ = some (.slice A3 ((gD l m).f 3).l.length c3) := cell_heap hxa rfl
        have q4 : wa.cell? ⟨ba, 4, none⟩ = some (.slice A4 ((gD l m).f 4).l.length c4) := cell_heap hxa rfl
        have q5 : wa.cell? ⟨ba, 5, none⟩ = some (.slice A5 ((gD l m).f 5).l.length c5) := cell_heap hxa rfl
        have q6 : wa.cell? ⟨ba, 6, none⟩ = some (.slice A6 ((gD l m).f 6).l.length c6) := cell_heap hxa rfl
        clear hba hxa hya
        go_wp2
        have hB := (((((((Hb.out.setCell (p := ⟨w.heap.size + 1, 0, none⟩) (Nat.le_succ _) (.int .i64 ((gD l m).f 0).n)).setCell (p := ⟨w.heap.size + 1, 1, none⟩) (Nat.le_succ _) (.string ((gD l m).f 1).s)).setCell (p := ⟨w.heap.size + 1, 2, none⟩) (Nat.le_succ _) (.slice A2 ((gD l m).f 2).l.length c2)).setCell (p := ⟨w.heap.size + 1, 3, none⟩) (Nat.le_succ _) (.slice A3 ((gD l m).f 3).l.length c3)).setCell (p := ⟨w.heap.size + 1, 4, none⟩) (Nat.le_succ _) (.slice A4 ((gD l m).f 4).l.length c4)).setCell (p := ⟨w.heap.size + 1, 5, none⟩) (Nat.le_succ _) (.slice A5 ((gD l m).f 5).l.length c5)).setCell (p := ⟨w.heap.size + 1, 6, none⟩) (Nat.le_succ _) (.slice A6 ((gD l m).f 6).l.length c6))
        exact bodyPost_ret (v := .tuple #[.agg #[.int .i64 ((gD l m).f 0).n, .string ((gD l m).f 1).s, .slice A2 ((gD l m).f 2).l.length c2, .slice A3 ((gD l m).f 3).l.length c3, .slice A4 ((gD l m).f 4).l.length c4, .slice A5 ((gD l m).f 5).l.length c5, .slice A6 ((gD l m).f 6).l.length c6], .bool true]) (by simp [results, Tryd.results101, go_sem, k0, k1, k2, k3, k4, k5, k6, l1]) rfl ⟨_, by rw [Hr.out]; rfl, hB, by rw [Hr.out]; exact Hy.out⟩
    · obtain rfl : m = l.length := by omega
      have Hr := Lib.hid (Hnone.out Hall.out)
      go_wp2
      exact bodyPost_ret (v := .tuple #[.agg #[.int .i64 0, .string ⟨#[]⟩, .slice none 0 0, .slice none 0 0, .slice none 0 0, .slice none 0 0, .slice none 0 0], .bool false]) (by simp [results, Tryd.results101, go_sem, k0, k1, k2, k3, k4, k5, k6, l1]) rfl ⟨_, by rw [Hr.out]; rfl, (((((((Hb.out.setCell (p := ⟨w.heap.size + 1, 0, none⟩) (Nat.le_succ _) (.int .i64 0)).setCell (p := ⟨w.heap.size + 1, 1, none⟩) (Nat.le_succ _) (.string ⟨#[]⟩)).setCell (p := ⟨w.heap.size + 1, 2, none⟩) (Nat.le_succ _) (.slice none 0 0)).setCell (p := ⟨w.heap.size + 1, 3, none⟩) (Nat.le_succ _) (.slice none 0 0)).setCell (p := ⟨w.heap.size + 1, 4, none⟩) (Nat.le_succ _) (.slice none 0 0)).setCell (p := ⟨w.heap.size + 1, 5, none⟩) (Nat.le_succ _) (.slice none 0 0)).setCell (p := ⟨w.heap.size + 1, 6, none⟩) (Nat.le_succ _) (.slice none 0 0)), by rw [Hr.out]; exact rv_zero58 _⟩
end Go.Proofs.YtohneabalakmeaaDoor
