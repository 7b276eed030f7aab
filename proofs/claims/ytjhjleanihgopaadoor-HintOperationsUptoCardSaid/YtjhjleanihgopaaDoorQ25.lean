/- Parts of a proof, merged by a program (shake.py). -/
import Derived.Test.YtjhjleanihgopaaDoorQ24
namespace Go.Proofs.YtjhjleanihgopaaDoor
open Go.RowKit
attribute [local irreducible] wpList Calls Code.wp
set_option maxRecDepth 100000 in
set_option maxHeartbeats 8000000 in
theorem fieldP (kd : Int) (nm : ByteArray) (J2 J3 J5 J6 : Option Addr) (n2 n3 n5 n6 c2 c3 c5 c6 : Nat) (A : Option Addr) (l : List D) (c : Nat) (s : ByteArray) (w0 w : World) (h0 : Below w0.heap.size w0 w) (h : Rs w0 60 A l) (hl : l.length ≤ c) (hc : c ≤ maxLen) :
    Calls Tryd.prog 52 #[.agg #[.int .i64 kd, .string nm, .slice J2 n2 c2, .slice J3 n3 c3, .slice A l.length c, .slice J5 n5 c5, .slice J6 n6 c6], .string s] w (Fd 60 (findD l 0 s) w0 w) := by
  unfold maxLen at hc
  have hlc : l.length ≤ 9223372036854775807 := by omega
  have Hsome := Lib.hid (fun m => @find_some l 0 s m); have Hnone := Lib.hid (@find_none l 0 s)
  generalize findD l 0 s = r at *
  have H := Lib.hid h; have H0 := Lib.hid h0; clear h h0 hl hc
  go_enter Tryd.func52, Tryd.ntmps52
  go_wp2
  have hb0 : Below w.heap.size w ((w.alloc (.cells #[.int .i64 kd, .string nm, .slice J2 n2 c2, .slice J3 n3 c3, .slice A l.length c, .slice J5 n5 c5, .slice J6 n6 c6] 55)).alloc (.cells #[.string ⟨#[]⟩, .slice none 0 0, .string ⟨#[]⟩, .slice none 0 0, .slice none 0 0] 60)) := ((Below.refl _ _).alloc (Nat.le_refl _) _).alloc (by simp) _
  have hx0 : ((w.alloc (.cells #[.int .i64 kd, .string nm, .slice J2 n2 c2, .slice J3 n3 c3, .slice A l.length c, .slice J5 n5 c5, .slice J6 n6 c6] 55)).alloc (.cells #[.string ⟨#[]⟩, .slice none 0 0, .string ⟨#[]⟩, .slice none 0 0, .slice none 0 0] 60)).heap[w.heap.size]? = some (.cells #[.int .i64 kd, .string nm, .slice J2 n2 c2, .slice J3 n3 c3, .slice A l.length c, .slice J5 n5 c5, .slice J6 n6 c6] 55 (0, 0)) := heap_under (heap_at rfl)
  have hx1 : ((w.alloc (.cells #[.int .i64 kd, .string nm, .slice J2 n2 c2, .slice J3 n3 c3, .slice A l.length c, .slice J5 n5 c5, .slice J6 n6 c6] 55)).alloc (.cells #[.string ⟨#[]⟩, .slice none 0 0, .string ⟨#[]⟩, .slice none 0 0, .slice none 0 0] 60)).heap[w.heap.size + 1]? = some (.cells #[.string ⟨#[]⟩, .slice none 0 0, .string ⟨#[]⟩, .slice none 0 0, .slice none 0 0] 60 (0, 0)) := heap_at (by simp)
  go_loopg [11] l.length (fun j v wr => ∃ m : Nat, m + j = l.length ∧ v = .int .i64 m ∧ (∀ i, i < m → (((gD l i).f 0).s.toList == s.toList) = false) ∧ Below w.heap.size w wr ∧ wr.heap[w.heap.size]? = some (.cells #[.int .i64 kd, .string nm, .slice J2 n2 c2, .slice J3 n3 c3, .slice A l.length c, .slice J5 n5 c5, .slice J6 n6 c6] 55 (0, 0)) ∧ wr.heap[w.heap.size + 1]? = some (.cells #[.string ⟨#[]⟩, .slice none 0 0, .string ⟨#[]⟩, .slice none 0 0, .slice none 0 0] 60 (0, 0)))
  case atStart => exact ⟨0, by omega, rfl, fun i hi => by omega, hb0, hx0, hx1⟩
  case round =>
    obtain ⟨m, hmj, rfl, hall, hb, hy0, hy1⟩ := hrel
    clear hb0 hx0 hx1
    have p0 : wr.cell? ⟨w.heap.size, 0, none⟩ = some (.int .i64 kd) := cell_heap hy0 rfl
    have p1 : wr.cell? ⟨w.heap.size, 1, none⟩ = some (.string nm) := cell_heap hy0 rfl
    have p2 : wr.cell? ⟨w.heap.size, 2, none⟩ = some (.slice J2 n2 c2) := cell_heap hy0 rfl
    have p3 : wr.cell? ⟨w.heap.size, 3, none⟩ = some (.slice J3 n3 c3) := cell_heap hy0 rfl
    have p4 : wr.cell? ⟨w.heap.size, 4, none⟩ = some (.slice A l.length c) := cell_heap hy0 rfl
    have p5 : wr.cell? ⟨w.heap.size, 5, none⟩ = some (.slice J5 n5 c5) := cell_heap hy0 rfl
    have p6 : wr.cell? ⟨w.heap.size, 6, none⟩ = some (.slice J6 n6 c6) := cell_heap hy0 rfl
    have k0 : wr.cell? ⟨w.heap.size + 1, 0, none⟩ = some (.string ⟨#[]⟩) := cell_heap hy1 rfl
    have k1 : wr.cell? ⟨w.heap.size + 1, 1, none⟩ = some (.slice none 0 0) := cell_heap hy1 rfl
    have k2 : wr.cell? ⟨w.heap.size + 1, 2, none⟩ = some (.string ⟨#[]⟩) := cell_heap hy1 rfl
    have k3 : wr.cell? ⟨w.heap.size + 1, 3, none⟩ = some (.slice none 0 0) := cell_heap hy1 rfl
    have k4 : wr.cell? ⟨w.heap.size + 1, 4, none⟩ = some (.slice none 0 0) := cell_heap hy1 rfl
    have f0 := frozen_heap (o := 0) hy1
    have f1 := frozen_heap (o := 1) hy1
    have f2 := frozen_heap (o := 2) hy1
    have f3 := frozen_heap (o := 3) hy1
    have f4 := frozen_heap (o := 4) hy1
    have l0 := heap_lt hy0
    have l1 := heap_lt hy1
    have Hb := Lib.hid hb; have Hall := Lib.hid hall; have Hy0 := Lib.hid hy0; have Hy1 := Lib.hid hy1
    have Hmj := Lib.hid hmj; have hmn : m ≤ l.length := by omega
    clear hmj hb hall hy0 hy1
    by_cases hlt : m < l.length
    · obtain ⟨b, off, rfl, hI, hat⟩ := at60 H.out (by omega)
      obtain ⟨A1, c1, A3, c3, A4, c4, e0, e1, e2, e3, e4, -, -, -, -, -, y⟩ := hat m hlt
      have Hy := Lib.hid y
      clear hat y
      replace e0 := ((H0.out.trans (Hb.out.mono H0.out.size)).cell (p := ⟨b, _, none⟩) hI).trans e0
      replace e1 := ((H0.out.trans (Hb.out.mono H0.out.size)).cell (p := ⟨b, _, none⟩) hI).trans e1
      replace e2 := ((H0.out.trans (Hb.out.mono H0.out.size)).cell (p := ⟨b, _, none⟩) hI).trans e2
      replace e3 := ((H0.out.trans (Hb.out.mono H0.out.size)).cell (p := ⟨b, _, none⟩) hI).trans e3
      replace e4 := ((H0.out.trans (Hb.out.mono H0.out.size)).cell (p := ⟨b, _, none⟩) hI).trans e4
      cases hq : (((gD l m).f 0).s.toList == s.toList)
      · have Hq := Lib.hid hq
        have Hal2 := Lib.hid (show ∀ i, i < m + 1 → (((gD l i).f 0).s.toList == s.toList) = false from fun i hi => (Nat.lt_succ_iff_lt_or_eq.1 hi).elim (fun h' => Hall.out i h') (fun h' => by rw [h']; exact Hq.out))
        go_wp2
        go_roundg (l.length - m - 1)
        case measure => have := Hmj.out; omega
        case rel => exact ⟨m + 1, by have := Hmj.out; omega, by go_num, Hal2.out, Hb.out.alloc Hb.out.size _, heap_under Hy0.out, heap_under Hy1.out⟩
      · have Hr := Lib.hid (Hsome.out m hlt Hall.out hq)
        go_upto_region 5 with (fail)
        have hba : Below w.heap.size w (wr.alloc (.cells #[.string ((gD l m).f 0).s, .slice A1 ((gD l m).f 1).l.length c1, .string (((gD l m).f 2).f 0).s, .slice A3 (((gD l m).f 2).f 1).l.length c3, .slice A4 ((gD l m).f 3).l.length c4] 60)) := Hb.out.alloc Hb.out.size _
        have hxa : (wr.alloc (.cells #[.string ((gD l m).f 0).s, .slice A1 ((gD l m).f 1).l.length c1, .string (((gD l m).f 2).f 0).s, .slice A3 (((gD l m).f 2).f 1).l.length c3, .slice A4 ((gD l m).f 3).l.length c4] 60)).heap[wr.heap.size]? = some (.cells #[.string ((gD l m).f 0).s, .slice A1 ((gD l m).f 1).l.length c1, .string (((gD l m).f 2).f 0).s, .slice A3 (((gD l m).f 2).f 1).l.length c3, .slice A4 ((gD l m).f 3).l.length c4] 60 (0, 0)) := heap_at rfl
        have hya : (wr.alloc (.cells #[.string ((gD l m).f 0).s, .slice A1 ((gD l m).f 1).l.length c1, .string (((gD l m).f 2).f 0).s, .slice A3 (((gD l m).f 2).f 1).l.length c3, .slice A4 ((gD l m).f 3).l.length c4] 60)).heap[w.heap.size + 1]? = some (.cells #[.string ⟨#[]⟩, .slice none 0 0, .string ⟨#[]⟩, .slice none 0 0, .slice none 0 0] 60 (0, 0)) := heap_under Hy1.out
        generalize wr.alloc (.cells #[.string ((gD l m).f 0).s, .slice A1 ((gD l m).f 1).l.length c1, .string (((gD l m).f 2).f 0).s, .slice A3 (((gD l m).f 2).f 1).l.length c3, .slice A4 ((gD l m).f 3).l.length c4] 60) = wa at *
        generalize wr.heap.size = ba at *
        clear k0 f0 k1 f1 k2 f2 k3 f3 k4 f4 l0 l1 Hb
        have Hb := Lib.hid hba
        have l1 := heap_lt hya
        have l2 := heap_lt hxa
        have k0 : wa.cell? ⟨w.heap.size + 1, 0, none⟩ = some (.string ⟨#[]⟩) := cell_heap hya rfl
        have k1 : wa.cell? ⟨w.heap.size + 1, 1, none⟩ = some (.slice none 0 0) := cell_heap hya rfl
        have k2 : wa.cell? ⟨w.heap.size + 1, 2, none⟩ = some (.string ⟨#[]⟩) := cell_heap hya rfl
        have k3 : wa.cell? ⟨w.heap.size + 1, 3, none⟩ = some (.slice none 0 0) := cell_heap hya rfl
        have k4 : wa.cell? ⟨w.heap.size + 1, 4, none⟩ = some (.slice none 0 0) := cell_heap hya rfl
        have f0 := frozen_heap (o := 0) hya
        have f1 := frozen_heap (o := 1) hya
        have f2 := frozen_heap (o := 2) hya
        have f3 := frozen_heap (o := 3) hya
        have f4 := frozen_heap (o := 4) hya
        have q0 : wa.cell? ⟨ba, 0, none⟩ = some (.string ((gD l m).f 0).s) := cell_heap hxa rfl
        have q1 : wa.cell? ⟨ba, 1, none⟩ = some (.slice A1 ((gD l m).f 1).l.length c1) := cell_heap hxa rfl
        have q2 : wa.cell? ⟨ba, 2, none⟩ = some (.string (((gD l m).f 2).f 0).s) := cell_heap hxa rfl
        have q3 : wa.cell? ⟨ba, 3, none⟩ = some (.slice A3 (((gD l m).f 2).f 1).l.length c3) := cell_heap hxa rfl
        have q4 : wa.cell? ⟨ba, 4, none⟩ = some (.slice A4 ((gD l m).f 3).l.length c4) := cell_heap hxa rfl
        clear hba hxa hya
        go_wp2
        have hB := (((((Hb.out.setCell (p := ⟨w.heap.size + 1, 0, none⟩) (Nat.le_succ _) (.string ((gD l m).f 0).s)).setCell (p := ⟨w.heap.size + 1, 1, none⟩) (Nat.le_succ _) (.slice A1 ((gD l m).f 1).l.length c1)).setCell (p := ⟨w.heap.size + 1, 2, none⟩) (Nat.le_succ _) (.string (((gD l m).f 2).f 0).s)).setCell (p := ⟨w.heap.size + 1, 3, none⟩) (Nat.le_succ _) (.slice A3 (((gD l m).f 2).f 1).l.length c3)).setCell (p := ⟨w.heap.size + 1, 4, none⟩) (Nat.le_succ _) (.slice A4 ((gD l m).f 3).l.length c4))
        exact bodyPost_ret (v := .tuple #[.agg #[.string ((gD l m).f 0).s, .slice A1 ((gD l m).f 1).l.length c1, .string (((gD l m).f 2).f 0).s, .slice A3 (((gD l m).f 2).f 1).l.length c3, .slice A4 ((gD l m).f 3).l.length c4], .bool true]) (by simp [results, Tryd.results52, go_sem, k0, k1, k2, k3, k4, l1]) rfl ⟨_, by rw [Hr.out]; rfl, hB, by rw [Hr.out]; exact Hy.out⟩
    · obtain rfl : m = l.length := by omega
      have Hr := Lib.hid (Hnone.out Hall.out)
      go_wp2
      exact bodyPost_ret (v := .tuple #[.agg #[.string ⟨#[]⟩, .slice none 0 0, .string ⟨#[]⟩, .slice none 0 0, .slice none 0 0], .bool false]) (by simp [results, Tryd.results52, go_sem, k0, k1, k2, k3, k4, l1]) rfl ⟨_, by rw [Hr.out]; rfl, (((((Hb.out.setCell (p := ⟨w.heap.size + 1, 0, none⟩) (Nat.le_succ _) (.string ⟨#[]⟩)).setCell (p := ⟨w.heap.size + 1, 1, none⟩) (Nat.le_succ _) (.slice none 0 0)).setCell (p := ⟨w.heap.size + 1, 2, none⟩) (Nat.le_succ _) (.string ⟨#[]⟩)).setCell (p := ⟨w.heap.size + 1, 3, none⟩) (Nat.le_succ _) (.slice none 0 0)).setCell (p := ⟨w.heap.size + 1, 4, none⟩) (Nat.le_succ _) (.slice none 0 0)), by rw [Hr.out]; exact rv_zero60 _⟩
end Go.Proofs.YtjhjleanihgopaaDoor
namespace Go.Proofs.YtjhjleanihgopaaDoor
open Go.RowKit
attribute [local irreducible] wpList Calls Code.wp
set_option maxRecDepth 100000 in
set_option maxHeartbeats 8000000 in
theorem fieldR (kd : Int) (nm : ByteArray) (J2 J3 J5 J6 : Option Addr) (n2 n3 n5 n6 c2 c3 c5 c6 : Nat) (A : Option Addr) (l : List D) (c : Nat) (s : ByteArray) (w0 w : World) (h0 : Below w0.heap.size w0 w) (h : Rs w0 60 A l) (hl : l.length ≤ c) (hc : c ≤ maxLen) :
    Calls Tryd.prog 113 #[.agg #[.int .i64 kd, .string nm, .slice J2 n2 c2, .slice J3 n3 c3, .slice A l.length c, .slice J5 n5 c5, .slice J6 n6 c6], .string s] w (Fd 60 (findD l 0 s) w0 w) := by
  unfold maxLen at hc
  have hlc : l.length ≤ 9223372036854775807 := by omega
  have Hsome := Lib.hid (fun m => @find_some l 0 s m); have Hnone := Lib.hid (@find_none l 0 s)
  generalize findD l 0 s = r at *
  have H := Lib.hid h; have H0 := Lib.hid h0; clear h h0 hl hc
  go_enter Tryd.func113, Tryd.ntmps113
  go_wp2
  have hb0 : Below w.heap.size w ((w.alloc (.cells #[.int .i64 kd, .string nm, .slice J2 n2 c2, .slice J3 n3 c3, .slice A l.length c, .slice J5 n5 c5, .slice J6 n6 c6] 55)).alloc (.cells #[.string ⟨#[]⟩, .slice none 0 0, .string ⟨#[]⟩, .slice none 0 0, .slice none 0 0] 60)) := ((Below.refl _ _).alloc (Nat.le_refl _) _).alloc (by simp) _
  have hx0 : ((w.alloc (.cells #[.int .i64 kd, .string nm, .slice J2 n2 c2, .slice J3 n3 c3, .slice A l.length c, .slice J5 n5 c5, .slice J6 n6 c6] 55)).alloc (.cells #[.string ⟨#[]⟩, .slice none 0 0, .string ⟨#[]⟩, .slice none 0 0, .slice none 0 0] 60)).heap[w.heap.size]? = some (.cells #[.int .i64 kd, .string nm, .slice J2 n2 c2, .slice J3 n3 c3, .slice A l.length c, .slice J5 n5 c5, .slice J6 n6 c6] 55 (0, 0)) := heap_under (heap_at rfl)
  have hx1 : ((w.alloc (.cells #[.int .i64 kd, .string nm, .slice J2 n2 c2, .slice J3 n3 c3, .slice A l.length c, .slice J5 n5 c5, .slice J6 n6 c6] 55)).alloc (.cells #[.string ⟨#[]⟩, .slice none 0 0, .string ⟨#[]⟩, .slice none 0 0, .slice none 0 0] 60)).heap[w.heap.size + 1]? = some (.cells #[.string ⟨#[]⟩, .slice none 0 0, .string ⟨#[]⟩, .slice none 0 0, .slice none 0 0] 60 (0, 0)) := heap_at (by simp)
  go_loopg [6] l.length (fun j v wr => ∃ m : Nat, m + j = l.length ∧ v = .int .i64 m ∧ (∀ i, i < m → (((gD l i).f 0).s.toList == s.toList) = false) ∧ Below w.heap.size w wr ∧ wr.heap[w.heap.size]? = some (.cells #[.int .i64 kd, .string nm, .slice J2 n2 c2, .slice J3 n3 c3, .slice A l.length c, .slice J5 n5 c5, .slice J6 n6 c6] 55 (0, 0)) ∧ wr.heap[w.heap.size + 1]? = some (.cells #[.string ⟨#[]⟩, .slice none 0 0, .string ⟨#[]⟩, .slice none 0 0, .slice none 0 0] 60 (0, 0)))
  case atStart => exact ⟨0, by omega, rfl, fun i hi => by omega, hb0, hx0, hx1⟩
  case round =>
    obtain ⟨m, hmj, rfl, hall, hb, hy0, hy1⟩ := hrel
    clear hb0 hx0 hx1
    have p0 : wr.cell? ⟨w.heap.size, 0, none⟩ = some (.int .i64 kd) := cell_heap hy0 rfl
    have p1 : wr.cell? ⟨w.heap.size, 1, none⟩ = some (.string nm) := cell_heap hy0 rfl
    have p2 : wr.cell? ⟨w.heap.size, 2, none⟩ = some (.slice J2 n2 c2) := cell_heap hy0 rfl
    have p3 : wr.cell? ⟨w.heap.size, 3, none⟩ = some (.slice J3 n3 c3) := cell_heap hy0 rfl
    have p4 : wr.cell? ⟨w.heap.size, 4, none⟩ = some (.slice A l.length c) := cell_heap hy0 rfl
    have p5 : wr.cell? ⟨w.heap.size, 5, none⟩ = some (.slice J5 n5 c5) := cell_heap hy0 rfl
    have p6 : wr.cell? ⟨w.heap.size, 6, none⟩ = some (.slice J6 n6 c6) := cell_heap hy0 rfl
    have k0 : wr.cell? ⟨w.heap.size + 1, 0, none⟩ = some (.string ⟨#[]⟩) := cell_heap hy1 rfl
    have k1 : wr.cell? ⟨w.heap.size + 1, 1, none⟩ = some (.slice none 0 0) := cell_heap hy1 rfl
    have k2 : wr.cell? ⟨w.heap.size + 1, 2, none⟩ = some (.string ⟨#[]⟩) := cell_heap hy1 rfl
    have k3 : wr.cell? ⟨w.heap.size + 1, 3, none⟩ = some (.slice none 0 0) := cell_heap hy1 rfl
    have k4 : wr.cell? ⟨w.heap.size + 1, 4, none⟩ = some (.slice none 0 0) := cell_heap hy1 rfl
    have f0 := frozen_heap (o := 0) hy1
    have f1 := frozen_heap (o := 1) hy1
    have f2 := frozen_heap (o := 2) hy1
    have f3 := frozen_heap (o := 3) hy1
    have f4 := frozen_heap (o := 4) hy1
    have l0 := heap_lt hy0
    have l1 := heap_lt hy1
    have Hb := Lib.hid hb; have Hall := Lib.hid hall; have Hy0 := Lib.hid hy0; have Hy1 := Lib.hid hy1
    have Hmj := Lib.hid hmj; have hmn : m ≤ l.length := by omega
    clear hmj hb hall hy0 hy1
    by_cases hlt : m < l.length
    · obtain ⟨b, off, rfl, hI, hat⟩ := at60 H.out (by omega)
      obtain ⟨A1, c1, A3, c3, A4, c4, e0, e1, e2, e3, e4, -, -, -, -, -, y⟩ := hat m hlt
      have Hy := Lib.hid y
      clear hat y
      replace e0 := ((H0.out.trans (Hb.out.mono H0.out.size)).cell (p := ⟨b, _, none⟩) hI).trans e0
      replace e1 := ((H0.out.trans (Hb.out.mono H0.out.size)).cell (p := ⟨b, _, none⟩) hI).trans e1
      replace e2 := ((H0.out.trans (Hb.out.mono H0.out.size)).cell (p := ⟨b, _, none⟩) hI).trans e2
      replace e3 := ((H0.out.trans (Hb.out.mono H0.out.size)).cell (p := ⟨b, _, none⟩) hI).trans e3
      replace e4 := ((H0.out.trans (Hb.out.mono H0.out.size)).cell (p := ⟨b, _, none⟩) hI).trans e4
      cases hq : (((gD l m).f 0).s.toList == s.toList)
      · have Hq := Lib.hid hq
        have Hal2 := Lib.hid (show ∀ i, i < m + 1 → (((gD l i).f 0).s.toList == s.toList) = false from fun i hi => (Nat.lt_succ_iff_lt_or_eq.1 hi).elim (fun h' => Hall.out i h') (fun h' => by rw [h']; exact Hq.out))
        go_wp2
        go_roundg (l.length - m - 1)
        case measure => have := Hmj.out; omega
        case rel => exact ⟨m + 1, by have := Hmj.out; omega, by go_num, Hal2.out, Hb.out, Hy0.out, Hy1.out⟩
      · have Hr := Lib.hid (Hsome.out m hlt Hall.out hq)
        go_wp2
        have hB := (((((Hb.out.setCell (p := ⟨w.heap.size + 1, 0, none⟩) (Nat.le_succ _) (.string ((gD l m).f 0).s)).setCell (p := ⟨w.heap.size + 1, 1, none⟩) (Nat.le_succ _) (.slice A1 ((gD l m).f 1).l.length c1)).setCell (p := ⟨w.heap.size + 1, 2, none⟩) (Nat.le_succ _) (.string (((gD l m).f 2).f 0).s)).setCell (p := ⟨w.heap.size + 1, 3, none⟩) (Nat.le_succ _) (.slice A3 (((gD l m).f 2).f 1).l.length c3)).setCell (p := ⟨w.heap.size + 1, 4, none⟩) (Nat.le_succ _) (.slice A4 ((gD l m).f 3).l.length c4))
        exact bodyPost_ret (v := .tuple #[.agg #[.string ((gD l m).f 0).s, .slice A1 ((gD l m).f 1).l.length c1, .string (((gD l m).f 2).f 0).s, .slice A3 (((gD l m).f 2).f 1).l.length c3, .slice A4 ((gD l m).f 3).l.length c4], .bool true]) (by simp [results, Tryd.results113, go_sem, k0, k1, k2, k3, k4, l1]) rfl ⟨_, by rw [Hr.out]; rfl, hB, by rw [Hr.out]; exact Hy.out⟩
    · obtain rfl : m = l.length := by omega
      have Hr := Lib.hid (Hnone.out Hall.out)
      go_wp2
      exact bodyPost_ret (v := .tuple #[.agg #[.string ⟨#[]⟩, .slice none 0 0, .string ⟨#[]⟩, .slice none 0 0, .slice none 0 0], .bool false]) (by simp [results, Tryd.results113, go_sem, k0, k1, k2, k3, k4, l1]) rfl ⟨_, by rw [Hr.out]; rfl, (((((Hb.out.setCell (p := ⟨w.heap.size + 1, 0, none⟩) (Nat.le_succ _) (.string ⟨#[]⟩)).setCell (p := ⟨w.heap.size + 1, 1, none⟩) (Nat.le_succ _) (.slice none 0 0)).setCell (p := ⟨w.heap.size + 1, 2, none⟩) (Nat.le_succ _) (.string ⟨#[]⟩)).setCell (p := ⟨w.heap.size + 1, 3, none⟩) (Nat.le_succ _) (.slice none 0 0)).setCell (p := ⟨w.heap.size + 1, 4, none⟩) (Nat.le_succ _) (.slice none 0 0)), by rw [Hr.out]; exact rv_zero60 _⟩
end Go.Proofs.YtjhjleanihgopaaDoor
namespace Go.Proofs.YtjhjleanihgopaaDoor
open Go.RowKit
attribute [local irreducible] wpList Calls Code.wp
set_option maxRecDepth 100000 in
set_option maxHeartbeats 8000000 in
theorem argP (nm : ByteArray) (A : Option Addr) (l : List D) (c : Nat) (s : ByteArray) (w0 w : World) (h0 : Below w0.heap.size w0 w) (h : Rs w0 155 A l) (hl : l.length ≤ c) (hc : c ≤ maxLen) :
    Calls Tryd.prog 111 #[.agg #[.string nm, .slice A l.length c], .string s] w (Fd 39 ((findD l 0 s).map fun d => d.f 1) w0 w) := by
  unfold maxLen at hc
  have hlc : l.length ≤ 9223372036854775807 := by omega
  have Hsome := Lib.hid (fun m => @find_some l 0 s m); have Hnone := Lib.hid (@find_none l 0 s)
  generalize findD l 0 s = r at *
  have H := Lib.hid h; have H0 := Lib.hid h0; clear h h0 hl hc
  go_enter Tryd.func111, Tryd.ntmps111
  go_wp2
  have hb0 : Below w.heap.size w ((w.alloc (.cells #[.string nm, .slice A l.length c] 136)).alloc (.cells #[.int .i64 0, .int .i64 0, .string ⟨#[]⟩, .slice none 0 0, .slice none 0 0] 39)) := ((Below.refl _ _).alloc (Nat.le_refl _) _).alloc (by simp) _
  have hx0 : ((w.alloc (.cells #[.string nm, .slice A l.length c] 136)).alloc (.cells #[.int .i64 0, .int .i64 0, .string ⟨#[]⟩, .slice none 0 0, .slice none 0 0] 39)).heap[w.heap.size]? = some (.cells #[.string nm, .slice A l.length c] 136 (0, 0)) := heap_under (heap_at rfl)
  have hx1 : ((w.alloc (.cells #[.string nm, .slice A l.length c] 136)).alloc (.cells #[.int .i64 0, .int .i64 0, .string ⟨#[]⟩, .slice none 0 0, .slice none 0 0] 39)).heap[w.heap.size + 1]? = some (.cells #[.int .i64 0, .int .i64 0, .string ⟨#[]⟩, .slice none 0 0, .slice none 0 0] 39 (0, 0)) := heap_at (by simp)
  go_loopg [11] l.length (fun j v wr => ∃ m : Nat, m + j = l.length ∧ v = .int .i64 m ∧ (∀ i, i < m → (((gD l i).f 0).s.toList == s.toList) = false) ∧ Below w.heap.size w wr ∧ wr.heap[w.heap.size]? = some (.cells #[.string nm, .slice A l.length c] 136 (0, 0)) ∧ wr.heap[w.heap.size + 1]? = some (.cells #[.int .i64 0, .int .i64 0, .string ⟨#[]⟩, .slice none 0 0, .slice none 0 0] 39 (0, 0)))
  case atStart => exact ⟨0, by omega, rfl, fun i hi => by omega, hb0, hx0, hx1⟩
  case round =>
    obtain ⟨m, hmj, rfl, hall, hb, hy0, hy1⟩ := hrel
    clear hb0 hx0 hx1
    have p0 : wr.cell? ⟨w.heap.size, 0, none⟩ = some (.string nm) := cell_heap hy0 rfl
    have p1 : wr.cell? ⟨w.heap.size, 1, none⟩ = some (.slice A l.length c) := cell_heap hy0 rfl
    have k0 : wr.cell? ⟨w.heap.size + 1, 0, none⟩ = some (.int .i64 0) := cell_heap hy1 rfl
    have k1 : wr.cell? ⟨w.heap.size + 1, 1, none⟩ = some (.int .i64 0) := cell_heap hy1 rfl
    have k2 : wr.cell? ⟨w.heap.size + 1, 2, none⟩ = some (.string ⟨#[]⟩) := cell_heap hy1 rfl
    have k3 : wr.cell? ⟨w.heap.size + 1, 3, none⟩ = some (.slice none 0 0) := cell_heap hy1 rfl
    have k4 : wr.cell? ⟨w.heap.size + 1, 4, none⟩ = some (.slice none 0 0) := cell_heap hy1 rfl
    have f0 := frozen_heap (o := 0) hy1
    have f1 := frozen_heap (o := 1) hy1
    have f2 := frozen_heap (o := 2) hy1
    have f3 := frozen_heap (o := 3) hy1
    have f4 := frozen_heap (o := 4) hy1
    have l0 := heap_lt hy0
    have l1 := heap_lt hy1
    have Hb := Lib.hid hb; have Hall := Lib.hid hall; have Hy0 := Lib.hid hy0; have Hy1 := Lib.hid hy1
    have Hmj := Lib.hid hmj; have hmn : m ≤ l.length := by omega
    clear hmj hb hall hy0 hy1
    by_cases hlt : m < l.length
    · obtain ⟨b, off, rfl, hI, hat⟩ := at155 H.out (by omega)
      obtain ⟨A4, c4, A5, c5, e0, e1, e2, e3, e4, e5, -, -, -, -, -, -, y⟩ := hat m hlt
      have Hy := Lib.hid y
      clear hat y
      replace e0 := ((H0.out.trans (Hb.out.mono H0.out.size)).cell (p := ⟨b, _, none⟩) hI).trans e0
      replace e1 := ((H0.out.trans (Hb.out.mono H0.out.size)).cell (p := ⟨b, _, none⟩) hI).trans e1
      replace e2 := ((H0.out.trans (Hb.out.mono H0.out.size)).cell (p := ⟨b, _, none⟩) hI).trans e2
      replace e3 := ((H0.out.trans (Hb.out.mono H0.out.size)).cell (p := ⟨b, _, none⟩) hI).trans e3
      replace e4 := ((H0.out.trans (Hb.out.mono H0.out.size)).cell (p := ⟨b, _, none⟩) hI).trans e4
      replace e5 := ((H0.out.trans (Hb.out.mono H0.out.size)).cell (p := ⟨b, _, none⟩) hI).trans e5
      cases hq : (((gD l m).f 0).s.toList == s.toList)
      · have Hq := Lib.hid hq
        have Hal2 := Lib.hid (show ∀ i, i < m + 1 → (((gD l i).f 0).s.toList == s.toList) = false from fun i hi => (Nat.lt_succ_iff_lt_or_eq.1 hi).elim (fun h' => Hall.out i h') (fun h' => by rw [h']; exact Hq.out))
        go_wp2
        go_roundg (l.length - m - 1)
        case measure => have := Hmj.out; omega
        case rel => exact ⟨m + 1, by have := Hmj.out; omega, by go_num, Hal2.out, Hb.out.alloc Hb.out.size _, heap_under Hy0.out, heap_under Hy1.out⟩
      · have Hr := Lib.hid (Hsome.out m hlt Hall.out hq)
        go_upto_region 5 with (fail)
        have hba : Below w.heap.size w (wr.alloc (.cells #[.string ((gD l m).f 0).s, .int .i64 (((gD l m).f 1).f 0).n, .int .i64 (((gD l m).f 1).f 1).n, .string (((gD l m).f 1).f 2).s, .slice A4 (((gD l m).f 1).f 3).l.length c4, .slice A5 (((gD l m).f 1).f 4).l.length c5] 155)) := Hb.out.alloc Hb.out.size _
        have hxa : (wr.alloc (.cells #[.string ((gD l m).f 0).s, .int .i64 (((gD l m).f 1).f 0).n, .int .i64 (((gD l m).f 1).f 1).n, .string (((gD l m).f 1).f 2).s, .slice A4 (((gD l m).f 1).f 3).l.length c4, .slice A5 (((gD l m).f 1).f 4).l.length c5] 155)).heap[wr.heap.size]? = some (.cells #[.string ((gD l m).f 0).s, .int .i64 (((gD l m).f 1).f 0).n, .int .i64 (((gD l m).f 1).f 1).n, .string (((gD l m).f 1).f 2).s, .slice A4 (((gD l m).f 1).f 3).l.length c4, .slice A5 (((gD l m).f 1).f 4).l.length c5] 155 (0, 0)) := heap_at rfl
        have hya : (wr.alloc (.cells #[.string ((gD l m).f 0).s, .int .i64 (((gD l m).f 1).f 0).n, .int .i64 (((gD l m).f 1).f 1).n, .string (((gD l m).f 1).f 2).s, .slice A4 (((gD l m).f 1).f 3).l.length c4, .slice A5 (((gD l m).f 1).f 4).l.length c5] 155)).heap[w.heap.size + 1]? = some (.cells #[.int .i64 0, .int .i64 0, .string ⟨#[]⟩, .slice none 0 0, .slice none 0 0] 39 (0, 0)) := heap_under Hy1.out
        generalize wr.alloc (.cells #[.string ((gD l m).f 0).s, .int .i64 (((gD l m).f 1).f 0).n, .int .i64 (((gD l m).f 1).f 1).n, .string (((gD l m).f 1).f 2).s, .slice A4 (((gD l m).f 1).f 3).l.length c4, .slice A5 (((gD l m).f 1).f 4).l.length c5] 155) = wa at *
        generalize wr.heap.size = ba at *
        clear k0 f0 k1 f1 k2 f2 k3 f3 k4 f4 l0 l1 Hb
        have Hb := Lib.hid hba
        have l1 := heap_lt hya
        have l2 := heap_lt hxa
        have k0 : wa.cell? ⟨w.heap.size + 1, 0, none⟩ = some (.int .i64 0) := cell_heap hya rfl
        have k1 : wa.cell? ⟨w.heap.size + 1, 1, none⟩ = some (.int .i64 0) := cell_heap hya rfl
        have k2 : wa.cell? ⟨w.heap.size + 1, 2, none⟩ = some (.string ⟨#[]⟩) := cell_heap hya rfl
        have k3 : wa.cell? ⟨w.heap.size + 1, 3, none⟩ = some (.slice none 0 0) := cell_heap hya rfl
        have k4 : wa.cell? ⟨w.heap.size + 1, 4, none⟩ = some (.slice none 0 0) := cell_heap hya rfl
        have f0 := frozen_heap (o := 0) hya
        have f1 := frozen_heap (o := 1) hya
        have f2 := frozen_heap (o := 2) hya
        have f3 := frozen_heap (o := 3) hya
        have f4 := frozen_heap (o := 4) hya
        have q0 : wa.cell? ⟨ba, 0, none⟩ = some (.string ((gD l m).f 0).s) := cell_heap hxa rfl
        have q1 : wa.cell? ⟨ba, 1, none⟩ = some (.int .i64 (((gD l m).f 1).f 0).n) := cell_heap hxa rfl
        have q2 : wa.cell? ⟨ba, 2, none⟩ = some (.int .i64 (((gD l m).f 1).f 1).n) := cell_heap hxa rfl
        have q3 : wa.cell? ⟨ba, 3, none⟩ = some (.string (((gD l m).f 1).f 2).s) := cell_heap hxa rfl
        have q4 : wa.cell? ⟨ba, 4, none⟩ = some (.slice A4 (((gD l m).f 1).f 3).l.length c4) := cell_heap hxa rfl
        have q5 : wa.cell? ⟨ba, 5, none⟩ = some (.slice A5 (((gD l m).f 1).f 4).l.length c5) := cell_heap hxa rfl
        clear hba hxa hya
        go_wp2
        have hB := (((((Hb.out.setCell (p := ⟨w.heap.size + 1, 0, none⟩) (Nat.le_succ _) (.int .i64 (((gD l m).f 1).f 0).n)).setCell (p := ⟨w.heap.size + 1, 1, none⟩) (Nat.le_succ _) (.int .i64 (((gD l m).f 1).f 1).n)).setCell (p := ⟨w.heap.size + 1, 2, none⟩) (Nat.le_succ _) (.string (((gD l m).f 1).f 2).s)).setCell (p := ⟨w.heap.size + 1, 3, none⟩) (Nat.le_succ _) (.slice A4 (((gD l m).f 1).f 3).l.length c4)).setCell (p := ⟨w.heap.size + 1, 4, none⟩) (Nat.le_succ _) (.slice A5 (((gD l m).f 1).f 4).l.length c5))
        exact bodyPost_ret (v := .tuple #[.agg #[.int .i64 (((gD l m).f 1).f 0).n, .int .i64 (((gD l m).f 1).f 1).n, .string (((gD l m).f 1).f 2).s, .slice A4 (((gD l m).f 1).f 3).l.length c4, .slice A5 (((gD l m).f 1).f 4).l.length c5], .bool true]) (by simp [results, Tryd.results111, go_sem, k0, k1, k2, k3, k4, l1]) rfl ⟨_, by rw [Hr.out]; rfl, hB, by rw [Hr.out]; exact (part103_49 Hy.out)⟩
    · obtain rfl : m = l.length := by omega
      have Hr := Lib.hid (Hnone.out Hall.out)
      go_wp2
      exact bodyPost_ret (v := .tuple #[.agg #[.int .i64 0, .int .i64 0, .string ⟨#[]⟩, .slice none 0 0, .slice none 0 0], .bool false]) (by simp [results, Tryd.results111, go_sem, k0, k1, k2, k3, k4, l1]) rfl ⟨_, by rw [Hr.out]; rfl, (((((Hb.out.setCell (p := ⟨w.heap.size + 1, 0, none⟩) (Nat.le_succ _) (.int .i64 0)).setCell (p := ⟨w.heap.size + 1, 1, none⟩) (Nat.le_succ _) (.int .i64 0)).setCell (p := ⟨w.heap.size + 1, 2, none⟩) (Nat.le_succ _) (.string ⟨#[]⟩)).setCell (p := ⟨w.heap.size + 1, 3, none⟩) (Nat.le_succ _) (.slice none 0 0)).setCell (p := ⟨w.heap.size + 1, 4, none⟩) (Nat.le_succ _) (.slice none 0 0)), by rw [Hr.out]; exact rv_zero39 _⟩
end Go.Proofs.YtjhjleanihgopaaDoor
namespace Go.Proofs.YtjhjleanihgopaaDoor
open Go.RowKit
attribute [local irreducible] wpList Calls Code.wp
set_option maxRecDepth 100000 in
set_option maxHeartbeats 8000000 in
theorem argR (nm : ByteArray) (A : Option Addr) (l : List D) (c : Nat) (s : ByteArray) (w0 w : World) (h0 : Below w0.heap.size w0 w) (h : Rs w0 155 A l) (hl : l.length ≤ c) (hc : c ≤ maxLen) :
    Calls Tryd.prog 131 #[.agg #[.string nm, .slice A l.length c], .string s] w (Fd 39 ((findD l 0 s).map fun d => d.f 1) w0 w) := by
  unfold maxLen at hc
  have hlc : l.length ≤ 9223372036854775807 := by omega
  have Hsome := Lib.hid (fun m => @find_some l 0 s m); have Hnone := Lib.hid (@find_none l 0 s)
  generalize findD l 0 s = r at *
  have H := Lib.hid h; have H0 := Lib.hid h0; clear h h0 hl hc
  go_enter Tryd.func131, Tryd.ntmps131
  go_wp2
  have hb0 : Below w.heap.size w ((w.alloc (.cells #[.string nm, .slice A l.length c] 136)).alloc (.cells #[.int .i64 0, .int .i64 0, .string ⟨#[]⟩, .slice none 0 0, .slice none 0 0] 39)) := ((Below.refl _ _).alloc (Nat.le_refl _) _).alloc (by simp) _
  have hx0 : ((w.alloc (.cells #[.string nm, .slice A l.length c] 136)).alloc (.cells #[.int .i64 0, .int .i64 0, .string ⟨#[]⟩, .slice none 0 0, .slice none 0 0] 39)).heap[w.heap.size]? = some (.cells #[.string nm, .slice A l.length c] 136 (0, 0)) := heap_under (heap_at rfl)
  have hx1 : ((w.alloc (.cells #[.string nm, .slice A l.length c] 136)).alloc (.cells #[.int .i64 0, .int .i64 0, .string ⟨#[]⟩, .slice none 0 0, .slice none 0 0] 39)).heap[w.heap.size + 1]? = some (.cells #[.int .i64 0, .int .i64 0, .string ⟨#[]⟩, .slice none 0 0, .slice none 0 0] 39 (0, 0)) := heap_at (by simp)
  go_loopg [6] l.length (fun j v wr => ∃ m : Nat, m + j = l.length ∧ v = .int .i64 m ∧ (∀ i, i < m → (((gD l i).f 0).s.toList == s.toList) = false) ∧ Below w.heap.size w wr ∧ wr.heap[w.heap.size]? = some (.cells #[.string nm, .slice A l.length c] 136 (0, 0)) ∧ wr.heap[w.heap.size + 1]? = some (.cells #[.int .i64 0, .int .i64 0, .string ⟨#[]⟩, .slice none 0 0, .slice none 0 0] 39 (0, 0)))
  case atStart => exact ⟨0, by omega, rfl, fun i hi => by omega, hb0, hx0, hx1⟩
  case round =>
    obtain ⟨m, hmj, rfl, hall, hb, hy0, hy1⟩ := hrel
    clear hb0 hx0 hx1
    have p0 : wr.cell? ⟨w.heap.size, 0, none⟩ = some (.string nm) := cell_heap hy0 rfl
    have p1 : wr.cell? ⟨w.heap.size, 1, none⟩ = some (.slice A l.length c) := cell_heap hy0 rfl
    have k0 : wr.cell? ⟨w.heap.size + 1, 0, none⟩ = some (.int .i64 0) := cell_heap hy1 rfl
    have k1 : wr.cell? ⟨w.heap.size + 1, 1, none⟩ = some (.int .i64 0) := cell_heap hy1 rfl
    have k2 : wr.cell? ⟨w.heap.size + 1, 2, none⟩ = some (.string ⟨#[]⟩) := cell_heap hy1 rfl
    have k3 : wr.cell? ⟨w.heap.size + 1, 3, none⟩ = some (.slice none 0 0) := cell_heap hy1 rfl
    have k4 : wr.cell? ⟨w.heap.size + 1, 4, none⟩ = some (.slice none 0 0) := cell_heap hy1 rfl
    have f0 := frozen_heap (o := 0) hy1
    have f1 := frozen_heap (o := 1) hy1
    have f2 := frozen_heap (o := 2) hy1
    have f3 := frozen_heap (o := 3) hy1
    have f4 := frozen_heap (o := 4) hy1
    have l0 := heap_lt hy0
    have l1 := heap_lt hy1
    have Hb := Lib.hid hb; have Hall := Lib.hid hall; have Hy0 := Lib.hid hy0; have Hy1 := Lib.hid hy1
    have Hmj := Lib.hid hmj; have hmn : m ≤ l.length := by omega
    clear hmj hb hall hy0 hy1
    by_cases hlt : m < l.length
    · obtain ⟨b, off, rfl, hI, hat⟩ := at155 H.out (by omega)
      obtain ⟨A4, c4, A5, c5, e0, e1, e2, e3, e4, e5, -, -, -, -, -, -, y⟩ := hat m hlt
      have Hy := Lib.hid y
      clear hat y
      replace e0 := ((H0.out.trans (Hb.out.mono H0.out.size)).cell (p := ⟨b, _, none⟩) hI).trans e0
      replace e1 := ((H0.out.trans (Hb.out.mono H0.out.size)).cell (p := ⟨b, _, none⟩) hI).trans e1
      replace e2 := ((H0.out.trans (Hb.out.mono H0.out.size)).cell (p := ⟨b, _, none⟩) hI).trans e2
      replace e3 := ((H0.out.trans (Hb.out.mono H0.out.size)).cell (p := ⟨b, _, none⟩) hI).trans e3
      replace e4 := ((H0.out.trans (Hb.out.mono H0.out.size)).cell (p := ⟨b, _, none⟩) hI).trans e4
      replace e5 := ((H0.out.trans (Hb.out.mono H0.out.size)).cell (p := ⟨b, _, none⟩) hI).trans e5
      cases hq : (((gD l m).f 0).s.toList == s.toList)
      · have Hq := Lib.hid hq
        have Hal2 := Lib.hid (show ∀ i, i < m + 1 → (((gD l i).f 0).s.toList == s.toList) = false from fun i hi => (Nat.lt_succ_iff_lt_or_eq.1 hi).elim (fun h' => Hall.out i h') (fun h' => by rw [h']; exact Hq.out))
        go_wp2
        go_roundg (l.length - m - 1)
        case measure => have := Hmj.out; omega
        case rel => exact ⟨m + 1, by have := Hmj.out; omega, by go_num, Hal2.out, Hb.out, Hy0.out, Hy1.out⟩
      · have Hr := Lib.hid (Hsome.out m hlt Hall.out hq)
        go_wp2
        have hB := (((((Hb.out.setCell (p := ⟨w.heap.size + 1, 0, none⟩) (Nat.le_succ _) (.int .i64 (((gD l m).f 1).f 0).n)).setCell (p := ⟨w.heap.size + 1, 1, none⟩) (Nat.le_succ _) (.int .i64 (((gD l m).f 1).f 1).n)).setCell (p := ⟨w.heap.size + 1, 2, none⟩) (Nat.le_succ _) (.string (((gD l m).f 1).f 2).s)).setCell (p := ⟨w.heap.size + 1, 3, none⟩) (Nat.le_succ _) (.slice A4 (((gD l m).f 1).f 3).l.length c4)).setCell (p := ⟨w.heap.size + 1, 4, none⟩) (Nat.le_succ _) (.slice A5 (((gD l m).f 1).f 4).l.length c5))
        exact bodyPost_ret (v := .tuple #[.agg #[.int .i64 (((gD l m).f 1).f 0).n, .int .i64 (((gD l m).f 1).f 1).n, .string (((gD l m).f 1).f 2).s, .slice A4 (((gD l m).f 1).f 3).l.length c4, .slice A5 (((gD l m).f 1).f 4).l.length c5], .bool true]) (by simp [results, Tryd.results131, go_sem, k0, k1, k2, k3, k4, l1]) rfl ⟨_, by rw [Hr.out]; rfl, hB, by rw [Hr.out]; exact (part103_49 Hy.out)⟩
    · obtain rfl : m = l.length := by omega
      have Hr := Lib.hid (Hnone.out Hall.out)
      go_wp2
      exact bodyPost_ret (v := .tuple #[.agg #[.int .i64 0, .int .i64 0, .string ⟨#[]⟩, .slice none 0 0, .slice none 0 0], .bool false]) (by simp [results, Tryd.results131, go_sem, k0, k1, k2, k3, k4, l1]) rfl ⟨_, by rw [Hr.out]; rfl, (((((Hb.out.setCell (p := ⟨w.heap.size + 1, 0, none⟩) (Nat.le_succ _) (.int .i64 0)).setCell (p := ⟨w.heap.size + 1, 1, none⟩) (Nat.le_succ _) (.int .i64 0)).setCell (p := ⟨w.heap.size + 1, 2, none⟩) (Nat.le_succ _) (.string ⟨#[]⟩)).setCell (p := ⟨w.heap.size + 1, 3, none⟩) (Nat.le_succ _) (.slice none 0 0)).setCell (p := ⟨w.heap.size + 1, 4, none⟩) (Nat.le_succ _) (.slice none 0 0)), by rw [Hr.out]; exact rv_zero39 _⟩
end Go.Proofs.YtjhjleanihgopaaDoor
namespace Go.Proofs.YtjhjleanihgopaaDoor
open Go.RowKit
attribute [local irreducible] wpList Calls Code.wp
/-- the argument of the first directive with a name -/
def argV (l : List D) (n a : ByteArray) : Option D := (findD l 0 n).bind fun x => (findD (x.f 1).l 0 a).map fun d => d.f 1
theorem argV_some {l : List D} {n s : ByteArray} {x : D} (h : findD l 0 n = some x) : argV l n s = (findD (x.f 1).l 0 s).map fun d => d.f 1 := by unfold argV; rw [h]; rfl
theorem argV_none {l : List D} {n s : ByteArray} (h : findD l 0 n = none) : argV l n s = none := by unfold argV; rw [h]; rfl
set_option maxRecDepth 100000 in
set_option maxHeartbeats 8000000 in
theorem argsP (A : Option Addr) (l : List D) (c : Nat) (n s : ByteArray) (w0 w : World) (h0 : Below w0.heap.size w0 w) (h : Rs w0 136 A l) (hl : l.length ≤ c) (hc : c ≤ maxLen) :
    Calls Tryd.prog 84 #[.slice A l.length c, .string n, .string s] w (Fd 39 (argV l n s) w0 w) := by
  unfold maxLen at hc
  have hlc : l.length ≤ 9223372036854775807 := by omega
  have Hsome := Lib.hid (fun m h1 h2 h3 => argV_some (s := s) (@find_some l 0 n m h1 h2 h3)); have Hnone := Lib.hid (fun h1 => argV_none (s := s) (@find_none l 0 n h1))
  generalize argV l n s = r at *
  have H := Lib.hid h; have H0 := Lib.hid h0; clear h h0 hl hc
  go_enter Tryd.func84, Tryd.ntmps84
  go_wp2
  have hb0 : Below w.heap.size w (w.alloc (.cells #[.int .i64 0, .int .i64 0, .string ⟨#[]⟩, .slice none 0 0, .slice none 0 0] 39)) := (Below.refl _ _).alloc (Nat.le_refl _) _
  have hx1 : (w.alloc (.cells #[.int .i64 0, .int .i64 0, .string ⟨#[]⟩, .slice none 0 0, .slice none 0 0] 39)).heap[w.heap.size]? = some (.cells #[.int .i64 0, .int .i64 0, .string ⟨#[]⟩, .slice none 0 0, .slice none 0 0] 39 (0, 0)) := heap_at rfl
  go_loopg [12] l.length (fun j v wr => ∃ m : Nat, m + j = l.length ∧ v = .int .i64 m ∧ (∀ i, i < m → (((gD l i).f 0).s.toList == n.toList) = false) ∧ Below w.heap.size w wr ∧ wr.heap[w.heap.size]? = some (.cells #[.int .i64 0, .int .i64 0, .string ⟨#[]⟩, .slice none 0 0, .slice none 0 0] 39 (0, 0)))
  case atStart => exact ⟨0, by omega, rfl, fun i hi => by omega, hb0, hx1⟩
  case round =>
    obtain ⟨m, hmj, rfl, hall, hb, hy1⟩ := hrel
    clear hb0 hx1
    have k0 : wr.cell? ⟨w.heap.size, 0, none⟩ = some (.int .i64 0) := cell_heap hy1 rfl
    have k1 : wr.cell? ⟨w.heap.size, 1, none⟩ = some (.int .i64 0) := cell_heap hy1 rfl
    have k2 : wr.cell? ⟨w.heap.size, 2, none⟩ = some (.string ⟨#[]⟩) := cell_heap hy1 rfl
    have k3 : wr.cell? ⟨w.heap.size, 3, none⟩ = some (.slice none 0 0) := cell_heap hy1 rfl
    have k4 : wr.cell? ⟨w.heap.size, 4, none⟩ = some (.slice none 0 0) := cell_heap hy1 rfl
    have f0 := frozen_heap (o := 0) hy1
    have f1 := frozen_heap (o := 1) hy1
    have f2 := frozen_heap (o := 2) hy1
    have f3 := frozen_heap (o := 3) hy1
    have f4 := frozen_heap (o := 4) hy1
    have l1 := heap_lt hy1
    have Hb := Lib.hid hb; have Hall := Lib.hid hall; have Hy1 := Lib.hid hy1
    have Hmj := Lib.hid hmj; have hmn : m ≤ l.length := by omega
    clear hmj hb hall hy1
    by_cases hlt : m < l.length
    · obtain ⟨b, off, rfl, hI, hat⟩ := at136 H.out (by omega)
      obtain ⟨A1, c1, e0, e1, -, ⟨s1, s2, -, s3⟩, -⟩ := hat m hlt
      have S1 := Lib.hid s1; have S2 := Lib.hid s2; have S3 := Lib.hid s3
      clear hat s1 s2 s3
      replace e0 := ((H0.out.trans (Hb.out.mono H0.out.size)).cell (p := ⟨b, _, none⟩) hI).trans e0
      replace e1 := ((H0.out.trans (Hb.out.mono H0.out.size)).cell (p := ⟨b, _, none⟩) hI).trans e1
      cases hq : (((gD l m).f 0).s.toList == n.toList)
      · have Hq := Lib.hid hq
        have Hal2 := Lib.hid (show ∀ i, i < m + 1 → (((gD l i).f 0).s.toList == n.toList) = false from fun i hi => (Nat.lt_succ_iff_lt_or_eq.1 hi).elim (fun h' => Hall.out i h') (fun h' => by rw [h']; exact Hq.out))
        go_wp2
        go_roundg (l.length - m - 1)
        case measure => have := Hmj.out; omega
        case rel => exact ⟨m + 1, by have := Hmj.out; omega, by go_num, Hal2.out, Hb.out.alloc Hb.out.size _, heap_under Hy1.out⟩
      · have Hr := Lib.hid (Hsome.out m hlt Hall.out hq)
        clear k0 f0 k1 f1 k2 f2 k3 f3 k4 f4
        go_upto_region 5 with (fail)
        have hba : Below w.heap.size w (wr.alloc (.cells #[.string ((gD l m).f 0).s, .slice A1 ((gD l m).f 1).l.length c1] 136)) := Hb.out.alloc Hb.out.size _
        have hxa : (wr.alloc (.cells #[.string ((gD l m).f 0).s, .slice A1 ((gD l m).f 1).l.length c1] 136)).heap[wr.heap.size]? = some (.cells #[.string ((gD l m).f 0).s, .slice A1 ((gD l m).f 1).l.length c1] 136 (0, 0)) := heap_at rfl
        have hya : (wr.alloc (.cells #[.string ((gD l m).f 0).s, .slice A1 ((gD l m).f 1).l.length c1] 136)).heap[w.heap.size]? = some (.cells #[.int .i64 0, .int .i64 0, .string ⟨#[]⟩, .slice none 0 0, .slice none 0 0] 39 (0, 0)) := heap_under Hy1.out
        generalize wr.alloc (.cells #[.string ((gD l m).f 0).s, .slice A1 ((gD l m).f 1).l.length c1] 136) = wa at *
        generalize wr.heap.size = ba at *
        have q0 : wa.cell? ⟨ba, 0, none⟩ = some (.string ((gD l m).f 0).s) := cell_heap hxa rfl
        have q1 : wa.cell? ⟨ba, 1, none⟩ = some (.slice A1 ((gD l m).f 1).l.length c1) := cell_heap hxa rfl
        have l2 := heap_lt hxa
        clear Hb Hy1 l1
        have Hb := Lib.hid hba
        have Hy1 := Lib.hid hya
        have l1 := heap_lt hya
        clear hba hxa hya
        go_wp2_with fail
        refine (argP ((gD l m).f 0).s A1 ((gD l m).f 1).l c1 s w0 wa (H0.out.trans (Hb.out.mono H0.out.size)) S3.out S1.out S2.out).mono ?_
        rintro e w2 ⟨cs, rfl, b2, rv⟩
        have HB := Lib.hid (Hb.out.trans (b2.mono Hb.out.size))
        have HV := Lib.hid ((b2.block _ l1).trans Hy1.out)
        have Rv := Lib.hid rv
        obtain ⟨A3, c3, A4, c4, rfl, -⟩ := in39 rv
        clear b2 rv
        generalize hdv : (((findD ((gD l m).f 1).l 0 s).map fun d => d.f 1).getD default) = dv at *
        generalize hbo : ((findD ((gD l m).f 1).l 0 s).map fun d => d.f 1).isSome = bo at *
        have Hdv := Lib.hid hdv; have Hbo := Lib.hid hbo; clear hdv hbo
        have k0 : w2.cell? ⟨w.heap.size, 0, none⟩ = some (.int .i64 0) := cell_heap HV.out rfl
        have k1 : w2.cell? ⟨w.heap.size, 1, none⟩ = some (.int .i64 0) := cell_heap HV.out rfl
        have k2 : w2.cell? ⟨w.heap.size, 2, none⟩ = some (.string ⟨#[]⟩) := cell_heap HV.out rfl
        have k3 : w2.cell? ⟨w.heap.size, 3, none⟩ = some (.slice none 0 0) := cell_heap HV.out rfl
        have k4 : w2.cell? ⟨w.heap.size, 4, none⟩ = some (.slice none 0 0) := cell_heap HV.out rfl
        have f0 := frozen_heap (o := 0) HV.out
        have f1 := frozen_heap (o := 1) HV.out
        have f2 := frozen_heap (o := 2) HV.out
        have f3 := frozen_heap (o := 3) HV.out
        have f4 := frozen_heap (o := 4) HV.out
        have l3 := heap_lt HV.out
        go_wp2
        exact bodyPost_ret (v := .tuple #[.agg #[.int .i64 (dv.f 0).n, .int .i64 (dv.f 1).n, .string (dv.f 2).s, .slice A3 (dv.f 3).l.length c3, .slice A4 (dv.f 4).l.length c4], .bool bo]) (by simp [results, Tryd.results84, go_sem, k0, k1, k2, k3, k4, l3]) rfl ⟨_, by rw [Hr.out, Hbo.out], (((((HB.out.setCell (p := ⟨w.heap.size, 0, none⟩) (Nat.le_refl _) (.int .i64 (dv.f 0).n)).setCell (p := ⟨w.heap.size, 1, none⟩) (Nat.le_refl _) (.int .i64 (dv.f 1).n)).setCell (p := ⟨w.heap.size, 2, none⟩) (Nat.le_refl _) (.string (dv.f 2).s)).setCell (p := ⟨w.heap.size, 3, none⟩) (Nat.le_refl _) (.slice A3 (dv.f 3).l.length c3)).setCell (p := ⟨w.heap.size, 4, none⟩) (Nat.le_refl _) (.slice A4 (dv.f 4).l.length c4)), by rw [Hr.out, Hdv.out]; exact Rv.out⟩
    · obtain rfl : m = l.length := by omega
      have Hr := Lib.hid (Hnone.out Hall.out)
      go_wp2
      exact bodyPost_ret (v := .tuple #[.agg #[.int .i64 0, .int .i64 0, .string ⟨#[]⟩, .slice none 0 0, .slice none 0 0], .bool false]) (by simp [results, Tryd.results84, go_sem, k0, k1, k2, k3, k4, l1]) rfl ⟨_, by rw [Hr.out]; rfl, (((((Hb.out.setCell (p := ⟨w.heap.size, 0, none⟩) (Nat.le_refl _) (.int .i64 0)).setCell (p := ⟨w.heap.size, 1, none⟩) (Nat.le_refl _) (.int .i64 0)).setCell (p := ⟨w.heap.size, 2, none⟩) (Nat.le_refl _) (.string ⟨#[]⟩)).setCell (p := ⟨w.heap.size, 3, none⟩) (Nat.le_refl _) (.slice none 0 0)).setCell (p := ⟨w.heap.size, 4, none⟩) (Nat.le_refl _) (.slice none 0 0)), by rw [Hr.out]; exact rv_zero39 _⟩
set_option maxRecDepth 100000 in
set_option maxHeartbeats 8000000 in
theorem argsR (A : Option Addr) (l : List D) (c : Nat) (n s : ByteArray) (w0 w : World) (h0 : Below w0.heap.size w0 w) (h : Rs w0 136 A l) (hl : l.length ≤ c) (hc : c ≤ maxLen) :
    Calls Tryd.prog 114 #[.slice A l.length c, .string n, .string s] w (Fd 39 (argV l n s) w0 w) := by
  unfold maxLen at hc
  have hlc : l.length ≤ 9223372036854775807 := by omega
  have Hsome := Lib.hid (fun m h1 h2 h3 => argV_some (s := s) (@find_some l 0 n m h1 h2 h3)); have Hnone := Lib.hid (fun h1 => argV_none (s := s) (@find_none l 0 n h1))
  generalize argV l n s = r at *
  have H := Lib.hid h; have H0 := Lib.hid h0; clear h h0 hl hc
  go_enter Tryd.func114, Tryd.ntmps114
  go_wp2
  have hb0 : Below w.heap.size w (w.alloc (.cells #[.int .i64 0, .int .i64 0, .string ⟨#[]⟩, .slice none 0 0, .slice none 0 0] 39)) := (Below.refl _ _).alloc (Nat.le_refl _) _
  have hx1 : (w.alloc (.cells #[.int .i64 0, .int .i64 0, .string ⟨#[]⟩, .slice none 0 0, .slice none 0 0] 39)).heap[w.heap.size]? = some (.cells #[.int .i64 0, .int .i64 0, .string ⟨#[]⟩, .slice none 0 0, .slice none 0 0] 39 (0, 0)) := heap_at rfl
  go_loopg [8] l.length (fun j v wr => ∃ m : Nat, m + j = l.length ∧ v = .int .i64 m ∧ (∀ i, i < m → (((gD l i).f 0).s.toList == n.toList) = false) ∧ Below w.heap.size w wr ∧ wr.heap[w.heap.size]? = some (.cells #[.int .i64 0, .int .i64 0, .string ⟨#[]⟩, .slice none 0 0, .slice none 0 0] 39 (0, 0)))
  case atStart => exact ⟨0, by omega, rfl, fun i hi => by omega, hb0, hx1⟩
  case round =>
    obtain ⟨m, hmj, rfl, hall, hb, hy1⟩ := hrel
    clear hb0 hx1
    have k0 : wr.cell? ⟨w.heap.size, 0, none⟩ = some (.int .i64 0) := cell_heap hy1 rfl
    have k1 : wr.cell? ⟨w.heap.size, 1, none⟩ = some (.int .i64 0) := cell_heap hy1 rfl
    have k2 : wr.cell? ⟨w.heap.size, 2, none⟩ = some (.string ⟨#[]⟩) := cell_heap hy1 rfl
    have k3 : wr.cell? ⟨w.heap.size, 3, none⟩ = some (.slice none 0 0) := cell_heap hy1 rfl
    have k4 : wr.cell? ⟨w.heap.size, 4, none⟩ = some (.slice none 0 0) := cell_heap hy1 rfl
    have f0 := frozen_heap (o := 0) hy1
    have f1 := frozen_heap (o := 1) hy1
    have f2 := frozen_heap (o := 2) hy1
    have f3 := frozen_heap (o := 3) hy1
    have f4 := frozen_heap (o := 4) hy1
    have l1 := heap_lt hy1
    have Hb := Lib.hid hb; have Hall := Lib.hid hall; have Hy1 := Lib.hid hy1
    have Hmj := Lib.hid hmj; have hmn : m ≤ l.length := by omega
    clear hmj hb hall hy1
    by_cases hlt : m < l.length
    · obtain ⟨b, off, rfl, hI, hat⟩ := at136 H.out (by omega)
      obtain ⟨A1, c1, e0, e1, -, ⟨s1, s2, -, s3⟩, -⟩ := hat m hlt
      have S1 := Lib.hid s1; have S2 := Lib.hid s2; have S3 := Lib.hid s3
      clear hat s1 s2 s3
      replace e0 := ((H0.out.trans (Hb.out.mono H0.out.size)).cell (p := ⟨b, _, none⟩) hI).trans e0
      replace e1 := ((H0.out.trans (Hb.out.mono H0.out.size)).cell (p := ⟨b, _, none⟩) hI).trans e1
      cases hq : (((gD l m).f 0).s.toList == n.toList)
      · have Hq := Lib.hid hq
        have Hal2 := Lib.hid (show ∀ i, i < m + 1 → (((gD l i).f 0).s.toList == n.toList) = false from fun i hi => (Nat.lt_succ_iff_lt_or_eq.1 hi).elim (fun h' => Hall.out i h') (fun h' => by rw [h']; exact Hq.out))
        go_wp2
        go_roundg (l.length - m - 1)
        case measure => have := Hmj.out; omega
        case rel => exact ⟨m + 1, by have := Hmj.out; omega, by go_num, Hal2.out, Hb.out, Hy1.out⟩
      · have Hr := Lib.hid (Hsome.out m hlt Hall.out hq)
        clear k0 f0 k1 f1 k2 f2 k3 f3 k4 f4
        go_wp2_with fail
        refine (argR ((gD l m).f 0).s A1 ((gD l m).f 1).l c1 s w0 wr (H0.out.trans (Hb.out.mono H0.out.size)) S3.out S1.out S2.out).mono ?_
        rintro e w2 ⟨cs, rfl, b2, rv⟩
        have HB := Lib.hid (Hb.out.trans (b2.mono Hb.out.size))
        have HV := Lib.hid ((b2.block _ l1).trans Hy1.out)
        have Rv := Lib.hid rv
        obtain ⟨A3, c3, A4, c4, rfl, -⟩ := in39 rv
        clear b2 rv
        generalize hdv : (((findD ((gD l m).f 1).l 0 s).map fun d => d.f 1).getD default) = dv at *
        generalize hbo : ((findD ((gD l m).f 1).l 0 s).map fun d => d.f 1).isSome = bo at *
        have Hdv := Lib.hid hdv; have Hbo := Lib.hid hbo; clear hdv hbo
        have k0 : w2.cell? ⟨w.heap.size, 0, none⟩ = some (.int .i64 0) := cell_heap HV.out rfl
        have k1 : w2.cell? ⟨w.heap.size, 1, none⟩ = some (.int .i64 0) := cell_heap HV.out rfl
        have k2 : w2.cell? ⟨w.heap.size, 2, none⟩ = some (.string ⟨#[]⟩) := cell_heap HV.out rfl
        have k3 : w2.cell? ⟨w.heap.size, 3, none⟩ = some (.slice none 0 0) := cell_heap HV.out rfl
        have k4 : w2.cell? ⟨w.heap.size, 4, none⟩ = some (.slice none 0 0) := cell_heap HV.out rfl
        have f0 := frozen_heap (o := 0) HV.out
        have f1 := frozen_heap (o := 1) HV.out
        have f2 := frozen_heap (o := 2) HV.out
        have f3 := frozen_heap (o := 3) HV.out
        have f4 := frozen_heap (o := 4) HV.out
        have l3 := heap_lt HV.out
        go_wp2
        exact bodyPost_ret (v := .tuple #[.agg #[.int .i64 (dv.f 0).n, .int .i64 (dv.f 1).n, .string (dv.f 2).s, .slice A3 (dv.f 3).l.length c3, .slice A4 (dv.f 4).l.length c4], .bool bo]) (by simp [results, Tryd.results114, go_sem, k0, k1, k2, k3, k4, l3]) rfl ⟨_, by rw [Hr.out, Hbo.out], (((((HB.out.setCell (p := ⟨w.heap.size, 0, none⟩) (Nat.le_refl _) (.int .i64 (dv.f 0).n)).setCell (p := ⟨w.heap.size, 1, none⟩) (Nat.le_refl _) (.int .i64 (dv.f 1).n)).setCell (p := ⟨w.heap.size, 2, none⟩) (Nat.le_refl _) (.string (dv.f 2).s)).setCell (p := ⟨w.heap.size, 3, none⟩) (Nat.le_refl _) (.slice A3 (dv.f 3).l.length c3)).setCell (p := ⟨w.heap.size, 4, none⟩) (Nat.le_refl _) (.slice A4 (dv.f 4).l.length c4)), by rw [Hr.out, Hdv.out]; exact Rv.out⟩
    · obtain rfl : m = l.length := by omega
      have Hr := Lib.hid (Hnone.out Hall.out)
      go_wp2
      exact bodyPost_ret (v := .tuple #[.agg #[.int .i64 0, .int .i64 0, .string ⟨#[]⟩, .slice none 0 0, .slice none 0 0], .bool false]) (by simp [results, Tryd.results114, go_sem, k0, k1, k2, k3, k4, l1]) rfl ⟨_, by rw [Hr.out]; rfl, (((((Hb.out.setCell (p := ⟨w.heap.size, 0, none⟩) (Nat.le_refl _) (.int .i64 0)).setCell (p := ⟨w.heap.size, 1, none⟩) (Nat.le_refl _) (.int .i64 0)).setCell (p := ⟨w.heap.size, 2, none⟩) (Nat.le_refl _) (.string ⟨#[]⟩)).setCell (p := ⟨w.heap.size, 3, none⟩) (Nat.le_refl _) (.slice none 0 0)).setCell (p := ⟨w.heap.size, 4, none⟩) (Nat.le_refl _) (.slice none 0 0)), by rw [Hr.out]; exact rv_zero39 _⟩
end Go.Proofs.YtjhjleanihgopaaDoor
namespace Go.Proofs.YtjhjleanihgopaaDoor
open Go.RowKit
attribute [local irreducible] wpList Calls Code.wp
def ageV (l : List D) : Int × Bool :=
  match argV l ⟨#[99, 97, 99, 104, 101, 67, 111, 110, 116, 114, 111, 108]⟩ ⟨#[109, 97, 120, 65, 103, 101]⟩ with
  | some v => if (v.f 0).n = 2 then (max (v.f 1).n 0, true) else (0, false)
  | none => (0, false)
def privV (l : List D) : Bool :=
  match argV l ⟨#[99, 97, 99, 104, 101, 67, 111, 110, 116, 114, 111, 108]⟩ ⟨#[112, 114, 105, 118, 97, 116, 101]⟩ with
  | some v => decide ((v.f 0).n = 1) && decide ((v.f 1).n = 1)
  | none => false
/-- a number and a bool come back -/
def Ib (n : Int) (b : Bool) (w : World) (e : Ending) (w' : World) : Prop := e = .returned (.tuple #[.int .i64 n, .bool b]) ∧ Below w.heap.size w w'
def Bl (b : Bool) (w : World) (e : Ending) (w' : World) : Prop := e = .returned (.bool b) ∧ Below w.heap.size w w'
set_option maxRecDepth 100000 in
set_option maxHeartbeats 4000000 in
theorem ageP (A : Option Addr) (l : List D) (c : Nat) (w0 w : World) (h0 : Below w0.heap.size w0 w) (h : Rs w0 136 A l) (hl : l.length ≤ c) (hc : c ≤ maxLen) :
    Calls Tryd.prog 53 #[.slice A l.length c] w (Ib (ageV l).1 (ageV l).2 w) := by
  have HA := Lib.hid (argsP A l c ⟨#[99, 97, 99, 104, 101, 67, 111, 110, 116, 114, 111, 108]⟩ ⟨#[109, 97, 120, 65, 103, 101]⟩ w0 w h0 h hl hc)
  clear h0 h hl hc
  obtain ⟨x, hx⟩ : ∃ x, x = ageV l := ⟨_, rfl⟩
  rw [← hx]
  unfold ageV at hx
  generalize argV l ⟨#[99, 97, 99, 104, 101, 67, 111, 110, 116, 114, 111, 108]⟩ ⟨#[109, 97, 120, 65, 103, 101]⟩ = o at *
  generalize l.length = n at *
  have HX := Lib.hid hx; clear hx
  go_enter Tryd.func53, Tryd.ntmps53
  go_wp2_with fail
  refine HA.out.mono ?_
  rintro e w1 ⟨cs, rfl, b, rv⟩
  have B1 := Lib.hid b
  have B2 := Lib.hid (fun x => (B1.out.alloc B1.out.size x))
  obtain ⟨A3, c3, A4, c4, rfl, r1, -⟩ := in39 rv
  clear b rv
  cases o with
  | none =>
    simp only [Option.isSome_none, Option.getD_none]
    go_wp2
    go_ret2
    exact ⟨by rw [HX.out]; simp [*], B2.out _⟩
  | some v =>
    simp only [Option.isSome_some, Option.getD_some] at r1 ⊢
    by_cases hk : (v.f 0).n = 2
    · go_wp2
      go_ret2
      exact ⟨by rw [HX.out]; simp [*], B2.out _⟩
    · go_wp2
      go_ret2
      exact ⟨by rw [HX.out]; simp [*], B2.out _⟩
set_option maxRecDepth 100000 in
set_option maxHeartbeats 4000000 in
theorem ageR (A : Option Addr) (l : List D) (c : Nat) (w0 w : World) (h0 : Below w0.heap.size w0 w) (h : Rs w0 136 A l) (hl : l.length ≤ c) (hc : c ≤ maxLen) :
    Calls Tryd.prog 87 #[.slice A l.length c] w (Ib (ageV l).1 (ageV l).2 w) := by
  have HA := Lib.hid (argsR A l c ⟨#[99, 97, 99, 104, 101, 67, 111, 110, 116, 114, 111, 108]⟩ ⟨#[109, 97, 120, 65, 103, 101]⟩ w0 w h0 h hl hc)
  clear h0 h hl hc
  obtain ⟨x, hx⟩ : ∃ x, x = ageV l := ⟨_, rfl⟩
  rw [← hx]
  unfold ageV at hx
  generalize argV l ⟨#[99, 97, 99, 104, 101, 67, 111, 110, 116, 114, 111, 108]⟩ ⟨#[109, 97, 120, 65, 103, 101]⟩ = o at *
  generalize l.length = n at *
  have HX := Lib.hid hx; clear hx
  go_enter Tryd.func87, Tryd.ntmps87
  go_wp2_with fail
  refine HA.out.mono ?_
  rintro e w1 ⟨cs, rfl, b, rv⟩
  have B1 := Lib.hid b
  have B2 := Lib.hid (fun x => (B1.out.alloc B1.out.size x))
  obtain ⟨A3, c3, A4, c4, rfl, r1, -⟩ := in39 rv
  clear b rv
  cases o with
  | none =>
    simp only [Option.isSome_none, Option.getD_none]
    go_wp2
    go_ret2
    exact ⟨by rw [HX.out]; simp [*], B2.out _⟩
  | some v =>
    simp only [Option.isSome_some, Option.getD_some] at r1 ⊢
    by_cases hk : (v.f 0).n = 2
    · go_wp2
      go_ret2
      exact ⟨by rw [HX.out]; simp [*], B2.out _⟩
    · go_wp2
      go_ret2
      exact ⟨by rw [HX.out]; simp [*], B2.out _⟩
set_option maxRecDepth 100000 in
set_option maxHeartbeats 4000000 in
theorem privP (A : Option Addr) (l : List D) (c : Nat) (w0 w : World) (h0 : Below w0.heap.size w0 w) (h : Rs w0 136 A l) (hl : l.length ≤ c) (hc : c ≤ maxLen) :
    Calls Tryd.prog 54 #[.slice A l.length c] w (Bl (privV l) w) := by
  have HA := Lib.hid (argsP A l c ⟨#[99, 97, 99, 104, 101, 67, 111, 110, 116, 114, 111, 108]⟩ ⟨#[112, 114, 105, 118, 97, 116, 101]⟩ w0 w h0 h hl hc)
  clear h0 h hl hc
  obtain ⟨x, hx⟩ : ∃ x, x = privV l := ⟨_, rfl⟩
  rw [← hx]
  unfold privV at hx
  generalize argV l ⟨#[99, 97, 99, 104, 101, 67, 111, 110, 116, 114, 111, 108]⟩ ⟨#[112, 114, 105, 118, 97, 116, 101]⟩ = o at *
  generalize l.length = n at *
  have HX := Lib.hid hx; clear hx
  go_enter Tryd.func54, Tryd.ntmps54
  go_wp2_with fail
  refine HA.out.mono ?_
  rintro e w1 ⟨cs, rfl, b, rv⟩
  have B1 := Lib.hid b
  have B2 := Lib.hid (fun x => (B1.out.alloc B1.out.size x))
  obtain ⟨A3, c3, A4, c4, rfl, r0, r1, -⟩ := in39 rv
  clear b rv
  cases o with
  | none =>
    simp only [Option.isSome_none, Option.getD_none]
    go_wp2
    go_ret
    exact ⟨by rw [HX.out]; simp [*], B2.out _⟩
  | some v =>
    simp only [Option.isSome_some, Option.getD_some] at r0 r1 ⊢
    by_cases hk : (v.f 0).n = 1
    · by_cases hi : (v.f 1).n = 1
      · go_wp2
        go_ret
        exact ⟨by rw [HX.out]; simp [*], B2.out _⟩
      · go_wp2
        go_ret
        exact ⟨by rw [HX.out]; simp [*], B2.out _⟩
    · go_wp2
      go_ret
      exact ⟨by rw [HX.out]; simp [*], B2.out _⟩
set_option maxRecDepth 100000 in
set_option maxHeartbeats 4000000 in
theorem privR (A : Option Addr) (l : List D) (c : Nat) (w0 w : World) (h0 : Below w0.heap.size w0 w) (h : Rs w0 136 A l) (hl : l.length ≤ c) (hc : c ≤ maxLen) :
    Calls Tryd.prog 86 #[.slice A l.length c] w (Bl (privV l) w) := by
  have HA := Lib.hid (argsR A l c ⟨#[99, 97, 99, 104, 101, 67, 111, 110, 116, 114, 111, 108]⟩ ⟨#[112, 114, 105, 118, 97, 116, 101]⟩ w0 w h0 h hl hc)
  clear h0 h hl hc
  obtain ⟨x, hx⟩ : ∃ x, x = privV l := ⟨_, rfl⟩
  rw [← hx]
  unfold privV at hx
  generalize argV l ⟨#[99, 97, 99, 104, 101, 67, 111, 110, 116, 114, 111, 108]⟩ ⟨#[112, 114, 105, 118, 97, 116, 101]⟩ = o at *
  generalize l.length = n at *
  have HX := Lib.hid hx; clear hx
  go_enter Tryd.func86, Tryd.ntmps86
  go_wp2_with fail
  refine HA.out.mono ?_
  rintro e w1 ⟨cs, rfl, b, rv⟩
  have B1 := Lib.hid b
  have B2 := Lib.hid (fun x => (B1.out.alloc B1.out.size x))
  obtain ⟨A3, c3, A4, c4, rfl, r0, r1, -⟩ := in39 rv
  clear b rv
  cases o with
  | none =>
    simp only [Option.isSome_none, Option.getD_none]
    go_wp2
    go_ret
    exact ⟨by rw [HX.out]; simp [*], B2.out _⟩
  | some v =>
    simp only [Option.isSome_some, Option.getD_some] at r0 r1 ⊢
    by_cases hk : (v.f 0).n = 1
    · by_cases hi : (v.f 1).n = 1
      · go_wp2
        go_ret
        exact ⟨by rw [HX.out]; simp [*], B2.out _⟩
      · go_wp2
        go_ret
        exact ⟨by rw [HX.out]; simp [*], B2.out _⟩
    · go_wp2
      go_ret
      exact ⟨by rw [HX.out]; simp [*], B2.out _⟩
end Go.Proofs.YtjhjleanihgopaaDoor
namespace Go.Proofs.YtjhjleanihgopaaDoor
open Go.RowKit
attribute [local irreducible] wpList Calls Code.wp
/-- the directives of a field and of its named type -/
def partsV (l : List D) (on fd : ByteArray) : Option (List D × List D) :=
  (findD (((findD l 1 on).getD default).f 4).l 0 fd).map fun f => ((f.f 3).l, (((findD l 1 ((f.f 2).f 0).s).getD default).f 3).l)
def ownV (l : List D) (on fd : ByteArray) : Int × Bool × Bool :=
  match partsV l on fd with
  | none => (0, false, false)
  | some (a, b) => if (ageV a).2 = true then ((ageV a).1, true, privV a || privV b) else ((ageV b).1, (ageV b).2, privV a || privV b)
theorem parts_none {l : List D} {on fd : ByteArray} {t : D} (ht : (findD l 1 on).getD default = t) (h : findD (t.f 4).l 0 fd = none) : partsV l on fd = none := by unfold partsV; rw [ht, h]; rfl
theorem parts_some {l : List D} {on fd : ByteArray} {t f n : D} (ht : (findD l 1 on).getD default = t) (h : findD (t.f 4).l 0 fd = some f) (hn : (findD l 1 ((f.f 2).f 0).s).getD default = n) : partsV l on fd = some ((f.f 3).l, (n.f 3).l) := by
  unfold partsV; rw [ht, h, Option.map_some, hn]
/-- a number and two bools come back -/
def Ibb (r : Int × Bool × Bool) (w : World) (e : Ending) (w' : World) : Prop := e = .returned (.tuple #[.int .i64 r.1, .bool r.2.1, .bool r.2.2]) ∧ Below w.heap.size w w'
set_option maxRecDepth 100000 in
set_option maxHeartbeats 16000000 in
theorem ownP (A : Option Addr) (l : List D) (c : Nat) (on fd : ByteArray) (w0 w : World) (h0 : Below w0.heap.size w0 w) (h : Rs w0 55 A l) (hl : l.length ≤ c) (hc : c ≤ maxLen) :
    Calls Tryd.prog 29 #[.agg #[.slice A l.length c], .string on, .string fd] w (Ibb (ownV l on fd) w) := by
  obtain ⟨x, hx⟩ : ∃ x, x = ownV l on fd := ⟨_, rfl⟩
  rw [← hx]
  have HX := Lib.hid hx; clear hx
  have HF := Lib.hid (fun s w (h0 : Below w0.heap.size w0 w) => findP A l c s w0 w h0 h hl hc)
  have H0 := Lib.hid h0
  clear h h0 hl hc
  go_enter Tryd.func29, Tryd.ntmps29
  go_wp2_with fail
  have b := (Below.refl w.heap.size w).alloc (Nat.le_refl _) (.cells #[.slice A l.length c] 24)
  have XD := Lib.hid (heap_at (w := w) (o := (.cells #[.slice A l.length c] 24)) rfl)
  have B0 := Lib.hid b; clear b
  generalize w.alloc (.cells #[.slice A l.length c] 24) = wa at *
  refine (HF.out on wa (H0.out.trans (B0.out.mono H0.out.size))).mono ?_
  rintro e w1 ⟨cs, rfl, b1, rv1⟩
  obtain ⟨A2t, c2t, A3t, c3t, A4t, c4t, A5t, c5t, A6t, c6t, rfl, -, -, -, -, ⟨s4a, s4b, -, s4⟩, -⟩ := in55 rv1
  have S4 := Lib.hid s4; have S4a := Lib.hid s4a; have S4b := Lib.hid s4b
  have B1 := Lib.hid (B0.out.trans (b1.mono B0.out.size))
  have XD1 := Lib.hid ((b1.block _ (heap_lt XD.out)).trans XD.out)
  clear b1 rv1 s4 s4a s4b XD B0
  generalize hT : (findD l 1 on).getD default = t at *
  have HT := Lib.hid hT; clear hT
  generalize (findD l 1 on).isSome = bt at *
  go_wp2_with fail
  have b := B1.out.alloc B1.out.size (.cells #[.int .i64 (t.f 0).n, .string (t.f 1).s, .slice A2t (t.f 2).l.length c2t, .slice A3t (t.f 3).l.length c3t, .slice A4t (t.f 4).l.length c4t, .slice A5t (t.f 5).l.length c5t, .slice A6t (t.f 6).l.length c6t] 55)
  have XD := Lib.hid (heap_under (o := (.cells #[.int .i64 (t.f 0).n, .string (t.f 1).s, .slice A2t (t.f 2).l.length c2t, .slice A3t (t.f 3).l.length c3t, .slice A4t (t.f 4).l.length c4t, .slice A5t (t.f 5).l.length c5t, .slice A6t (t.f 6).l.length c6t] 55)) XD1.out)
  have B0 := Lib.hid b; clear b XD1 B1
  generalize w1.alloc (.cells #[.int .i64 (t.f 0).n, .string (t.f 1).s, .slice A2t (t.f 2).l.length c2t, .slice A3t (t.f 3).l.length c3t, .slice A4t (t.f 4).l.length c4t, .slice A5t (t.f 5).l.length c5t, .slice A6t (t.f 6).l.length c6t] 55) = wb at *
  refine (fieldP (t.f 0).n (t.f 1).s _ _ _ _ _ _ _ _ _ _ _ _ _ _ _ fd w0 wb (H0.out.trans (B0.out.mono H0.out.size)) S4.out S4a.out S4b.out).mono ?_
  rintro e w2 ⟨cs, rfl, b1, rv1⟩
  have B1 := Lib.hid (B0.out.trans (b1.mono B0.out.size))
  have XD1 := Lib.hid ((b1.block _ (heap_lt XD.out)).trans XD.out)
  clear b1 XD B0 S4 S4a S4b
  obtain ⟨A1f, c1f, A3f, c3f, A4f, c4f, rfl, -, -, -, -, ⟨s4a, s4b, -, s4⟩⟩ := in60 rv1
  have S4 := Lib.hid s4; have S4a := Lib.hid s4a; have S4b := Lib.hid s4b
  clear rv1 s4 s4a s4b
  cases ho : findD (t.f 4).l 0 fd with
  | none =>
    have Ho := Lib.hid ho; clear ho
    simp only [Option.isSome_none, Option.getD_none]
    go_wp2
    go_ret3
    exact ⟨by rw [HX.out]; unfold ownV; rw [parts_none HT.out Ho.out]; rfl, B1.out.alloc B1.out.size _⟩
  | some f =>
    have Ho := Lib.hid ho
    simp only [ho, Option.isSome_some, Option.getD_some] at S4 S4a S4b ⊢
    clear ho
    have kd : w2.cell? ⟨w.heap.size, 0, none⟩ = some (.slice A l.length c) := cell_heap XD1.out rfl
    have ld := heap_lt XD1.out
    go_wp2_with fail
    clear kd ld
    have b := B1.out.alloc B1.out.size (.cells #[.string (f.f 0).s, .slice A1f (f.f 1).l.length c1f, .string ((f.f 2).f 0).s, .slice A3f ((f.f 2).f 1).l.length c3f, .slice A4f (f.f 3).l.length c4f] 60)
    have XD := Lib.hid (heap_under (o := (.cells #[.string (f.f 0).s, .slice A1f (f.f 1).l.length c1f, .string ((f.f 2).f 0).s, .slice A3f ((f.f 2).f 1).l.length c3f, .slice A4f (f.f 3).l.length c4f] 60)) XD1.out)
    have XF := Lib.hid (heap_at (w := w2) (o := (.cells #[.string (f.f 0).s, .slice A1f (f.f 1).l.length c1f, .string ((f.f 2).f 0).s, .slice A3f ((f.f 2).f 1).l.length c3f, .slice A4f (f.f 3).l.length c4f] 60)) rfl)
    have B0 := Lib.hid b; clear b XD1 B1
    generalize w2.alloc (.cells #[.string (f.f 0).s, .slice A1f (f.f 1).l.length c1f, .string ((f.f 2).f 0).s, .slice A3f ((f.f 2).f 1).l.length c3f, .slice A4f (f.f 3).l.length c4f] 60) = wc at *
    refine (HF.out (((f.f 2).f 0).s) wc (H0.out.trans (B0.out.mono H0.out.size))).mono ?_
    rintro e w3 ⟨cs, rfl, b1, rv1⟩
    have B1 := Lib.hid (B0.out.trans (b1.mono B0.out.size))
    have XF1 := Lib.hid ((b1.block _ (heap_lt XF.out)).trans XF.out)
    clear b1 XD XF B0
    obtain ⟨A2n, c2n, A3n, c3n, A4n, c4n, A5n, c5n, A6n, c6n, rfl, -, -, -, ⟨s5a, s5b, -, s5⟩, -⟩ := in55 rv1
    have S5 := Lib.hid s5; have S5a := Lib.hid s5a; have S5b := Lib.hid s5b
    clear rv1 s5 s5a s5b
    generalize hN : (findD l 1 ((f.f 2).f 0).s).getD default = n at *
    have HN := Lib.hid hN; clear hN
    generalize (findD l 1 ((f.f 2).f 0).s).isSome = bn at *
    have kf : w3.cell? ⟨w2.heap.size, 4, none⟩ = some (.slice A4f (f.f 3).l.length c4f) := cell_heap XF1.out rfl
    have lf := heap_lt XF1.out
    go_wp2_with fail
    clear kf lf
    have b := B1.out.alloc B1.out.size (.cells #[.int .i64 (n.f 0).n, .string (n.f 1).s, .slice A2n (n.f 2).l.length c2n, .slice A3n (n.f 3).l.length c3n, .slice A4n (n.f 4).l.length c4n, .slice A5n (n.f 5).l.length c5n, .slice A6n (n.f 6).l.length c6n] 55)
    have XF := Lib.hid (heap_under (o := (.cells #[.int .i64 (n.f 0).n, .string (n.f 1).s, .slice A2n (n.f 2).l.length c2n, .slice A3n (n.f 3).l.length c3n, .slice A4n (n.f 4).l.length c4n, .slice A5n (n.f 5).l.length c5n, .slice A6n (n.f 6).l.length c6n] 55)) XF1.out)
    have XN := Lib.hid (heap_at (w := w3) (o := (.cells #[.int .i64 (n.f 0).n, .string (n.f 1).s, .slice A2n (n.f 2).l.length c2n, .slice A3n (n.f 3).l.length c3n, .slice A4n (n.f 4).l.length c4n, .slice A5n (n.f 5).l.length c5n, .slice A6n (n.f 6).l.length c6n] 55)) rfl)
    have B0 := Lib.hid b; clear b XF1 B1
    generalize w3.alloc (.cells #[.int .i64 (n.f 0).n, .string (n.f 1).s, .slice A2n (n.f 2).l.length c2n, .slice A3n (n.f 3).l.length c3n, .slice A4n (n.f 4).l.length c4n, .slice A5n (n.f 5).l.length c5n, .slice A6n (n.f 6).l.length c6n] 55) = wd at *
    have HP := Lib.hid (parts_some HT.out Ho.out HN.out)
    refine (ageP A4f (f.f 3).l c4f w0 wd (H0.out.trans (B0.out.mono H0.out.size)) S4.out S4a.out S4b.out).mono ?_
    rintro e w4 ⟨rfl, b1⟩
    have B1 := Lib.hid (B0.out.trans (b1.mono B0.out.size))
    have XF1 := Lib.hid ((b1.block _ (heap_lt XF.out)).trans XF.out)
    have XN1 := Lib.hid ((b1.block _ (heap_lt XN.out)).trans XN.out)
    clear b1 XF XN B0
    have B0 := B1; have XF := XF1; have XN := XN1; clear B1 XF1 XN1
    have kf : w4.cell? ⟨w2.heap.size, 4, none⟩ = some (.slice A4f (f.f 3).l.length c4f) := cell_heap XF.out rfl
    have kn : w4.cell? ⟨w3.heap.size, 3, none⟩ = some (.slice A3n (n.f 3).l.length c3n) := cell_heap XN.out rfl
    have lf := heap_lt XF.out
    have ln := heap_lt XN.out
    generalize hga : ageV (f.f 3).l = ga at *
    obtain ⟨g1, g2⟩ := ga
    simp only
    cases g2 with
    | false =>
      have Hga := Lib.hid hga; clear hga
      go_wp2_with fail
      refine (ageP A3n (n.f 3).l c3n w0 w4 (H0.out.trans (B0.out.mono H0.out.size)) S5.out S5a.out S5b.out).mono ?_
      rintro e w5 ⟨rfl, b1⟩
      clear kf kn lf ln
      have B1 := Lib.hid (B0.out.trans (b1.mono B0.out.size))
      have XF1 := Lib.hid ((b1.block _ (heap_lt XF.out)).trans XF.out)
      have XN1 := Lib.hid ((b1.block _ (heap_lt XN.out)).trans XN.out)
      clear b1 XF XN B0
      have B0 := B1; have XF := XF1; have XN := XN1; clear B1 XF1 XN1
      have kf : w5.cell? ⟨w2.heap.size, 4, none⟩ = some (.slice A4f (f.f 3).l.length c4f) := cell_heap XF.out rfl
      have kn : w5.cell? ⟨w3.heap.size, 3, none⟩ = some (.slice A3n (n.f 3).l.length c3n) := cell_heap XN.out rfl
      have lf := heap_lt XF.out
      have ln := heap_lt XN.out
      generalize hgb : ageV (n.f 3).l = gb at *
      obtain ⟨y1, y2⟩ := gb
      simp only
      have Hgb := Lib.hid hgb; clear hgb
      go_wp2_with fail
      refine (privP A4f (f.f 3).l c4f w0 w5 (H0.out.trans (B0.out.mono H0.out.size)) S4.out S4a.out S4b.out).mono ?_
      rintro e w6 ⟨rfl, b1⟩
      clear kf kn lf ln
      have B1 := Lib.hid (B0.out.trans (b1.mono B0.out.size))
      have XF1 := Lib.hid ((b1.block _ (heap_lt XF.out)).trans XF.out)
      have XN1 := Lib.hid ((b1.block _ (heap_lt XN.out)).trans XN.out)
      clear b1 XF XN B0
      have B0 := B1; have XF := XF1; have XN := XN1; clear B1 XF1 XN1
      have kf : w6.cell? ⟨w2.heap.size, 4, none⟩ = some (.slice A4f (f.f 3).l.length c4f) := cell_heap XF.out rfl
      have kn : w6.cell? ⟨w3.heap.size, 3, none⟩ = some (.slice A3n (n.f 3).l.length c3n) := cell_heap XN.out rfl
      have lf := heap_lt XF.out
      have ln := heap_lt XN.out
      cases hp : privV (f.f 3).l
      · go_wp2_with fail
        refine (privP A3n (n.f 3).l c3n w0 w6 (H0.out.trans (B0.out.mono H0.out.size)) S5.out S5a.out S5b.out).mono ?_
        rintro e w7 ⟨rfl, b1⟩
        generalize hq : privV (n.f 3).l = pq at *
        have Hq := Lib.hid hq; clear hq
        go_wp2
        go_ret3
        exact ⟨by rw [HX.out]; unfold ownV; rw [HP.out]; simp [Hga.out, Hgb.out, hp, Hq.out], B0.out.trans (b1.mono B0.out.size)⟩
      · go_wp2
        go_ret3
        exact ⟨by rw [HX.out]; unfold ownV; rw [HP.out]; simp [Hga.out, Hgb.out, hp], B0.out⟩
    | true =>
      have Hga := Lib.hid hga; clear hga
      go_wp2_with fail
      refine (privP A4f (f.f 3).l c4f w0 w4 (H0.out.trans (B0.out.mono H0.out.size)) S4.out S4a.out S4b.out).mono ?_
      rintro e w5 ⟨rfl, b1⟩
      clear kf kn lf ln
      have B1 := Lib.hid (B0.out.trans (b1.mono B0.out.size))
      have XF1 := Lib.hid ((b1.block _ (heap_lt XF.out)).trans XF.out)
      have XN1 := Lib.hid ((b1.block _ (heap_lt XN.out)).trans XN.out)
      clear b1 XF XN B0
      have B0 := B1; have XF := XF1; have XN := XN1; clear B1 XF1 XN1
      have kf : w5.cell? ⟨w2.heap.size, 4, none⟩ = some (.slice A4f (f.f 3).l.length c4f) := cell_heap XF.out rfl
      have kn : w5.cell? ⟨w3.heap.size, 3, none⟩ = some (.slice A3n (n.f 3).l.length c3n) := cell_heap XN.out rfl
      have lf := heap_lt XF.out
      have ln := heap_lt XN.out
      cases hp : privV (f.f 3).l
      · go_wp2_with fail
        refine (privP A3n (n.f 3).l c3n w0 w5 (H0.out.trans (B0.out.mono H0.out.size)) S5.out S5a.out S5b.out).mono ?_
        rintro e w6 ⟨rfl, b1⟩
        generalize hq : privV (n.f 3).l = pq at *
        have Hq := Lib.hid hq; clear hq
        go_wp2
        go_ret3
        exact ⟨by rw [HX.out]; unfold ownV; rw [HP.out]; simp [Hga.out, hp, Hq.out], B0.out.trans (b1.mono B0.out.size)⟩
      · go_wp2
        go_ret3
        exact ⟨by rw [HX.out]; unfold ownV; rw [HP.out]; simp [Hga.out, hp], B0.out⟩
end Go.Proofs.YtjhjleanihgopaaDoor
namespace Go.Proofs.YtjhjleanihgopaaDoor
open Go.RowKit
attribute [local irreducible] wpList Calls Code.wp
def parts2 (l : List D) (on fd : ByteArray) : List D × List D := (partsV l on fd).getD ([], [])
/-- the hint of a field -/
def fieldV (l : List D) (on fd : ByteArray) : Int × Bool := (if (ageV (parts2 l on fd).1).2 = true then (ageV (parts2 l on fd).1).1 else (ageV (parts2 l on fd).2).1, privV (parts2 l on fd).1 || privV (parts2 l on fd).2)
theorem own_field (l : List D) (on fd : ByteArray) : ((ownV l on fd).1, (ownV l on fd).2.2) = fieldV l on fd := by
  unfold ownV fieldV parts2
  cases partsV l on fd with
  | none => rfl
  | some p =>
    obtain ⟨a, b⟩ := p
    simp only [Option.getD_some]
    split <;> rfl
/-- two lists of directives come back -/
def Pt (p : List D × List D) (w0 w : World) (e : Ending) (w' : World) : Prop := ∃ (A1 : Option Addr) (c1 : Nat) (A2 : Option Addr) (c2 : Nat), e = .returned (.tuple #[.slice A1 p.1.length c1, .slice A2 p.2.length c2]) ∧ Below w.heap.size w w' ∧ Rs w0 136 A1 p.1 ∧ p.1.length ≤ c1 ∧ c1 ≤ maxLen ∧ Rs w0 136 A2 p.2 ∧ p.2.length ≤ c2 ∧ c2 ≤ maxLen
set_option maxRecDepth 100000 in
set_option maxHeartbeats 16000000 in
theorem partsR (A : Option Addr) (l : List D) (c : Nat) (on fd : ByteArray) (w0 w : World) (h0 : Below w0.heap.size w0 w) (h : Rs w0 55 A l) (hl : l.length ≤ c) (hc : c ≤ maxLen) :
    Calls Tryd.prog 85 #[.agg #[.slice A l.length c], .string on, .string fd] w (Pt (parts2 l on fd) w0 w) := by
  obtain ⟨x, hx⟩ : ∃ x, x = parts2 l on fd := ⟨_, rfl⟩
  rw [← hx]
  have HX := Lib.hid hx; clear hx
  have HF := Lib.hid (fun s w (h0 : Below w0.heap.size w0 w) => findR A l c s w0 w h0 h hl hc)
  have H0 := Lib.hid h0
  clear h h0 hl hc
  go_enter Tryd.func85, Tryd.ntmps85
  go_wp2_with fail
  have b := (Below.refl w.heap.size w).alloc (Nat.le_refl _) (.cells #[.slice A l.length c] 24)
  have XD := Lib.hid (heap_at (w := w) (o := (.cells #[.slice A l.length c] 24)) rfl)
  have B0 := Lib.hid b; clear b
  generalize w.alloc (.cells #[.slice A l.length c] 24) = wa at *
  refine (HF.out on wa (H0.out.trans (B0.out.mono H0.out.size))).mono ?_
  rintro e w1 ⟨cs, rfl, b1, rv1⟩
  obtain ⟨A2t, c2t, A3t, c3t, A4t, c4t, A5t, c5t, A6t, c6t, rfl, -, -, -, -, ⟨s4a, s4b, -, s4⟩, -⟩ := in55 rv1
  have S4 := Lib.hid s4; have S4a := Lib.hid s4a; have S4b := Lib.hid s4b
  have B1 := Lib.hid (B0.out.trans (b1.mono B0.out.size))
  have XD1 := Lib.hid ((b1.block _ (heap_lt XD.out)).trans XD.out)
  clear b1 rv1 s4 s4a s4b XD B0
  generalize hT : (findD l 1 on).getD default = t at *
  have HT := Lib.hid hT; clear hT
  generalize (findD l 1 on).isSome = bt at *
  go_wp2_with fail
  have b := B1.out.alloc B1.out.size (.cells #[.int .i64 (t.f 0).n, .string (t.f 1).s, .slice A2t (t.f 2).l.length c2t, .slice A3t (t.f 3).l.length c3t, .slice A4t (t.f 4).l.length c4t, .slice A5t (t.f 5).l.length c5t, .slice A6t (t.f 6).l.length c6t] 55)
  have XD := Lib.hid (heap_under (o := (.cells #[.int .i64 (t.f 0).n, .string (t.f 1).s, .slice A2t (t.f 2).l.length c2t, .slice A3t (t.f 3).l.length c3t, .slice A4t (t.f 4).l.length c4t, .slice A5t (t.f 5).l.length c5t, .slice A6t (t.f 6).l.length c6t] 55)) XD1.out)
  have B0 := Lib.hid b; clear b XD1 B1
  generalize w1.alloc (.cells #[.int .i64 (t.f 0).n, .string (t.f 1).s, .slice A2t (t.f 2).l.length c2t, .slice A3t (t.f 3).l.length c3t, .slice A4t (t.f 4).l.length c4t, .slice A5t (t.f 5).l.length c5t, .slice A6t (t.f 6).l.length c6t] 55) = wb at *
  refine (fieldR (t.f 0).n (t.f 1).s _ _ _ _ _ _ _ _ _ _ _ _ _ _ _ fd w0 wb (H0.out.trans (B0.out.mono H0.out.size)) S4.out S4a.out S4b.out).mono ?_
  rintro e w2 ⟨cs, rfl, b1, rv1⟩
  have B1 := Lib.hid (B0.out.trans (b1.mono B0.out.size))
  have XD1 := Lib.hid ((b1.block _ (heap_lt XD.out)).trans XD.out)
  clear b1 XD B0 S4 S4a S4b
  obtain ⟨A1f, c1f, A3f, c3f, A4f, c4f, rfl, -, -, -, -, ⟨s4a, s4b, -, s4⟩⟩ := in60 rv1
  have S4 := Lib.hid s4; have S4a := Lib.hid s4a; have S4b := Lib.hid s4b
  clear rv1 s4 s4a s4b
  cases ho : findD (t.f 4).l 0 fd with
  | none =>
    have Ho := Lib.hid ho; clear ho
    simp only [Option.isSome_none, Option.getD_none]
    go_wp2
    go_ret2
    exact ⟨none, 0, none, 0, by rw [HX.out]; unfold parts2; rw [parts_none HT.out Ho.out]; rfl, B1.out.alloc B1.out.size _, by rw [HX.out]; unfold parts2; rw [parts_none HT.out Ho.out]; exact Rs.nil _ _ _, by rw [HX.out]; unfold parts2; rw [parts_none HT.out Ho.out]; exact Nat.le_refl _, by decide, by rw [HX.out]; unfold parts2; rw [parts_none HT.out Ho.out]; exact Rs.nil _ _ _, by rw [HX.out]; unfold parts2; rw [parts_none HT.out Ho.out]; exact Nat.le_refl _, by decide⟩
  | some f =>
    have Ho := Lib.hid ho
    simp only [ho, Option.isSome_some, Option.getD_some] at S4 S4a S4b ⊢
    clear ho
    have kd : w2.cell? ⟨w.heap.size, 0, none⟩ = some (.slice A l.length c) := cell_heap XD1.out rfl
    have ld := heap_lt XD1.out
    go_wp2_with fail
    clear kd ld
    have b := B1.out.alloc B1.out.size (.cells #[.string (f.f 0).s, .slice A1f (f.f 1).l.length c1f, .string ((f.f 2).f 0).s, .slice A3f ((f.f 2).f 1).l.length c3f, .slice A4f (f.f 3).l.length c4f] 60)
    have XD := Lib.hid (heap_under (o := (.cells #[.string (f.f 0).s, .slice A1f (f.f 1).l.length c1f, .string ((f.f 2).f 0).s, .slice A3f ((f.f 2).f 1).l.length c3f, .slice A4f (f.f 3).l.length c4f] 60)) XD1.out)
    have XF := Lib.hid (heap_at (w := w2) (o := (.cells #[.string (f.f 0).s, .slice A1f (f.f 1).l.length c1f, .string ((f.f 2).f 0).s, .slice A3f ((f.f 2).f 1).l.length c3f, .slice A4f (f.f 3).l.length c4f] 60)) rfl)
    have B0 := Lib.hid b; clear b XD1 B1
    generalize w2.alloc (.cells #[.string (f.f 0).s, .slice A1f (f.f 1).l.length c1f, .string ((f.f 2).f 0).s, .slice A3f ((f.f 2).f 1).l.length c3f, .slice A4f (f.f 3).l.length c4f] 60) = wc at *
    refine (HF.out (((f.f 2).f 0).s) wc (H0.out.trans (B0.out.mono H0.out.size))).mono ?_
    rintro e w3 ⟨cs, rfl, b1, rv1⟩
    have B1 := Lib.hid (B0.out.trans (b1.mono B0.out.size))
    have XF1 := Lib.hid ((b1.block _ (heap_lt XF.out)).trans XF.out)
    clear b1 XD XF B0
    obtain ⟨A2n, c2n, A3n, c3n, A4n, c4n, A5n, c5n, A6n, c6n, rfl, -, -, -, ⟨s5a, s5b, -, s5⟩, -⟩ := in55 rv1
    have S5 := Lib.hid s5; have S5a := Lib.hid s5a; have S5b := Lib.hid s5b
    clear rv1 s5 s5a s5b
    generalize hN : (findD l 1 ((f.f 2).f 0).s).getD default = n at *
    have HN := Lib.hid hN; clear hN
    generalize (findD l 1 ((f.f 2).f 0).s).isSome = bn at *
    have kf : w3.cell? ⟨w2.heap.size, 4, none⟩ = some (.slice A4f (f.f 3).l.length c4f) := cell_heap XF1.out rfl
    have lf := heap_lt XF1.out
    go_wp2_with fail
    clear kf lf
    have b := B1.out.alloc B1.out.size (.cells #[.int .i64 (n.f 0).n, .string (n.f 1).s, .slice A2n (n.f 2).l.length c2n, .slice A3n (n.f 3).l.length c3n, .slice A4n (n.f 4).l.length c4n, .slice A5n (n.f 5).l.length c5n, .slice A6n (n.f 6).l.length c6n] 55)
    have XF := Lib.hid (heap_under (o := (.cells #[.int .i64 (n.f 0).n, .string (n.f 1).s, .slice A2n (n.f 2).l.length c2n, .slice A3n (n.f 3).l.length c3n, .slice A4n (n.f 4).l.length c4n, .slice A5n (n.f 5).l.length c5n, .slice A6n (n.f 6).l.length c6n] 55)) XF1.out)
    have XN := Lib.hid (heap_at (w := w3) (o := (.cells #[.int .i64 (n.f 0).n, .string (n.f 1).s, .slice A2n (n.f 2).l.length c2n, .slice A3n (n.f 3).l.length c3n, .slice A4n (n.f 4).l.length c4n, .slice A5n (n.f 5).l.length c5n, .slice A6n (n.f 6).l.length c6n] 55)) rfl)
    have B0 := Lib.hid b; clear b XF1 B1
    generalize w3.alloc (.cells #[.int .i64 (n.f 0).n, .string (n.f 1).s, .slice A2n (n.f 2).l.length c2n, .slice A3n (n.f 3).l.length c3n, .slice A4n (n.f 4).l.length c4n, .slice A5n (n.f 5).l.length c5n, .slice A6n (n.f 6).l.length c6n] 55) = wd at *
    have HP := Lib.hid (parts_some HT.out Ho.out HN.out)
    have HQ := Lib.hid (show x = ((f.f 3).l, (n.f 3).l) by rw [HX.out]; unfold parts2; rw [HP.out]; rfl)
    have kf := cell_heap (o := 4) XF.out rfl
    have kn := cell_heap (o := 3) XN.out rfl
    have lf := heap_lt XF.out
    have ln := heap_lt XN.out
    go_quiet (fail)
    go_wp2
    go_ret2
    exact ⟨A4f, c4f, A3n, c3n, by rw [HQ.out]; rfl, below_draws B0.out _, by rw [HQ.out]; exact S4.out, by rw [HQ.out]; exact S4a.out, S4b.out, by rw [HQ.out]; exact S5.out, by rw [HQ.out]; exact S5a.out, S5b.out⟩
end Go.Proofs.YtjhjleanihgopaaDoor
namespace Go.Proofs.YtjhjleanihgopaaDoor
open Go.RowKit
attribute [local irreducible] wpList Calls Code.wp
def own2 (p : List D × List D) : Int × Bool := if (ageV p.1).2 = true then ((ageV p.1).1, true) else ageV p.2
theorem own2_field (l : List D) (on fd : ByteArray) : ((own2 (parts2 l on fd)).1, privV (parts2 l on fd).1 || privV (parts2 l on fd).2) = fieldV l on fd := by
  unfold own2 fieldV
  split <;> rfl
set_option maxRecDepth 100000 in
set_option maxHeartbeats 4000000 in
theorem ownR (A : Option Addr) (l : List D) (c : Nat) (on fd : ByteArray) (w0 w : World) (h0 : Below w0.heap.size w0 w) (h : Rs w0 55 A l) (hl : l.length ≤ c) (hc : c ≤ maxLen) :
    Calls Tryd.prog 56 #[.agg #[.slice A l.length c], .string on, .string fd] w (Ib (own2 (parts2 l on fd)).1 (own2 (parts2 l on fd)).2 w) := by
  have HO := Lib.hid (fun w (h0 : Below w0.heap.size w0 w) => partsR A l c on fd w0 w h0 h hl hc)
  have HB := Lib.hid ((Below.refl w.heap.size w).alloc (Nat.le_refl _) (.cells #[.slice A l.length c] 24))
  have H0 := Lib.hid h0
  clear h0 h hl hc
  generalize parts2 l on fd = p at *
  obtain ⟨a, b⟩ := p
  obtain ⟨x, hx⟩ : ∃ x, x = own2 (a, b) := ⟨_, rfl⟩
  rw [← hx]
  have HX := Lib.hid hx; clear hx
  unfold Pt at HO
  go_enter Tryd.func56, Tryd.ntmps56
  go_wp2_with fail
  refine (HO.out _ (H0.out.trans (HB.out.mono H0.out.size))).mono ?_
  rintro e w2 ⟨A1, c1, A2, c2, rfl, b2, r1, r1a, r1b, r2, r2a, r2b⟩
  have B2 := Lib.hid (HB.out.trans (b2.mono HB.out.size)); clear b2
  have R1 := Lib.hid r1; have R1a := Lib.hid r1a; have R1b := Lib.hid r1b; have R2 := Lib.hid r2; have R2a := Lib.hid r2a; have R2b := Lib.hid r2b
  clear r1 r1a r1b r2 r2a r2b
  simp only at R1 R1a R2 R2a ⊢
  go_wp2_with fail
  refine (ageR A1 a c1 w0 w2 (H0.out.trans (B2.out.mono H0.out.size)) R1.out R1a.out R1b.out).mono ?_
  rintro e w3 ⟨rfl, b3⟩
  have B3 := Lib.hid (B2.out.trans (b3.mono B2.out.size)); clear b3 B2
  generalize hga : ageV a = ga at *
  obtain ⟨g1, g2⟩ := ga
  have Hga := Lib.hid hga; clear hga
  simp only
  cases g2 with
  | true =>
    go_wp2
    go_ret2
    exact ⟨by rw [HX.out]; unfold own2; simp [Hga.out], B3.out⟩
  | false =>
    go_wp2_with fail
    refine (ageR A2 b c2 w0 w3 (H0.out.trans (B3.out.mono H0.out.size)) R2.out R2a.out R2b.out).mono ?_
    rintro e w4 ⟨rfl, b4⟩
    have B4 := Lib.hid (B3.out.trans (b4.mono B3.out.size)); clear b4 B3
    generalize hgb : ageV b = gb at *
    obtain ⟨y1, y2⟩ := gb
    have Hgb := Lib.hid hgb; clear hgb
    simp only
    go_wp2
    go_ret2
    exact ⟨by rw [HX.out]; unfold own2; simp [Hga.out, Hgb.out], B4.out⟩
set_option maxRecDepth 100000 in
set_option maxHeartbeats 4000000 in
theorem hintR (A : Option Addr) (l : List D) (c : Nat) (on fd : ByteArray) (w0 w : World) (h0 : Below w0.heap.size w0 w) (h : Rs w0 55 A l) (hl : l.length ≤ c) (hc : c ≤ maxLen) :
    Calls Tryd.prog 55 #[.agg #[.slice A l.length c], .string on, .string fd] w (Hi (fieldV l on fd).1 (fieldV l on fd).2 w) := by
  have HO := Lib.hid (fun w (h0 : Below w0.heap.size w0 w) => partsR A l c on fd w0 w h0 h hl hc)
  have HW := Lib.hid (fun w (h0 : Below w0.heap.size w0 w) => ownR A l c on fd w0 w h0 h hl hc)
  have HB := Lib.hid (((Below.refl w.heap.size w).alloc (Nat.le_refl _) (.cells #[.slice A l.length c] 24)).alloc (by simp) (.cells #[.int .i64 0, .bool false] 32))
  have H0 := Lib.hid h0
  clear h0 h hl hc
  rw [← own2_field]
  generalize parts2 l on fd = p at *
  obtain ⟨a, b⟩ := p
  generalize own2 (a, b) = o at *
  obtain ⟨o1, o2⟩ := o
  simp only
  obtain ⟨x, hx⟩ : ∃ x, x = (privV a || privV b) := ⟨_, rfl⟩
  rw [← hx]
  have HX := Lib.hid hx; clear hx
  unfold Pt at HO
  unfold Ib at HW
  go_enter Tryd.func55, Tryd.ntmps55
  go_wp2_with fail
  refine (HO.out _ (H0.out.trans (HB.out.mono H0.out.size))).mono ?_
  rintro e w2 ⟨A1, c1, A2, c2, rfl, b2, r1, r1a, r1b, r2, r2a, r2b⟩
  have XR := Lib.hid ((b2.block (w.heap.size + 1) (by simp)).trans (heap_at (w := w.alloc (.cells #[.slice A l.length c] 24)) (o := .cells #[.int .i64 0, .bool false] 32) (by simp)))
  have XD := Lib.hid ((b2.block w.heap.size (by simp; omega)).trans (heap_under (o := .cells #[.int .i64 0, .bool false] 32) (heap_at (w := w) (o := .cells #[.slice A l.length c] 24) rfl)))
  have B2 := Lib.hid (HB.out.trans (b2.mono HB.out.size)); clear b2
  have R1 := Lib.hid r1; have R1a := Lib.hid r1a; have R1b := Lib.hid r1b; have R2 := Lib.hid r2; have R2a := Lib.hid r2a; have R2b := Lib.hid r2b
  clear r1 r1a r1b r2 r2a r2b
  simp only at R1 R1a R2 R2a ⊢
  have kd : w2.cell? ⟨w.heap.size, 0, none⟩ = some (.slice A l.length c) := cell_heap XD.out rfl
  go_wp2_with fail
  refine (HW.out _ (H0.out.trans (B2.out.mono H0.out.size))).mono ?_
  rintro e w3 ⟨rfl, b3⟩
  have B3 := Lib.hid (B2.out.trans (b3.mono B2.out.size))
  have X3 := Lib.hid ((b3.block _ (heap_lt XR.out)).trans XR.out)
  clear b3 kd
  simp only
  go_wp2_with fail
  refine (privR A1 a c1 w0 w3 (H0.out.trans (B3.out.mono H0.out.size)) R1.out R1a.out R1b.out).mono ?_
  rintro e w4 ⟨rfl, b4⟩
  have B4 := Lib.hid (B3.out.trans (b4.mono B3.out.size))
  have X4 := Lib.hid ((b4.block _ (heap_lt X3.out)).trans X3.out)
  clear b4
  cases hp : privV a
  · have Hp := Lib.hid hp; clear hp
    go_wp2_with fail
    refine (privR A2 b c2 w0 w4 (H0.out.trans (B4.out.mono H0.out.size)) R2.out R2a.out R2b.out).mono ?_
    rintro e w5 ⟨rfl, b5⟩
    have B5 := Lib.hid (B4.out.trans (b5.mono B4.out.size))
    have X5 := Lib.hid ((b5.block _ (heap_lt X4.out)).trans X4.out)
    clear b5
    generalize hq : privV b = pq at *
    have Hq := Lib.hid hq; clear hq
    have k0 : w5.cell? ⟨w.heap.size + 1, 0, none⟩ = some (.int .i64 0) := cell_heap X5.out rfl
    have k1 : w5.cell? ⟨w.heap.size + 1, 1, none⟩ = some (.bool false) := cell_heap X5.out rfl
    have f0 := frozen_heap (o := 0) X5.out
    have f1 := frozen_heap (o := 1) X5.out
    have lx := heap_lt X5.out
    go_wp2
    exact bodyPost_ret (v := .agg #[.int .i64 o1, .bool pq]) (by simp [results, Tryd.results55, go_sem, k0, k1, lx]) rfl ⟨by rw [HX.out]; simp [Hp.out, Hq.out], (B5.out.setCell (p := ⟨w.heap.size + 1, 0, none⟩) (Nat.le_succ _) _).setCell (p := ⟨w.heap.size + 1, 1, none⟩) (Nat.le_succ _) _⟩
  · have Hp := Lib.hid hp; clear hp
    have k0 : w4.cell? ⟨w.heap.size + 1, 0, none⟩ = some (.int .i64 0) := cell_heap X4.out rfl
    have k1 : w4.cell? ⟨w.heap.size + 1, 1, none⟩ = some (.bool false) := cell_heap X4.out rfl
    have f0 := frozen_heap (o := 0) X4.out
    have f1 := frozen_heap (o := 1) X4.out
    have lx := heap_lt X4.out
    go_wp2
    exact bodyPost_ret (v := .agg #[.int .i64 o1, .bool true]) (by simp [results, Tryd.results55, go_sem, k0, k1, lx]) rfl ⟨by rw [HX.out]; simp [Hp.out], (B4.out.setCell (p := ⟨w.heap.size + 1, 0, none⟩) (Nat.le_succ _) _).setCell (p := ⟨w.heap.size + 1, 1, none⟩) (Nat.le_succ _) _⟩
end Go.Proofs.YtjhjleanihgopaaDoor
namespace Go.Proofs.YtjhjleanihgopaaDoor
open Go.RowKit
attribute [local irreducible] wpList Calls Code.wp
/-- some bool comes back -/
def Sb (w : World) (e : Ending) (w' : World) : Prop := ∃ b, e = .returned (.bool b) ∧ Below w.heap.size w w'
set_option maxRecDepth 100000 in
set_option maxHeartbeats 4000000 in
theorem largeR (A : Option Addr) (l : List D) (c : Nat) (w0 w : World) (h0 : Below w0.heap.size w0 w) (h : Rs w0 55 A l) (hl : l.length ≤ c) (hc : c ≤ maxLen) :
    Calls Tryd.prog 10 #[.agg #[.slice A l.length c]] w (Sb w) := by
  have H := Lib.hid h; have H0 := Lib.hid h0
  unfold maxLen at hc
  have hlc : l.length ≤ 9223372036854775807 := by omega
  clear h h0 hl hc
  by_cases hbig : 70 < l.length
  · have q : decide ((l.length : Int) > 70) = true := decide_eq_true (by omega)
    go_enter Tryd.func10, Tryd.ntmps10
    go_wp2
    go_ret
    exact ⟨_, rfl, (Below.refl _ _).alloc (Nat.le_refl _) _⟩
  have q : decide ((l.length : Int) > 70) = false := decide_eq_false (by omega)
  go_enter Tryd.func10, Tryd.ntmps10
  go_wp2
  go_loopg [3, 4] l.length (fun j x i wr => ∃ (m : Nat) (y : Int), m + j = l.length ∧ i = .int .i64 m ∧ x = .int .i64 y ∧ Below w.heap.size w wr ∧ wr.heap[w.heap.size]? = some (.cells #[.slice A l.length c] 24 (0, 0)))
  case atStart => exact ⟨0, 0, by omega, rfl, rfl, (Below.refl _ _).alloc (Nat.le_refl _) _, heap_at rfl⟩
  case round =>
    obtain ⟨m, y, hmj, rfl, rfl, hb, hx⟩ := hrel
    have k0 : wr.cell? ⟨w.heap.size, 0, none⟩ = some (.slice A l.length c) := cell_heap hx rfl
    have l0 := heap_lt hx
    have Hb := Lib.hid hb; have Hx := Lib.hid hx
    have Hmj := Lib.hid hmj; have hmn : m ≤ l.length := by omega
    clear hmj hb hx
    by_cases hlt : m < l.length
    · obtain ⟨b, off, rfl, hI, hat⟩ := at55 H.out (by omega)
      obtain ⟨A2, c2, A3, c3, A4, c4, A5, c5, A6, c6, e0, e1, e2, e3, e4, e5, e6, r0, r1, r2, r3, r4, r5, r6, y0⟩ := hat m hlt
      have F1 := Lib.hid r4.1; have F2 := Lib.hid r4.2.1; have F3 := Lib.hid r4.2.2.2
      clear hat y0 r0 r1 r2 r3 r4 r5 r6
      replace e0 := ((H0.out.trans (Hb.out.mono H0.out.size)).cell (p := ⟨b, _, none⟩) hI).trans e0
      replace e1 := ((H0.out.trans (Hb.out.mono H0.out.size)).cell (p := ⟨b, _, none⟩) hI).trans e1
      replace e2 := ((H0.out.trans (Hb.out.mono H0.out.size)).cell (p := ⟨b, _, none⟩) hI).trans e2
      replace e3 := ((H0.out.trans (Hb.out.mono H0.out.size)).cell (p := ⟨b, _, none⟩) hI).trans e3
      replace e4 := ((H0.out.trans (Hb.out.mono H0.out.size)).cell (p := ⟨b, _, none⟩) hI).trans e4
      replace e5 := ((H0.out.trans (Hb.out.mono H0.out.size)).cell (p := ⟨b, _, none⟩) hI).trans e5
      replace e6 := ((H0.out.trans (Hb.out.mono H0.out.size)).cell (p := ⟨b, _, none⟩) hI).trans e6
      have hfl : ((gD l m).f 4).l.length ≤ 9223372036854775807 := by have h1 := F1.out; have h2 := F2.out; unfold maxLen at h2; omega
      go_wp2
      obtain ⟨y2, hy2⟩ : ∃ y2, y2 = wrap64 (y + wrap64 (wrap64 (wrap64 (wrap64 (wrap64 (1 + ↑((gD l m).f 4).l.length) + ↑((gD l m).f 5).l.length) + ↑((gD l m).f 6).l.length) + ↑((gD l m).f 3).l.length) + ↑((gD l m).f 2).l.length)) := ⟨_, rfl⟩
      rw [← hy2]
      clear hy2
      have hba : Below w.heap.size w (wr.alloc (.cells #[.int .i64 ((gD l m).f 0).n, .string ((gD l m).f 1).s, .slice A2 ((gD l m).f 2).l.length c2, .slice A3 ((gD l m).f 3).l.length c3, .slice A4 ((gD l m).f 4).l.length c4, .slice A5 ((gD l m).f 5).l.length c5, .slice A6 ((gD l m).f 6).l.length c6] 55)) := Hb.out.alloc Hb.out.size _
      have hxa : (wr.alloc (.cells #[.int .i64 ((gD l m).f 0).n, .string ((gD l m).f 1).s, .slice A2 ((gD l m).f 2).l.length c2, .slice A3 ((gD l m).f 3).l.length c3, .slice A4 ((gD l m).f 4).l.length c4, .slice A5 ((gD l m).f 5).l.length c5, .slice A6 ((gD l m).f 6).l.length c6] 55)).heap[wr.heap.size]? = some (.cells #[.int .i64 ((gD l m).f 0).n, .string ((gD l m).f 1).s, .slice A2 ((gD l m).f 2).l.length c2, .slice A3 ((gD l m).f 3).l.length c3, .slice A4 ((gD l m).f 4).l.length c4, .slice A5 ((gD l m).f 5).l.length c5, .slice A6 ((gD l m).f 6).l.length c6] 55 (0, 0)) := heap_at rfl
      have hxd : (wr.alloc (.cells #[.int .i64 ((gD l m).f 0).n, .string ((gD l m).f 1).s, .slice A2 ((gD l m).f 2).l.length c2, .slice A3 ((gD l m).f 3).l.length c3, .slice A4 ((gD l m).f 4).l.length c4, .slice A5 ((gD l m).f 5).l.length c5, .slice A6 ((gD l m).f 6).l.length c6] 55)).heap[w.heap.size]? = some (.cells #[.slice (some ⟨b, off, none⟩) l.length c] 24 (0, 0)) := heap_under Hx.out
      clear e0 e1 e2 e3 e4 e5 e6 k0 l0
      generalize wr.alloc (.cells #[.int .i64 ((gD l m).f 0).n, .string ((gD l m).f 1).s, .slice A2 ((gD l m).f 2).l.length c2, .slice A3 ((gD l m).f 3).l.length c3, .slice A4 ((gD l m).f 4).l.length c4, .slice A5 ((gD l m).f 5).l.length c5, .slice A6 ((gD l m).f 6).l.length c6] 55) = wa at *
      generalize wr.heap.size = ba at *
      obtain ⟨wo, rfl⟩ : ∃ wo : World, wo = wr := ⟨_, rfl⟩
      go_loopg [3, 6] ((gD l m).f 4).l.length (fun j x i wi => ∃ (k : Nat) (y : Int), k + j = ((gD l m).f 4).l.length ∧ i = .int .i64 k ∧ x = .int .i64 y ∧ Below w.heap.size w wi ∧ wi.heap[ba]? = some (.cells #[.int .i64 ((gD l m).f 0).n, .string ((gD l m).f 1).s, .slice A2 ((gD l m).f 2).l.length c2, .slice A3 ((gD l m).f 3).l.length c3, .slice A4 ((gD l m).f 4).l.length c4, .slice A5 ((gD l m).f 5).l.length c5, .slice A6 ((gD l m).f 6).l.length c6] 55 (0, 0)) ∧ wi.heap[w.heap.size]? = some (.cells #[.slice (some ⟨b, off, none⟩) l.length c] 24 (0, 0)))
      case atStart => exact ⟨0, y2, by omega, rfl, rfl, hba, hxa, hxd⟩
      case round =>
        obtain ⟨k, y3, hkj, rfl, rfl, hb, hx, hd⟩ := hrel
        clear hba hxa hxd
        have q4 : wr.cell? ⟨ba, 4, none⟩ = some (.slice A4 ((gD l m).f 4).l.length c4) := cell_heap hx rfl
        have l0 := heap_lt hx
        have Hbi := Lib.hid hb; have Hxi := Lib.hid hx; have Hdi := Lib.hid hd
        have Hkj := Lib.hid hkj; have hkn : k ≤ ((gD l m).f 4).l.length := by omega
        clear hkj hb hx hd
        by_cases hlk : k < ((gD l m).f 4).l.length
        · obtain ⟨bf, offf, rfl, hIf, hatf⟩ := at60 F3.out (by omega)
          obtain ⟨A1, c1, A3, c3, A4, c4, u0, u1, u2, u3, u4, -, -, -, -, -, -⟩ := hatf k hlk
          clear hatf
          replace u0 := ((H0.out.trans (Hbi.out.mono H0.out.size)).cell (p := ⟨bf, _, none⟩) hIf).trans u0
          replace u1 := ((H0.out.trans (Hbi.out.mono H0.out.size)).cell (p := ⟨bf, _, none⟩) hIf).trans u1
          replace u2 := ((H0.out.trans (Hbi.out.mono H0.out.size)).cell (p := ⟨bf, _, none⟩) hIf).trans u2
          replace u3 := ((H0.out.trans (Hbi.out.mono H0.out.size)).cell (p := ⟨bf, _, none⟩) hIf).trans u3
          replace u4 := ((H0.out.trans (Hbi.out.mono H0.out.size)).cell (p := ⟨bf, _, none⟩) hIf).trans u4
          have hk2 : (k : Int) < (((gD l m).f 4).l.length : Int) := by omega
          go_wp2
          go_quiet (fail)
          go_wp2
          go_roundg (((gD l m).f 4).l.length - k - 1)
          case measure => have := Hkj.out; omega
          case rel => exact ⟨k + 1, _, by have := Hkj.out; omega, by go_num, rfl, below_draws Hbi.out _, Hxi.out, Hdi.out⟩
        · go_wp2
          go_roundg (l.length - m - 1)
          case measure => have := Hmj.out; omega
          case rel => exact ⟨m + 1, _, by have := Hmj.out; omega, by go_num, rfl, Hbi.out, Hdi.out⟩
    · go_wp2
      go_ret
      exact ⟨_, rfl, Hb.out⟩
end Go.Proofs.YtjhjleanihgopaaDoor
