/- Parts of a proof, merged by a program (shake.py). -/
import Derived.Test.YtjhjleanihgopaaDoorRows
import Derived.Test.YtjhjleanihgopaaDoorQ24
namespace Go.Proofs.YtjhjleanihgopaaDoor
open Go.RowKit
attribute [local irreducible] wpList Calls Code.wp
set_option maxRecDepth 100000 in
set_option maxHeartbeats 8000000 in
theorem argP (nm : ByteArray) (A : Option Addr) (l : List D) (c : Nat) (s : ByteArray) (w0 w : World) (h0 : Below w0.heap.size w0 w) (h : Rs w0 155 A l) (hl : l.length ≤ c) (hc : c ≤ maxLen) :
    Calls Tryd.prog 111 #[.agg #[.string nm, .slice A l.length c], .string s] w (Fd 39 ((findD l 0 s).map fun d => d.f 1) w0 w) := by
  unfold maxLen at hc
  have hlc : l.length ≤ 9223372036854775807 := by omega
  have Hsome := Lib.hid (fun m => @find_some l 0 s m); have Hnone := Lib.hid (@find_none l 0 s)
  generalize findD l 0 s = r at *
  have H := Lib.hid h; have H0 := Lib.hid h0; clear h h0 hl hc
  go_enter Tryd.func111, Tryd.ntmps111
  go_wp2
  have hb0 : Below w.heap.size w ((w.alloc (.cells #[.string nm, .slice A l.length c] 136)).alloc (.cells #[.int .i64 0, .int .i64 0, .string ⟨#[]⟩, .slice none 0 0, .slice none 0 0] 39)) := ((Below.refl _ _).alloc (Nat.le_refl _) _).alloc (by simp) _
  have hx0 : ((w.alloc (.cells #[.string nm, .slice A l.length c] 136)).alloc (.cells #[.int .i64 0, .int .i64 0, .string ⟨#[]⟩, .slice none 0 0, .slice none 0 0] 39)).heap[w.heap.size]? = some (.cells #[.string nm, .slice A l.length c] 136 (0, 0)) := heap_under (heap_at rfl)
  have hx1 : ((w.alloc (.cells #[.string nm, .slice A l.length c] 136)).alloc (.cells #[.int .i64 0, .int .i64 0, .string ⟨#[]⟩, .slice none 0 0, .slice none 0 0] 39)).heap[w.heap.size + 1]? = some (.cells #[.int .i64 0, .int .i64 0, .string ⟨#[]⟩, .slice none 0 0, .slice none 0 0] 39 (0, 0)) := heap_at (by simp)
  go_loopg [11] l.length (fun j v wr => ∃ m : Nat, m + j = l.length ∧ v = .int .i64 m ∧ (∀ i, i < m → (((gD l i).f 0).s.toList == s.toList) = false) ∧ Below w.heap.size w wr ∧ wr.heap[w.heap.size]? = some (.cells #[.string nm, .slice A l.length c] 136 (0, 0)) ∧ wr.heap[w.heap.size + 1]? = some (.cells #[.int .i64 0, .int .i64 0, .string ⟨#[]⟩, .slice none 0 0, .slice none 0 0] 39 (0, 0)))
  case atStart => exact ⟨0, by omega, rfl, fun i hi => by omega, hb0, hx0, hx1⟩
  case round =>
    obtain ⟨m, hmj, rfl, hall, hb, hy0, hy1⟩ := hrel
    clear hb0 hx0 hx1
    have p0 : wr.cell? ⟨w.heap.size, 0, none⟩ = some (.string nm) := cell_heap hy0 rfl
    have p1 : wr.cell? ⟨w.heap.size, 1, none⟩ = some (.slice A l.length c) := cell_heap hy0 rfl
    have k0 : wr.cell? ⟨w.heap.size + 1, 0, none⟩ = some (.int .i64 0) := cell_heap hy1 rfl
    have k1 : wr.cell? ⟨w.heap.size + 1, 1, none⟩ = some (.int .i64 0) := cell_heap hy1 rfl
    have k2 : wr.cell? ⟨w.heap.size + 1, 2, none⟩ = some (.string ⟨#[]⟩) := cell_heap hy1 rfl
    have k3 : wr.cell? ⟨w.heap.size + 1, 3, none⟩ = some (.slice none 0 0) := cell_heap hy1 rfl
    have k4 : wr.cell? ⟨w.heap.size + 1, 4, none⟩ = some (.slice none 0 0) := cell_heap hy1 rfl
    have f0 := frozen_heap (o := 0) hy1
    have f1 := frozen_heap (o := 1) hy1
    have f2 := frozen_heap (o := 2) hy1
    have f3 := frozen_heap (o := 3) hy1
    have f4 := frozen_heap (o := 4) hy1
    have l0 := heap_lt hy0
    have l1 := heap_lt hy1
    have Hb := Lib.hid hb; have Hall := Lib.hid hall; have Hy0 := Lib.hid hy0; have Hy1 := Lib.hid hy1
    have Hmj := Lib.hid hmj; have hmn : m ≤ l.length := by omega
    clear hmj hb hall hy0 hy1
    by_cases hlt : m < l.length
    · obtain ⟨b, off, rfl, hI, hat⟩ := at155 H.out (by omega)
      obtain ⟨A4, c4, A5, c5, e0, e1, e2, e3, e4, e5, -, -, -, -, -, -, y⟩ := hat m hlt
      have Hy := Lib.hid y
      clear hat y
      replace e0 := ((H0.out.trans (Hb.out.mono H0.out.size)).cell (p := ⟨b, _, none⟩) hI).trans e0
      replace e1 := ((H0.out.trans (Hb.out.mono H0.out.size)).cell (p := ⟨b, _, none⟩) hI).trans e1
      replace e2 := ((H0.out.trans (Hb.out.mono H0.out.size)).cell (p := ⟨b, _, none⟩) hI).trans e2
      replace e3 := ((H0.out.trans (Hb.out.mono H0.out.size)).cell (p := ⟨b, _, none⟩) hI).trans e3
      replace e4 := ((H0.out.trans (Hb.out.mono H0.out.size)).cell (p := ⟨b, _, none⟩) hI).trans e4
      replace e5 := ((H0.out.trans (Hb.out.mono H0.out.size)).cell (p := ⟨b, _, none⟩) hI).trans e5
      cases hq : (((gD l m).f 0).s.toList == s.toList)
      · have Hq := Lib.hid hq
        have Hal2 := Lib.hid (show ∀ i, i < m + 1 → (((gD l i).f 0).s.toList == s.toList) = false from fun i hi => (Nat.lt_succ_iff_lt_or_eq.1 hi).elim (fun h' => Hall.out i h') (fun h' => by rw [h']; exact Hq.out))
        go_wp2
        go_roundg (l.length - m - 1)
        case measure => have := Hmj.out; omega
        case rel => exact ⟨m + 1, by have := Hmj.out; omega, by go_num, Hal2.out, Hb.out.alloc Hb.out.size _, heap_under Hy0.out, heap_under Hy1.out⟩
      · have Hr := Lib.hid (Hsome.out m hlt Hall.out hq)
        go_upto_region 5 with (fail)
        have hba : Below w.heap.size w (wr.alloc (.cells #[.string ((gD l m).f 0).s, .int .i64 (((gD l m).f 1).f 0).n, .int .i64 (((gD l m).f 1).f 1).n, .string (((gD l m).f 1).f 2).s, .slice A4 (((gD l m).f 1).f 3).l.length c4, .slice A5 (((gD l m).f 1).f 4).l.length c5] 155)) := Hb.out.alloc Hb.out.size _
        have hxa : (wr.alloc (.cells #[.string ((gD l m).f 0).s, .int .i64 (((gD l m).f 1).f 0).n, .int .i64 (((gD l m).f 1).f 1).n, .string (((gD l m).f 1).f 2).s, .slice A4 (((gD l m).f 1).f 3).l.length c4, .slice A5 (((gD l m).f 1).f 4).l.length c5] 155)).heap[wr.heap.size]? = some (.cells #[.string ((gD l m).f 0).s, .int .i64 (((gD l m).f 1).f 0).n, .int .i64 (((gD l m).f 1).f 1).n, .string (((gD l m).f 1).f 2).s, .slice A4 (((gD l m).f 1).f 3).l.length c4, .slice A5 (((gD l m).f 1).f 4).l.length c5] 155 (0, 0)) := heap_at rfl
        have hya : (wr.alloc (.cells #[.string ((gD l m).f 0).s, .int .i64 (((gD l m).f 1).f 0).n, .int .i64 (((gD l m).f 1).f 1).n, .string (((gD l m).f 1).f 2).s, .slice A4 (((gD l m).f 1).f 3).l.length c4, .slice A5 (((gD l m).f 1).f 4).l.length c5] 155)).heap[w.heap.size + 1]? = some (.cells #[.int .i64 0, .int .i64 0, .string ⟨#[]⟩, .slice none 0 0, .slice none 0 0] 39 (0, 0)) := heap_under Hy1.out
        generalize wr.alloc (.cells #[.string ((gD l m).f 0).s, .int .i64 (((gD l m).f 1).f 0).n, .int .i64 (((gD l m).f 1).f 1).n, .string (((gD l m).f 1).f 2).s, .slice A4 (((gD l m).f 1).f 3).l.length c4, .slice A5 (((gD l m).f 1).f 4).l.length c5] 155) = wa at *
        generalize wr.heap.size = ba at *
        clear k0 f0 k1 f1 k2 f2 k3 f3 k4 f4 l0 l1 Hb
        have Hb := Lib.hid hba
        have l1 := heap_lt hya
        have l2 := heap_lt hxa
        have k0 : wa.cell? ⟨w.heap.size + 1, 0, none⟩ = some (.int .i64 0) := cell_heap hya rfl
        have k1 : wa.cell? ⟨w.heap.size + 1, 1, none⟩ = some (.int .i64 0) := cell_heap hya rfl
        have k2 : wa.cell? ⟨w.heap.size + 1, 2, none⟩ = some (.string ⟨#[]⟩) := cell_heap hya rfl
        have k3 : wa.cell? ⟨w.heap.size + 1, 3, none⟩ = some (.slice none 0 0) := cell_heap hya rfl
        have k4 : wa.cell? ⟨w.heap.size + 1, 4, none⟩ = some (.slice none 0 0) := cell_heap hya rfl
        have f0 := frozen_heap (o := 0) hya
        have f1 := frozen_heap (o := 1) hya
        have f2 := frozen_heap (o := 2) hya
        have f3 := frozen_heap (o := 3) hya
        have f4 := frozen_heap (o := 4) hya
        have q0 : wa.cell? ⟨ba, 0, none⟩ = some (.string ((gD l m).f 0).s) := cell_heap hxa rfl
        have q1 : wa.cell? ⟨ba, 1, none⟩ = some (.int .i64 (((gD l m).f 1).f 0).n) := cell_heap hxa rfl
        have q2 : wa.cell? ⟨ba, 2, none⟩ = some (.int .i64 (((gD l m).f 1).f 1).n) := cell_heap hxa rfl
        have q3 : wa.cell? ⟨ba, 3, none⟩ = some (.string (((gD l m).f 1).f 2).s) := cell_heap hxa rfl
        have q4 : wa.cell? ⟨ba, 4, none⟩ = some (.slice A4 (((gD l m).f 1).f 3).l.length c4) := cell_heap hxa rfl
        have q5 : wa.cell? ⟨ba, 5, none⟩ = some (.slice A5 (((gD l m).f 1).f 4).l.length c5) := cell_heap hxa rfl
        clear hba hxa hya
        go_wp2
        have hB := (((((Hb.out.setCell (p := ⟨w.heap.size + 1, 0, none⟩) (Nat.le_succ _) (.int .i64 (((gD l m).f 1).f 0).n)).setCell (p := ⟨w.heap.size + 1, 1, none⟩) (Nat.le_succ _) (.int .i64 (((gD l m).f 1).f 1).n)).setCell (p := ⟨w.heap.size + 1, 2, none⟩) (Nat.le_succ _) (.string (((gD l m).f 1).f 2).s)).setCell (p := ⟨w.heap.size + 1, 3, none⟩) (Nat.le_succ _) (.slice A4 (((gD l m).f 1).f 3).l.length c4)).setCell (p := ⟨w.heap.size + 1, 4, none⟩) (Nat.le_succ _) (.slice A5 (((gD l m).f 1).f 4).l.length c5))
        exact bodyPost_ret (v := .tuple #[.agg #[.int .i64 (((gD l m).f 1).f 0).n, .int .i64 (((gD l m).f 1).f 1).n, .string (((gD l m).f 1).f 2).s, .slice A4 (((gD l m).f 1).f 3).l.length c4, .slice A5 (((gD l m).f 1).f 4).l.length c5], .bool true]) (by simp [results, Tryd.results111, go_sem, k0, k1, k2, k3, k4, l1]) rfl ⟨_, by rw [Hr.out]; rfl, hB, by rw [Hr.out]; exact (part103_49 Hy.out)⟩
    · obtain rfl : m = l.length := by omega
      have Hr := Lib.hid (Hnone.out Hall.out)
      go_wp2
      exact bodyPost_ret (v := .tuple #[.agg #[.int .i64 0, .int .i64 0, .string ⟨#[]⟩, .slice none 0 0, .slice none 0 0], .bool false]) (by simp [results, Tryd.results111, go_sem, k0, k1, k2, k3, k4, l1]) rfl ⟨_, by rw [Hr.out]; rfl, (((((Hb.out.setCell (p := ⟨w.heap.size + 1, 0, none⟩) (Nat.le_succ _) (.int .i64 0)).setCell (p := ⟨w.heap.size + 1, 1, none⟩) (Nat.le_succ _) (.int .i64 0)).setCell (p := ⟨w.heap.size + 1, 2, none⟩) (Nat.le_succ _) (.string ⟨#[]⟩)).setCell (p := ⟨w.heap.size + 1, 3, none⟩) (Nat.le_succ _) (.slice none 0 0)).setCell (p := ⟨w.heap.size + 1, 4, none⟩) (Nat.le_succ _) (.slice none 0 0)), by rw [Hr.out]; exact rv_zero39 _⟩
end Go.Proofs.YtjhjleanihgopaaDoor
namespace Go.Proofs.YtjhjleanihgopaaDoor
open Go.RowKit
attribute [local irreducible] wpList Calls Code.wp
/-- the argument of the first directive with a name -/
def argV (l : List D) (n a : ByteArray) : Option D := (findD l 0 n).bind fun x => (findD (x.f 1).l 0 a).map fun d => d.f 1
theorem argV_some {l : List D} {n s : ByteArray} {x : D} (h : findD l 0 n = some x) : argV l n s = (findD (x.f 1).l 0 s).map fun d => d.f 1 := by unfold argV; rw [h]; rfl
theorem argV_none {l : List D} {n s : ByteArray} (h : findD l 0 n = none) : argV l n s = none := by unfold argV; rw [h]; rfl
set_option maxRecDepth 100000 in
set_option maxHeartbeats 8000000 in
theorem argsP (A : Option Addr) (l : List D) (c : Nat) (n s : ByteArray) (w0 w : World) (h0 : Below w0.heap.size w0 w) (h : Rs w0 136 A l) (hl : l.length ≤ c) (hc : c ≤ maxLen) :
    Calls Tryd.prog 84 #[.slice A l.length c, .string n, .string s] w (Fd 39 (argV l n s) w0 w) := by
  unfold maxLen at hc
  have hlc : l.length ≤ 9223372036854775807 := by omega
  have Hsome := Lib.hid (fun m h1 h2 h3 => argV_some (s := s) (@find_some l 0 n m h1 h2 h3)); have Hnone := Lib.hid (fun h1 => argV_none (s := s) (@find_none l 0 n h1))
  generalize argV l n s = r at *
  have H := Lib.hid h; have H0 := Lib.hid h0; clear h h0 hl hc
  go_enter Tryd.func84, Tryd.ntmps84
  go_wp2
  have hb0 : Below w.heap.size w (w.alloc (.cells #[.int .i64 0, .int .i64 0, .string ⟨#[]⟩, .slice none 0 0, .slice none 0 0] 39)) := (Below.refl _ _).alloc (Nat.le_refl _) _
  have hx1 : (w.alloc (.cells #[.int .i64 0, .int .i64 0, .string ⟨#[]⟩, .slice none 0 0, .slice none 0 0] 39)).heap[w.heap.size]? = some (.cells #[.int .i64 0, .int .i64 0, .string ⟨#[]⟩, .slice none 0 0, .slice none 0 0] 39 (0, 0)) := heap_at rfl
  go_loopg [12] l.length (fun j v wr => ∃ m : Nat, m + j = l.length ∧ v = .int .i64 m ∧ (∀ i, i < m → (((gD l i).f 0).s.toList == n.toList) = false) ∧ Below w.heap.size w wr ∧ wr.heap[w.heap.size]? = some (.cells #[.int .i64 0, .int .i64 0, .string ⟨#[]⟩, .slice none 0 0, .slice none 0 0] 39 (0, 0)))
  case atStart => exact ⟨0, by omega, rfl, fun i hi => by omega, hb0, hx1⟩
  case round =>
    obtain ⟨m, hmj, rfl, hall, hb, hy1⟩ := hrel
    clear hb0 hx1
    have k0 : wr.cell? ⟨w.heap.size, 0, none⟩ = some (.int .i64 0) := cell_heap hy1 rfl
    have k1 : wr.cell? ⟨w.heap.size, 1, none⟩ = some (.int .i64 0) := cell_heap hy1 rfl
    have k2 : wr.cell? ⟨w.heap.size, 2, none⟩ = some (.string ⟨#[]⟩) := cell_heap hy1 rfl
    have k3 : wr.cell? ⟨w.heap.size, 3, none⟩ = some (.slice none 0 0) := cell_heap hy1 rfl
    have k4 : wr.cell? ⟨w.heap.size, 4, none⟩ = some (.slice none 0 0) := cell_heap hy1 rfl
    have f0 := frozen_heap (o := 0) hy1
    have f1 := frozen_heap (o := 1) hy1
    have f2 := frozen_heap (o := 2) hy1
    have f3 := frozen_heap (o := 3) hy1
    have f4 := frozen_heap (o := 4) hy1
    have l1 := heap_lt hy1
    have Hb := Lib.hid hb; have Hall := Lib.hid hall; have Hy1 := Lib.hid hy1
    have Hmj := Lib.hid hmj; have hmn : m ≤ l.length := by omega
    clear hmj hb hall hy1
    by_cases hlt : m < l.length
    · obtain ⟨b, off, rfl, hI, hat⟩ := at136 H.out (by omega)
      obtain ⟨A1, c1, e0, e1, -, ⟨s1, s2, -, s3⟩, -⟩ := hat m hlt
      have S1 := Lib.hid s1; have S2 := Lib.hid s2; have S3 := Lib.hid s3
      clear hat s1 s2 s3
      replace e0 := ((H0.out.trans (Hb.out.mono H0.out.size)).cell (p := ⟨b, _, none⟩) hI).trans e0
      replace e1 := ((H0.out.trans (Hb.out.mono H0.out.size)).cell (p := ⟨b, _, none⟩) hI).trans e1
      cases hq : (((gD l m).f 0).s.toList == n.toList)
      · have Hq := Lib.hid hq
        have Hal2 := Lib.hid (show ∀ i, i < m + 1 → (((gD l i).f 0).s.toList == n.toList) = false from fun i hi => (Nat.lt_succ_iff_lt_or_eq.1 hi).elim (fun h' => Hall.out i h') (fun h' => by rw [h']; exact Hq.out))
        go_wp2
        go_roundg (l.length - m - 1)
        case measure => have := Hmj.out; omega
        case rel => exact ⟨m + 1, by have := Hmj.out; omega, by go_num, Hal2.out, Hb.out.alloc Hb.out.size _, heap_under Hy1.out⟩
      · have Hr := Lib.hid (Hsome.out m hlt Hall.out hq)
        clear k0 f0 k1 f1 k2 f2 k3 f3 k4 f4
        go_upto_region 5 with (fail)
        have hba : Below w.heap.size w (wr.alloc (.cells #[.string ((gD l m).f 0).s, .slice A1 ((gD l m).f 1).l.length c1] 136)) := Hb.out.alloc Hb.out.size _
        have hxa : (wr.alloc (.cells #[.string ((gD l m).f 0).s, .slice A1 ((gD l m).f 1).l.length c1] 136)).heap[wr.heap.size]? = some (.cells #[.string ((gD l m).f 0).s, .slice A1 ((gD l m).f 1).l.length c1] 136 (0, 0)) := heap_at rfl
        have hya : (wr.alloc (.cells #[.string ((gD l m).f 0).s, .slice A1 ((gD l m).f 1).l.length c1] 136)).heap[w.heap.size]? = some (.cells #[.int .i64 0, .int .i64 0, .string ⟨#[]⟩, .slice none 0 0, .slice none 0 0] 39 (0, 0)) := heap_under Hy1.out
        generalize wr.alloc (.cells #[.string ((gD l m).f 0).s, .slice A1 ((gD l m).f 1).l.length c1] 136) = wa at *
        generalize wr.heap.size = ba at *
        have q0 : wa.cell? ⟨ba, 0, none⟩ = some (.string ((gD l m).f 0).s) := cell_heap hxa rfl
        have q1 : wa.cell? ⟨ba, 1, none⟩ = some (.slice A1 ((gD l m).f 1).l.length c1) := cell_heap hxa rfl
        have l2 := heap_lt hxa
        clear Hb Hy1 l1
        have Hb := Lib.hid hba
        have Hy1 := Lib.hid hya
        have l1 := heap_lt hya
        clear hba hxa hya
        go_wp2_with fail
        refine (argP ((gD l m).f 0).s A1 ((gD l m).f 1).l c1 s w0 wa (H0.out.trans (Hb.out.mono H0.out.size)) S3.out S1.out S2.out).mono ?_
        rintro e w2 ⟨cs, rfl, b2, rv⟩
        have HB := Lib.hid (Hb.out.trans (b2.mono Hb.out.size))
        have HV := Lib.hid ((b2.block _ l1).trans Hy1.out)
        have Rv := Lib.hid rv
        obtain ⟨A3, c3, A4, c4, rfl, -⟩ := in39 rv
        clear b2 rv
        generalize hdv : (((findD ((gD l m).f 1).l 0 s).map fun d => d.f 1).getD default) = dv at *
        generalize hbo : ((findD ((gD l m).f 1).l 0 s).map fun d => d.f 1).isSome = bo at *
        have Hdv := Lib.hid hdv; have Hbo := Lib.hid hbo; clear hdv hbo
        have k0 : w2.cell? ⟨w.heap.size, 0, none⟩ = some (.int .i64 0) := cell_heap HV.out rfl
        have k1 : w2.cell? ⟨w.heap.size, 1, none⟩ = some (.int .i64 0) := cell_heap HV.out rfl
        have k2 : w2.cell? ⟨w.heap.size, 2, none⟩ = some (.string ⟨#[]⟩) := cell_heap HV.out rfl
        have k3 : w2.cell? ⟨w.heap.size, 3, none⟩ = some (.slice none 0 0) := cell_heap HV.out rfl
        have k4 : w2.cell? ⟨w.heap.size, 4, none⟩ = some (.slice none 0 0) := cell_heap HV.out rfl
        have f0 := frozen_heap (o := 0) HV.out
        have f1 := frozen_heap (o := 1) HV.out
        have f2 := frozen_heap (o := 2) HV.out
        have f3 := frozen_heap (o := 3) HV.out
        have f4 := frozen_heap (o := 4) HV.out
        have l3 := heap_lt HV.out
        go_wp2
        exact bodyPost_ret (v := .tuple #[.agg #[.int .i64 (dv.f 0).n, .int .i64 (dv.f 1).n, .string (dv.f 2).s, .slice A3 (dv.f 3).l.length c3, .slice A4 (dv.f 4).l.length c4], .bool bo]) (by simp [results, Tryd.results84, go_sem, k0, k1, k2, k3, k4, l3]) rfl ⟨_, by rw [Hr.out, Hbo.out], (((((HB.out.setCell (p := ⟨w.heap.size, 0, none⟩) (Nat.le_refl _) (.int .i64 (dv.f 0).n)).setCell (p := ⟨w.heap.size, 1, none⟩) (Nat.le_refl _) (.int .i64 (dv.f 1).n)).setCell (p := ⟨w.heap.size, 2, none⟩) (Nat.le_refl _) (.string (dv.f 2).s)).setCell (p := ⟨w.heap.size, 3, none⟩) (Nat.le_refl _) (.slice A3 (dv.f 3).l.length c3)).setCell (p := ⟨w.heap.size, 4, none⟩) (Nat.le_refl _) (.slice A4 (dv.f 4).l.length c4)), by rw [Hr.out, Hdv.out]; exact Rv.out⟩
    · obtain rfl : m = l.length := by omega
      have Hr := Lib.hid (Hnone.out Hall.out)
      go_wp2
      exact bodyPost_ret (v := .tuple #[.agg #[.int .i64 0, .int .i64 0, .string ⟨#[]⟩, .slice none 0 0, .slice none 0 0], .bool false]) (by simp [results, Tryd.results84, go_sem, k0, k1, k2, k3, k4, l1]) rfl ⟨_, by rw [Hr.out]; rfl, (((((Hb.out.setCell (p := ⟨w.heap.size, 0, none⟩) (Nat.le_refl _) (.int .i64 0)).setCell (p := ⟨w.heap.size, 1, none⟩) (Nat.le_refl _) (.int .i64 0)).setCell (p := ⟨w.heap.size, 2, none⟩) (Nat.le_refl _) (.string ⟨#[]⟩)).setCell (p := ⟨w.heap.size, 3, none⟩) (Nat.le_refl _) (.slice none 0 0)).setCell (p := ⟨w.heap.size, 4, none⟩) (Nat.le_refl _) (.slice none 0 0)), by rw [Hr.out]; exact rv_zero39 _⟩
end Go.Proofs.YtjhjleanihgopaaDoor
namespace Go.Proofs.YtjhjleanihgopaaDoor
open Go.RowKit
attribute [local irreducible] wpList Calls Code.wp
def ageV (l : List D) : Int × Bool :=
  match argV l ⟨#[99, 97, 99, 104, 101, 67, 111, 110, 116, 114, 111, 108]⟩ ⟨#[109, 97, 120, 65, 103, 101]⟩ with
  | some v => if (v.f 0).n = 2 then (max (v.f 1).n 0, true) else (0, false)
  | none => (0, false)
def privV (l : List D) : Bool :=
  match argV l ⟨#[99, 97, 99, 104, 101, 67, 111, 110, 116, 114, 111, 108]⟩ ⟨#[112, 114, 105, 118, 97, 116, 101]⟩ with
  | some v => decide ((v.f 0).n = 1) && decide ((v.f 1).n = 1)
  | none => false
/-- a number and a bool come back -/
def Ib (n : Int) (b : Bool) (w : World) (e : Ending) (w' : World) : Prop := e = .returned (.tuple #[.int .i64 n, .bool b]) ∧ Below w.heap.size w w'
def Bl (b : Bool) (w : World) (e : Ending) (w' : World) : Prop := e = .returned (.bool b) ∧ Below w.heap.size w w'
set_option maxRecDepth 100000 in
set_option maxHeartbeats 4000000 in
theorem ageP (A : Option Addr) (l : List D) (c : Nat) (w0 w : World) (h0 : Below w0.heap.size w0 w) (h : Rs w0 136 A l) (hl : l.length ≤ c) (hc : c ≤ maxLen) :
    Calls Tryd.prog 53 #[.slice A l.length c] w (Ib (ageV l).1 (ageV l).2 w) := by
  have HA := Lib.hid (argsP A l c ⟨#[99, 97, 99, 104, 101, 67, 111, 110, 116, 114, 111, 108]⟩ ⟨#[109, 97, 120, 65, 103, 101]⟩ w0 w h0 h hl hc)
  clear h0 h hl hc
  obtain ⟨x, hx⟩ : ∃ x, x = ageV l := ⟨_, rfl⟩
  rw [← hx]
  unfold ageV at hx
  generalize argV l ⟨#[99, 97, 99, 104, 101, 67, 111, 110, 116, 114, 111, 108]⟩ ⟨#[109, 97, 120, 65, 103, 101]⟩ = o at *
  generalize l.length = n at *
  have HX := Lib.hid hx; clear hx
  go_enter Tryd.func53, Tryd.ntmps53
  go_wp2_with fail
  refine HA.out.mono ?_
  rintro e w1 ⟨cs, rfl, b, rv⟩
  have B1 := Lib.hid b
  have B2 := Lib.hid (fun x => (B1.out.alloc B1.out.size x))
  obtain ⟨A3, c3, A4, c4, rfl, r1, -⟩ := in39 rv
  clear b rv
  cases o with
  | none =>
    simp only [Option.isSome_none, Option.getD_none]
    go_wp2
    go_ret2
    exact ⟨by rw [HX.out]; simp [*], B2.out _⟩
  | some v =>
    simp only [Option.isSome_some, Option.getD_some] at r1 ⊢
    by_cases hk : (v.f 0).n = 2
    · go_wp2
      go_ret2
      exact ⟨by rw [HX.out]; simp [*], B2.out _⟩
    · go_wp2
      go_ret2
      exact ⟨by rw [HX.out]; simp [*], B2.out _⟩
set_option maxRecDepth 100000 in
set_option maxHeartbeats 4000000 in
theorem privP (A : Option Addr) (l : List D) (c : Nat) (w0 w : World) (h0 : Below w0.heap.size w0 w) (h : Rs w0 136 A l) (hl : l.length ≤ c) (hc : c ≤ maxLen) :
    Calls Tryd.prog 54 #[.slice A l.length c] w (Bl (privV l) w) := by
  have HA := Lib.hid (argsP A l c ⟨#[99, 97, 99, 104, 101, 67, 111, 110, 116, 114, 111, 108]⟩ ⟨#[112, 114, 105, 118, 97, 116, 101]⟩ w0 w h0 h hl hc)
  clear h0 h hl hc
  obtain ⟨x, hx⟩ : ∃ x, x = privV l := ⟨_, rfl⟩
  rw [← hx]
  unfold privV at hx
  generalize argV l ⟨#[99, 97, 99, 104, 101, 67, 111, 110, 116, 114, 111, 108]⟩ ⟨#[112, 114, 105, 118, 97, 116, 101]⟩ = o at *
  generalize l.length = n at *
  have HX := Lib.hid hx; clear hx
  go_enter Tryd.func54, Tryd.ntmps54
  go_wp2_with fail
  refine HA.out.mono ?_
  rintro e w1 ⟨cs, rfl, b, rv⟩
  have B1 := Lib.hid b
  have B2 := Lib.hid (fun x => (B1.out.alloc B1.out.size x))
  obtain ⟨A3, c3, A4, c4, rfl, r0, r1, -⟩ := in39 rv
  clear b rv
  cases o with
  | none =>
    simp only [Option.isSome_none, Option.getD_none]
    go_wp2
    go_ret
    exact ⟨by rw [HX.out]; simp [*], B2.out _⟩
  | some v =>
    simp only [Option.isSome_some, Option.getD_some] at r0 r1 ⊢
    by_cases hk : (v.f 0).n = 1
    · by_cases hi : (v.f 1).n = 1
      · go_wp2
        go_ret
        exact ⟨by rw [HX.out]; simp [*], B2.out _⟩
      · go_wp2
        go_ret
        exact ⟨by rw [HX.out]; simp [*], B2.out _⟩
    · go_wp2
      go_ret
      exact ⟨by rw [HX.out]; simp [*], B2.out _⟩
end Go.Proofs.YtjhjleanihgopaaDoor
namespace Go.Proofs.YtjhjleanihgopaaDoor
open Go.RowKit
attribute [local irreducible] wpList Calls Code.wp
/-- the directives of a field and of its named type -/
def partsV (l : List D) (on fd : ByteArray) : Option (List D × List D) :=
  (findD (((findD l 1 on).getD default).f 4).l 0 fd).map fun f => ((f.f 3).l, (((findD l 1 ((f.f 2).f 0).s).getD default).f 3).l)
def ownV (l : List D) (on fd : ByteArray) : Int × Bool × Bool :=
  match partsV l on fd with
  | none => (0, false, false)
  | some (a, b) => if (ageV a).2 = true then ((ageV a).1, true, privV a || privV b) else ((ageV b).1, (ageV b).2, privV a || privV b)
theorem parts_none {l : List D} {on fd : ByteArray} {t : D} (ht : (findD l 1 on).getD default = t) (h : findD (t.f 4).l 0 fd = none) : partsV l on fd = none := by unfold partsV; rw [ht, h]; rfl
theorem parts_some {l : List D} {on fd : ByteArray} {t f n : D} (ht : (findD l 1 on).getD default = t) (h : findD (t.f 4).l 0 fd = some f) (hn : (findD l 1 ((f.f 2).f 0).s).getD default = n) : partsV l on fd = some ((f.f 3).l, (n.f 3).l) := by
  unfold partsV; rw [ht, h, Option.map_some, hn]
/-- a number and two bools come back -/
def Ibb (r : Int × Bool × Bool) (w : World) (e : Ending) (w' : World) : Prop := e = .returned (.tuple #[.int .i64 r.1, .bool r.2.1, .bool r.2.2]) ∧ Below w.heap.size w w'
set_option maxRecDepth 100000 in
set_option maxHeartbeats 16000000 in
theorem ownP (A : Option Addr) (l : List D) (c : Nat) (on fd : ByteArray) (w0 w : World) (h0 : Below w0.heap.size w0 w) (h : Rs w0 55 A l) (hl : l.length ≤ c) (hc : c ≤ maxLen) :
    Calls Tryd.prog 29 #[.agg #[.slice A l.length c], .string on, .string fd] w (Ibb (ownV l on fd) w) := by
  obtain ⟨x, hx⟩ : ∃ x, x = ownV l on fd := ⟨_, rfl⟩
  rw [← hx]
  have HX := Lib.hid hx; clear hx
  have HF := Lib.hid (fun s w (h0 : Below w0.heap.size w0 w) => findP A l c s w0 w h0 h hl hc)
  have H0 := Lib.hid h0
  clear h h0 hl hc
  go_enter Tryd.func29, Tryd.ntmps29
  go_wp2_with fail
  have b := (Below.refl w.heap.size w).alloc (Nat.le_refl _) (.cells #[.slice A l.length c] 24)
  have XD := Lib.hid (heap_at (w := w) (o := (.cells #[.slice A l.length c] 24)) rfl)
  have B0 := Lib.hid b; clear b
  generalize w.alloc (.cells #[.slice A l.length c] 24) = wa at *
  refine (HF.out on wa (H0.out.trans (B0.out.mono H0.out.size))).mono ?_
  rintro e w1 ⟨cs, rfl, b1, rv1⟩
  obtain ⟨A2t, c2t, A3t, c3t, A4t, c4t, A5t, c5t, A6t, c6t, rfl, -, -, -, -, ⟨s4a, s4b, -, s4⟩, -⟩ := in55 rv1
  have S4 := Lib.hid s4; have S4a := Lib.hid s4a; have S4b := Lib.hid s4b
  have B1 := Lib.hid (B0.out.trans (b1.mono B0.out.size))
  have XD1 := Lib.hid ((b1.block _ (heap_lt XD.out)).trans XD.out)
  clear b1 rv1 s4 s4a s4b XD B0
  generalize hT : (findD l 1 on).getD default = t at *
  have HT := Lib.hid hT; clear hT
  generalize (findD l 1 on).isSome = bt at *
  go_wp2_with fail
  have b := B1.out.alloc B1.out.size (.cells #[.int .i64 (t.f 0).n, .string (t.f 1).s, .slice A2t (t.f 2).l.length c2t, .slice A3t (t.f 3).l.length c3t, .slice A4t (t.f 4).l.length c4t, .slice A5t (t.f 5).l.length c5t, .slice A6t (t.f 6).l.length c6t] 55)
  have XD := Lib.hid (heap_under (o := (.cells #[.int .i64 (t.f 0).n, .string (t.f 1).s, .slice A2t (t.f 2).l.length c2t, .slice A3t (t.f 3).l.length c3t, .slice A4t (t.f 4).l.length c4t, .slice A5t (t.f 5).l.length c5t, .slice A6t (t.f 6).l.length c6t] 55)) XD1.out)
  have B0 := Lib.hid b; clear b XD1 B1
  generalize w1.alloc (.cells #[.int .i64 (t.f 0).n, .string (t.f 1).s, .slice A2t (t.f 2).l.length c2t, .slice A3t (t.f 3).l.length c3t, .slice A4t (t.f 4).l.length c4t, .slice A5t (t.f 5).l.length c5t, .slice A6t (t.f 6).l.length c6t] 55) = wb at *
  refine (fieldP (t.f 0).n (t.f 1).s _ _ _ _ _ _ _ _ _ _ _ _ _ _ _ fd w0 wb (H0.out.trans (B0.out.mono H0.out.size)) S4.out S4a.out S4b.out).mono ?_
  rintro e w2 ⟨cs, rfl, b1, rv1⟩
  have B1 := Lib.hid (B0.out.trans (b1.mono B0.out.size))
  have XD1 := Lib.hid ((b1.block _ (heap_lt XD.out)).trans XD.out)
  clear b1 XD B0 S4 S4a S4b
  obtain ⟨A1f, c1f, A3f, c3f, A4f, c4f, rfl, -, -, -, -, ⟨s4a, s4b, -, s4⟩⟩ := in60 rv1
  have S4 := Lib.hid s4; have S4a := Lib.hid s4a; have S4b := Lib.hid s4b
  clear rv1 s4 s4a s4b
  cases ho : findD (t.f 4).l 0 fd with
  | none =>
    have Ho := Lib.hid ho; clear ho
    simp only [Option.isSome_none, Option.getD_none]
    go_wp2
    go_ret3
    exact ⟨by rw [HX.out]; unfold ownV; rw [parts_none HT.out Ho.out]; rfl, B1.out.alloc B1.out.size _⟩
  | some f =>
    have Ho := Lib.hid ho
    simp only [ho, Option.isSome_some, Option.getD_some] at S4 S4a S4b ⊢
    clear ho
    have kd : w2.cell? ⟨w.heap.size, 0, none⟩ = some (.slice A l.length c) := cell_heap XD1.out rfl
    have ld := heap_lt XD1.out
    go_wp2_with fail
    clear kd ld
    have b := B1.out.alloc B1.out.size (.cells #[.string (f.f 0).s, .slice A1f (f.f 1).l.length c1f, .string ((f.f 2).f 0).s, .slice A3f ((f.f 2).f 1).l.length c3f, .slice A4f (f.f 3).l.length c4f] 60)
    have XD := Lib.hid (heap_under (o := (.cells #[.string (f.f 0).s, .slice A1f (f.f 1).l.length c1f, .string ((f.f 2).f 0).s, .slice A3f ((f.f 2).f 1).l.length c3f, .slice A4f (f.f 3).l.length c4f] 60)) XD1.out)
    have XF := Lib.hid (heap_at (w := w2) (o := (.cells #[.string (f.f 0).s, .slice A1f (f.f 1).l.length c1f, .string ((f.f 2).f 0).s, .slice A3f ((f.f 2).f 1).l.length c3f, .slice A4f (f.f 3).l.length c4f] 60)) rfl)
    have B0 := Lib.hid b; clear b XD1 B1
    generalize w2.alloc (.cells #[.string (f.f 0).s, .slice A1f (f.f 1).l.length c1f, .string ((f.f 2).f 0).s, .slice A3f ((f.f 2).f 1).l.length c3f, .slice A4f (f.f 3).l.length c4f] 60) = wc at *
    refine (HF.out (((f.f 2).f 0).s) wc (H0.out.trans (B0.out.mono H0.out.size))).mono ?_
    rintro e w3 ⟨cs, rfl, b1, rv1⟩
    have B1 := Lib.hid (B0.out.trans (b1.mono B0.out.size))
    have XF1 := Lib.hid ((b1.block _ (heap_lt XF.out)).trans XF.out)
    clear b1 XD XF B0
    obtain ⟨A2n, c2n, A3n, c3n, A4n, c4n, A5n, c5n, A6n, c6n, rfl, -, -, -, ⟨s5a, s5b, -, s5⟩, -⟩ := in55 rv1
    have S5 := Lib.hid s5; have S5a := Lib.hid s5a; have S5b := Lib.hid s5b
    clear rv1 s5 s5a s5b
    generalize hN : (findD l 1 ((f.f 2).f 0).s).getD default = n at *
    have HN := Lib.hid hN; clear hN
    generalize (findD l 1 ((f.f 2).f 0).s).isSome = bn at *
    have kf : w3.cell? ⟨w2.heap.size, 4, none⟩ = some (.slice A4f (f.f 3).l.length c4f) := cell_heap XF1.out rfl
    have lf := heap_lt XF1.out
    go_wp2_with fail
    clear kf lf
    have b := B1.out.alloc B1.out.size (.cells #[.int .i64 (n.f 0).n, .string (n.f 1).s, .slice A2n (n.f 2).l.length c2n, .slice A3n (n.f 3).l.length c3n, .slice A4n (n.f 4).l.length c4n, .slice A5n (n.f 5).l.length c5n, .slice A6n (n.f 6).l.length c6n] 55)
    have XF := Lib.hid (heap_under (o := (.cells #[.int .i64 (n.f 0).n, .string (n.f 1).s, .slice A2n (n.f 2).l.length c2n, .slice A3n (n.f 3).l.length c3n, .slice A4n (n.f 4).l.length c4n, .slice A5n (n.f 5).l.length c5n, .slice A6n (n.f 6).l.length c6n] 55)) XF1.out)
    have XN := Lib.hid (heap_at (w := w3) (o := (.cells #[.int .i64 (n.f 0).n, .string (n.f 1).s, .slice A2n (n.f 2).l.length c2n, .slice A3n (n.f 3).l.length c3n, .slice A4n (n.f 4).l.length c4n, .slice A5n (n.f 5).l.length c5n, .slice A6n (n.f 6).l.length c6n] 55)) rfl)
    have B0 := Lib.hid b; clear b XF1 B1
    generalize w3.alloc (.cells #[.int .i64 (n.f 0).n, .string (n.f 1).s, .slice A2n (n.f 2).l.length c2n, .slice A3n (n.f 3).l.length c3n, .slice A4n (n.f 4).l.length c4n, .slice A5n (n.f 5).l.length c5n, .slice A6n (n.f 6).l.length c6n] 55) = wd at *
    have HP := Lib.hid (parts_some HT.out Ho.out HN.out)
    refine (ageP A4f (f.f 3).l c4f w0 wd (H0.out.trans (B0.out.mono H0.out.size)) S4.out S4a.out S4b.out).mono ?_
    rintro e w4 ⟨rfl, b1⟩
    have B1 := Lib.hid (B0.out.trans (b1.mono B0.out.size))
    have XF1 := Lib.hid ((b1.block _ (heap_lt XF.out)).trans XF.out)
    have XN1 := Lib.hid ((b1.block _ (heap_lt XN.out)).trans XN.out)
    clear b1 XF XN B0
    have B0 := B1; have XF := XF1; have XN := XN1; clear B1 XF1 XN1
    have kf : w4.cell? ⟨w2.heap.size, 4, none⟩ = some (.slice A4f (f.f 3).l.length c4f) := cell_heap XF.out rfl
    have kn : w4.cell? ⟨w3.heap.size, 3, none⟩ = some (.slice A3n (n.f 3).l.length c3n) := cell_heap XN.out rfl
    have lf := heap_lt XF.out
    have ln := heap_lt XN.out
    generalize hga : ageV (f.f 3).l = ga at *
    obtain ⟨g1, g2⟩ := ga
    simp only
    cases g2 with
    | false =>
      have Hga := Lib.hid hga; clear hga
      go_wp2_with fail
      refine (ageP A3n (n.f 3).l c3n w0 w4 (H0.out.trans (B0.out.mono H0.out.size)) S5.out S5a.out S5b.out).mono ?_
      rintro e w5 ⟨rfl, b1⟩
      clear kf kn lf ln
      have B1 := Lib.hid (B0.out.trans (b1.mono B0.out.size))
      have XF1 := Lib.hid ((b1.block _ (heap_lt XF.out)).trans XF.out)
      have XN1 := Lib.hid ((b1.block _ (heap_lt XN.out)).trans XN.out)
      clear b1 XF XN B0
      have B0 := B1; have XF := XF1; have XN := XN1; clear B1 XF1 XN1
      have kf : w5.cell? ⟨w2.heap.size, 4, none⟩ = some (.slice A4f (f.f 3).l.length c4f) := cell_heap XF.out rfl
      have kn : w5.cell? ⟨w3.heap.size, 3, none⟩ = some (.slice A3n (n.f 3).l.length c3n) := cell_heap XN.out rfl
      have lf := heap_lt XF.out
      have ln := heap_lt XN.out
      generalize hgb : ageV (n.f 3).l = gb at *
      obtain ⟨y1, y2⟩ := gb
      simp only
      have Hgb := Lib.hid hgb; clear hgb
      go_wp2_with fail
      refine (privP A4f (f.f 3).l c4f w0 w5 (H0.out.trans (B0.out.mono H0.out.size)) S4.out S4a.out S4b.out).mono ?_
      rintro e w6 ⟨rfl, b1⟩
      clear kf kn lf ln
      have B1 := Lib.hid (B0.out.trans (b1.mono B0.out.size))
      have XF1 := Lib.hid ((b1.block _ (heap_lt XF.out)).trans XF.out)
      have XN1 := Lib.hid ((b1.block _ (heap_lt XN.out)).trans XN.out)
      clear b1 XF XN B0
      have B0 := B1; have XF := XF1; have XN := XN1; clear B1 XF1 XN1
      have kf : w6.cell? ⟨w2.heap.size, 4, none⟩ = some (.slice A4f (f.f 3).l.length c4f) := cell_heap XF.out rfl
      have kn : w6.cell? ⟨w3.heap.size, 3, none⟩ = some (.slice A3n (n.f 3).l.length c3n) := cell_heap XN.out rfl
      have lf := heap_lt XF.out
      have ln := heap_lt XN.out
      cases hp : privV (f.f 3).l
      · go_wp2_with fail
        refine (privP A3n (n.f 3).l c3n w0 w6 (H0.out.trans (B0.out.mono H0.out.size)) S5.out S5a.out S5b.out).mono ?_
        rintro e w7 ⟨rfl, b1⟩
        generalize hq : privV (n.f 3).l = pq at *
        have Hq := Lib.hid hq; clear hq
        go_wp2
        go_ret3
        exact ⟨by rw [HX.out]; unfold ownV; rw [HP.out]; simp [Hga.out, Hgb.out, hp, Hq.out], B0.out.trans (b1.mono B0.out.size)⟩
      · go_wp2
        go_ret3
        exact ⟨by rw [HX.out]; unfold ownV; rw [HP.out]; simp [Hga.out, Hgb.out, hp], B0.out⟩
    | true =>
      have Hga := Lib.hid hga; clear hga
      go_wp2_with fail
      refine (privP A4f (f.f 3).l c4f w0 w4 (H0.out.trans (B0.out.mono H0.out.size)) S4.out S4a.out S4b.out).mono ?_
      rintro e w5 ⟨rfl, b1⟩
      clear kf kn lf ln
      have B1 := Lib.hid (B0.out.trans (b1.mono B0.out.size))
      have XF1 := Lib.hid ((b1.block _ (heap_lt XF.out)).trans XF.out)
      have XN1 := Lib.hid ((b1.block _ (heap_lt XN.out)).trans XN.out)
      clear b1 XF XN B0
      have B0 := B1; have XF := XF1; have XN := XN1; clear B1 XF1 XN1
      have kf : w5.cell? ⟨w2.heap.size, 4, none⟩ = some (.slice A4f (f.f 3).l.length c4f) := cell_heap XF.out rfl
      have kn : w5.cell? ⟨w3.heap.size, 3, none⟩ = some (.slice A3n (n.f 3).l.length c3n) := cell_heap XN.out rfl
      have lf := heap_lt XF.out
      have ln := heap_lt XN.out
      cases hp : privV (f.f 3).l
      · go_wp2_with fail
        refine (privP A3n (n.f 3).l c3n w0 w5 (H0.out.trans (B0.out.mono H0.out.size)) S5.out S5a.out S5b.out).mono ?_
        rintro e w6 ⟨rfl, b1⟩
        generalize hq : privV (n.f 3).l = pq at *
        have Hq := Lib.hid hq; clear hq
        go_wp2
        go_ret3
        exact ⟨by rw [HX.out]; unfold ownV; rw [HP.out]; simp [Hga.out, hp, Hq.out], B0.out.trans (b1.mono B0.out.size)⟩
      · go_wp2
        go_ret3
        exact ⟨by rw [HX.out]; unfold ownV; rw [HP.out]; simp [Hga.out, hp], B0.out⟩
end Go.Proofs.YtjhjleanihgopaaDoor
namespace Go.Proofs.YtjhjleanihgopaaDoor
open Go.RowKit
attribute [local irreducible] wpList Calls Code.wp
def parts2 (l : List D) (on fd : ByteArray) : List D × List D := (partsV l on fd).getD ([], [])
/-- the hint of a field -/
def fieldV (l : List D) (on fd : ByteArray) : Int × Bool := (if (ageV (parts2 l on fd).1).2 = true then (ageV (parts2 l on fd).1).1 else (ageV (parts2 l on fd).2).1, privV (parts2 l on fd).1 || privV (parts2 l on fd).2)
theorem own_field (l : List D) (on fd : ByteArray) : ((ownV l on fd).1, (ownV l on fd).2.2) = fieldV l on fd := by
  unfold ownV fieldV parts2
  cases partsV l on fd with
  | none => rfl
  | some p =>
    obtain ⟨a, b⟩ := p
    simp only [Option.getD_some]
    split <;> rfl
set_option maxRecDepth 100000 in
set_option maxHeartbeats 4000000 in
theorem hintP (A : Option Addr) (l : List D) (c : Nat) (on fd : ByteArray) (w0 w : World) (h0 : Below w0.heap.size w0 w) (h : Rs w0 55 A l) (hl : l.length ≤ c) (hc : c ≤ maxLen) :
    Calls Tryd.prog 32 #[.agg #[.slice A l.length c], .string on, .string fd] w (Hi (fieldV l on fd).1 (fieldV l on fd).2 w) := by
  have HO := Lib.hid (fun w (h0 : Below w0.heap.size w0 w) => ownP A l c on fd w0 w h0 h hl hc)
  rw [← own_field]
  have HB := Lib.hid (((Below.refl w.heap.size w).alloc (Nat.le_refl _) (.cells #[.slice A l.length c] 24)).alloc (by simp) (.cells #[.int .i64 0, .bool false] 32))
  have H0 := Lib.hid h0
  clear h0 h hl hc
  generalize ownV l on fd = r at *
  obtain ⟨a, b, d⟩ := r
  unfold Ibb at HO
  go_enter Tryd.func32, Tryd.ntmps32
  go_wp2_with fail
  refine (HO.out _ (H0.out.trans (HB.out.mono H0.out.size))).mono ?_
  rintro e w2 ⟨rfl, b2⟩
  have X := Lib.hid ((b2.block (w.heap.size + 1) (by simp)).trans (heap_at (w := w.alloc (.cells #[.slice A l.length c] 24)) (o := .cells #[.int .i64 0, .bool false] 32) (by simp)))
  have B2 := Lib.hid (HB.out.trans (b2.mono HB.out.size)); clear b2
  have k0 : w2.cell? ⟨w.heap.size + 1, 0, none⟩ = some (.int .i64 0) := cell_heap X.out rfl
  have k1 : w2.cell? ⟨w.heap.size + 1, 1, none⟩ = some (.bool false) := cell_heap X.out rfl
  have f0 := frozen_heap (o := 0) X.out
  have f1 := frozen_heap (o := 1) X.out
  have lx := heap_lt X.out
  go_wp2
  exact bodyPost_ret (v := .agg #[.int .i64 a, .bool d]) (by simp [results, Tryd.results32, go_sem, k0, k1, lx]) rfl ⟨rfl, (B2.out.setCell (p := ⟨w.heap.size + 1, 0, none⟩) (Nat.le_succ _) _).setCell (p := ⟨w.heap.size + 1, 1, none⟩) (Nat.le_succ _) _⟩
end Go.Proofs.YtjhjleanihgopaaDoor
namespace Go.Proofs.YtjhjleanihgopaaDoor
open Go.RowKit
attribute [local irreducible] wpList Calls Code.wp
/-- some bool comes back -/
def Sb (w : World) (e : Ending) (w' : World) : Prop := ∃ b, e = .returned (.bool b) ∧ Below w.heap.size w w'
set_option maxRecDepth 100000 in
set_option maxHeartbeats 4000000 in
theorem largeR (A : Option Addr) (l : List D) (c : Nat) (w0 w : World) (h0 : Below w0.heap.size w0 w) (h : Rs w0 55 A l) (hl : l.length ≤ c) (hc : c ≤ maxLen) :
    Calls Tryd.prog 10 #[.agg #[.slice A l.length c]] w (Sb w) := by
  have H := Lib.hid h; have H0 := Lib.hid h0
  unfold maxLen at hc
  have hlc : l.length ≤ 9223372036854775807 := by omega
  clear h h0 hl hc
  by_cases hbig : 70 < l.length
  · have q : decide ((l.length : Int) > 70) = true := decide_eq_true (by omega)
    go_enter Tryd.func10, Tryd.ntmps10
    go_wp2
    go_ret
    exact ⟨_, rfl, (Below.refl _ _).alloc (Nat.le_refl _) _⟩
  have q : decide ((l.length : Int) > 70) = false := decide_eq_false (by omega)
  go_enter Tryd.func10, Tryd.ntmps10
  go_wp2
  go_loopg [3, 4] l.length (fun j x i wr => ∃ (m : Nat) (y : Int), m + j = l.length ∧ i = .int .i64 m ∧ x = .int .i64 y ∧ Below w.heap.size w wr ∧ wr.heap[w.heap.size]? = some (.cells #[.slice A l.length c] 24 (0, 0)))
  case atStart => exact ⟨0, 0, by omega, rfl, rfl, (Below.refl _ _).alloc (Nat.le_refl _) _, heap_at rfl⟩
  case round =>
    obtain ⟨m, y, hmj, rfl, rfl, hb, hx⟩ := hrel
    have k0 : wr.cell? ⟨w.heap.size, 0, none⟩ = some (.slice A l.length c) := cell_heap hx rfl
    have l0 := heap_lt hx
    have Hb := Lib.hid hb; have Hx := Lib.hid hx
    have Hmj := Lib.hid hmj; have hmn : m ≤ l.length := by omega
    clear hmj hb hx
    by_cases hlt : m < l.length
    · obtain ⟨b, off, rfl, hI, hat⟩ := at55 H.out (by omega)
      obtain ⟨A2, c2, A3, c3, A4, c4, A5, c5, A6, c6, e0, e1, e2, e3, e4, e5, e6, r0, r1, r2, r3, r4, r5, r6, y0⟩ := hat m hlt
      have F1 := Lib.hid r4.1; have F2 := Lib.hid r4.2.1; have F3 := Lib.hid r4.2.2.2
      clear hat y0 r0 r1 r2 r3 r4 r5 r6
      replace e0 := ((H0.out.trans (Hb.out.mono H0.out.size)).cell (p := ⟨b, _, none⟩) hI).trans e0
      replace e1 := ((H0.out.trans (Hb.out.mono H0.out.size)).cell (p := ⟨b, _, none⟩) hI).trans e1
      replace e2 := ((H0.out.trans (Hb.out.mono H0.out.size)).cell (p := ⟨b, _, none⟩) hI).trans e2
      replace e3 := ((H0.out.trans (Hb.out.mono H0.out.size)).cell (p := ⟨b, _, none⟩) hI).trans e3
      replace e4 := ((H0.out.trans (Hb.out.mono H0.out.size)).cell (p := ⟨b, _, none⟩) hI).trans e4
      replace e5 := ((H0.out.trans (Hb.out.mono H0.out.size)).cell (p := ⟨b, _, none⟩) hI).trans e5
      replace e6 := ((H0.out.trans (Hb.out.mono H0.out.size)).cell (p := ⟨b, _, none⟩) hI).trans e6
      have hfl : ((gD l m).f 4).l.length ≤ 9223372036854775807 := by have h1 := F1.out; have h2 := F2.out; unfold maxLen at h2; omega
      go_wp2
      obtain ⟨y2, hy2⟩ : ∃ y2, y2 = wrap64 (y + wrap64 (wrap64 (wrap64 (wrap64 (wrap64 (1 + ↑((gD l m).f 4).l.length) + ↑((gD l m).f 5).l.length) + ↑((gD l m).f 6).l.length) + ↑((gD l m).f 3).l.length) + ↑((gD l m).f 2).l.length)) := ⟨_, rfl⟩
      rw [← hy2]
      clear hy2
      have hba : Below w.heap.size w (wr.alloc (.cells #[.int .i64 ((gD l m).f 0).n, .string ((gD l m).f 1).s, .slice A2 ((gD l m).f 2).l.length c2, .slice A3 ((gD l m).f 3).l.length c3, .slice A4 ((gD l m).f 4).l.length c4, .slice A5 ((gD l m).f 5).l.length c5, .slice A6 ((gD l m).f 6).l.length c6] 55)) := Hb.out.alloc Hb.out.size _
      have hxa : (wr.alloc (.cells #[.int .i64 ((gD l m).f 0).n, .string ((gD l m).f 1).s, .slice A2 ((gD l m).f 2).l.length c2, .slice A3 ((gD l m).f 3).l.length c3, .slice A4 ((gD l m).f 4).l.length c4, .slice A5 ((gD l m).f 5).l.length c5, .slice A6 ((gD l m).f 6).l.length c6] 55)).heap[wr.heap.size]? = some (.cells #[.int .i64 ((gD l m).f 0).n, .string ((gD l m).f 1).s, .slice A2 ((gD l m).f 2).l.length c2, .slice A3 ((gD l m).f 3).l.length c3, .slice A4 ((gD l m).f 4).l.length c4, .slice A5 ((gD l m).f 5).l.length c5, .slice A6 ((gD l m).f 6).l.length c6] 55 (0, 0)) := heap_at rfl
      have hxd : (wr.alloc (.cells #[.int .i64 ((gD l m).f 0).n, .string ((gD l m).f 1).s, .slice A2 ((gD l m).f 2).l.length c2, .slice A3 ((gD l m).f 3).l.length c3, .slice A4 ((gD l m).f 4).l.length c4, .slice A5 ((gD l m).f 5).l.length c5, .slice A6 ((gD l m).f 6).l.length c6] 55)).heap[w.heap.size]? = some (.cells #[.slice (some ⟨b, off, none⟩) l.length c] 24 (0, 0)) := heap_under Hx.out
      clear e0 e1 e2 e3 e4 e5 e6 k0 l0
      generalize wr.alloc (.cells #[.int .i64 ((gD l m).f 0).n, .string ((gD l m).f 1).s, .slice A2 ((gD l m).f 2).l.length c2, .slice A3 ((gD l m).f 3).l.length c3, .slice A4 ((gD l m).f 4).l.length c4, .slice A5 ((gD l m).f 5).l.length c5, .slice A6 ((gD l m).f 6).l.length c6] 55) = wa at *
      generalize wr.heap.size = ba at *
      obtain ⟨wo, rfl⟩ : ∃ wo : World, wo = wr := ⟨_, rfl⟩
      go_loopg [3, 6] ((gD l m).f 4).l.length (fun j x i wi => ∃ (k : Nat) (y : Int), k + j = ((gD l m).f 4).l.length ∧ i = .int .i64 k ∧ x = .int .i64 y ∧ Below w.heap.size w wi ∧ wi.heap[ba]? = some (.cells #[.int .i64 ((gD l m).f 0).n, .string ((gD l m).f 1).s, .slice A2 ((gD l m).f 2).l.length c2, .slice A3 ((gD l m).f 3).l.length c3, .slice A4 ((gD l m).f 4).l.length c4, .slice A5 ((gD l m).f 5).l.length c5, .slice A6 ((gD l m).f 6).l.length c6] 55 (0, 0)) ∧ wi.heap[w.heap.size]? = some (.cells #[.slice (some ⟨b, off, none⟩) l.length c] 24 (0, 0)))
      case atStart => exact ⟨0, y2, by omega, rfl, rfl, hba, hxa, hxd⟩
      case round =>
        obtain ⟨k, y3, hkj, rfl, rfl, hb, hx, hd⟩ := hrel
        clear hba hxa hxd
        have q4 : wr.cell? ⟨ba, 4, none⟩ = some (.slice A4 ((gD l m).f 4).l.length c4) := cell_heap hx rfl
        have l0 := heap_lt hx
        have Hbi := Lib.hid hb; have Hxi := Lib.hid hx; have Hdi := Lib.hid hd
        have Hkj := Lib.hid hkj; have hkn : k ≤ ((gD l m).f 4).l.length := by omega
        clear hkj hb hx hd
        by_cases hlk : k < ((gD l m).f 4).l.length
        · obtain ⟨bf, offf, rfl, hIf, hatf⟩ := at60 F3.out (by omega)
          obtain ⟨A1, c1, A3, c3, A4, c4, u0, u1, u2, u3, u4, -, -, -, -, -, -⟩ := hatf k hlk
          clear hatf
          replace u0 := ((H0.out.trans (Hbi.out.mono H0.out.size)).cell (p := ⟨bf, _, none⟩) hIf).trans u0
          replace u1 := ((H0.out.trans (Hbi.out.mono H0.out.size)).cell (p := ⟨bf, _, none⟩) hIf).trans u1
          replace u2 := ((H0.out.trans (Hbi.out.mono H0.out.size)).cell (p := ⟨bf, _, none⟩) hIf).trans u2
          replace u3 := ((H0.out.trans (Hbi.out.mono H0.out.size)).cell (p := ⟨bf, _, none⟩) hIf).trans u3
          replace u4 := ((H0.out.trans (Hbi.out.mono H0.out.size)).cell (p := ⟨bf, _, none⟩) hIf).trans u4
          have hk2 : (k : Int) < (((gD l m).f 4).l.length : Int) := by omega
          go_wp2
          go_quiet (fail)
          go_wp2
          go_roundg (((gD l m).f 4).l.length - k - 1)
          case measure => have := Hkj.out; omega
          case rel => exact ⟨k + 1, _, by have := Hkj.out; omega, by go_num, rfl, below_draws Hbi.out _, Hxi.out, Hdi.out⟩
        · go_wp2
          go_roundg (l.length - m - 1)
          case measure => have := Hmj.out; omega
          case rel => exact ⟨m + 1, _, by have := Hmj.out; omega, by go_num, rfl, Hbi.out, Hdi.out⟩
    · go_wp2
      go_ret
      exact ⟨_, rfl, Hb.out⟩
end Go.Proofs.YtjhjleanihgopaaDoor
namespace Go.Proofs.YtjhjleanihgopaaDoor
open Go.RowKit
attribute [local irreducible] wpList Calls Code.wp
set_option maxRecDepth 100000 in
theorem var_stays {P : Program} {w w' : World} {n : String} {g G : Nat} {cs : Array Value} (hg : P.globalNamed n = some g) (hG : g < G) (h : w.var? P n = some cs) (hs : ∀ k, k < G → w'.heap[k]? = w.heap[k]?) : w'.var? P n = some cs := by
  unfold World.var? at h ⊢
  rw [hg] at h ⊢
  simp only [Option.bind_some] at h ⊢
  rw [hs g hG]; exact h
def EN5 : Ge where
  G := 4
  E := Env
  stays w w' h hs := by
    obtain ⟨h1, ⟨tp, p, h2⟩, ⟨tp', p', h3⟩⟩ := h
    exact ⟨var_stays (g := 3) (by kernel_rfl) (by omega) h1 hs, ⟨tp, p, var_stays (g := 2) (by kernel_rfl) (by omega) h2 hs⟩, ⟨tp', p', var_stays (g := 1) (by kernel_rfl) (by omega) h3 hs⟩⟩
  le w h := by
    have h1 := h.1
    unfold Lib.TabIs World.var? at h1
    rw [show Tryd.prog.globalNamed "internal/strconv.uint64pow10" = some 3 by kernel_rfl] at h1
    simp only [Option.bind_some] at h1
    rcases Nat.lt_or_ge 3 w.heap.size with h' | h'
    · exact h'
    · rw [Array.getElem?_eq_none h'] at h1; cases h1
set_option maxRecDepth 100000 in
/-- a contract over blocks that turns nothing old and hands back values that read no memory -/
theorem ac_of5 {f : FuncId} {args : List V} {r : V} {u : Value} (h : ∀ s w us, relL Tryd.prog s w args us.toList → Env w → (∀ s' w', rel Tryd.prog s' w' r u) ∧ Calls Tryd.prog f us w fun e w' => e = .returned u ∧ Below w.heap.size w w') : AC EN5 Tryd.prog f args r := by
  intro s w us hus hfx he
  obtain ⟨hr, hc⟩ := h s w us hus he
  refine hc.mono ?_
  rintro e w' ⟨rfl, hb⟩
  have hc : ∀ b o, s.F b o → w'.cell? ⟨b, o, none⟩ = w.cell? ⟨b, o, none⟩ := fun b o hF => by
    obtain ⟨x, hx⟩ := Option.isSome_iff_exists.1 (hfx b o hF)
    exact hb.cell (p := ⟨b, o, none⟩) (block_lt_of_cell hx)
  exact ⟨u, s.F, rfl, Frm.of_below hb, fun b o hF => ⟨hc b o hF, hF⟩, fun b o hF => by rw [hc b o hF]; exact hfx b o hF, fun _ _ _ h => h, hr _ _⟩
set_option maxRecDepth 100000 in
theorem rel_three {P : Program} {s : Sg} {w : World} {v v2 v3 : V} {us : Array Value} (h : relL P s w [v, v2, v3] us.toList) : ∃ u u2 u3, us = #[u, u2, u3] ∧ rel P s w v u ∧ rel P s w v2 u2 ∧ rel P s w v3 u3 := by
  cases hl : us.toList with
  | nil => rw [hl] at h; simp [relL] at h
  | cons x xs =>
    rw [hl, relL] at h
    cases xs with
    | nil => simp [relL] at h
    | cons y ys =>
      rw [relL] at h
      cases ys with
      | nil => simp [relL] at h
      | cons z zs =>
        rw [relL] at h
        cases zs with
        | nil => exact ⟨x, y, z, by apply Array.ext'; simpa using hl, h.1, h.2.1, h.2.2.1⟩
        | cons a b => simp [relL] at h
set_option maxRecDepth 100000 in
theorem doc_args {s : Sg} {w : World} {d : D} {on fd : ByteArray} {us : Array Value} (h : relL Tryd.prog s w [.agg (cellsV Tryd.prog 12 24 d), .c (.string on), .c (.string fd)] us.toList) :
    ∃ A c, us = #[.agg #[.slice A (d.f 0).l.length c], .string on, .string fd] ∧ Rs w 55 A (d.f 0).l ∧ (d.f 0).l.length ≤ c ∧ c ≤ maxLen := by
  obtain ⟨u, u2, u3, rfl, h1, h2, h3⟩ := rel_three h
  rw [rel] at h1
  rw [rel] at h2
  rw [rel] at h3
  obtain ⟨cs, rfl, h1⟩ := h1
  obtain ⟨rfl, -⟩ := h2
  obtain ⟨rfl, -⟩ := h3
  obtain ⟨k, hk⟩ := cells_back 12 24 _ _ (by kernel_rfl) h1
  obtain ⟨A, c, e, h2, h3, -, h4⟩ := in24 ⟨k, hk.rep⟩
  exact ⟨A, c, by rw [e], h4, h2, h3⟩
def R64 (n : Int) : Prop := -9223372036854775808 ≤ n ∧ n ≤ 9223372036854775807
set_option maxRecDepth 100000 in
theorem rel_i64 {P : Program} {s : Sg} {w : World} {n : Int} (h : R64 n) : rel P s w (.c (.int .i64 n)) (.int .i64 n) := by
  rw [rel]
  refine ⟨rfl, ?_⟩
  show (Lit.int .i64 n).wf = true
  rw [wf_int]; exact h
set_option maxRecDepth 100000 in
theorem rel_bool {P : Program} {s : Sg} {w : World} {b : Bool} : rel P s w (.c (.bool b)) (.bool b) := by rw [rel]; exact ⟨rfl, trivial⟩
set_option maxRecDepth 100000 in
theorem findD_mem {l : List D} {j : Nat} {s : ByteArray} {x : D} (h : findD l j s = some x) : ∃ i, i < l.length ∧ gD l i = x := by
  obtain ⟨i, hi, e⟩ := List.getElem_of_mem (List.mem_of_find?_eq_some h)
  exact ⟨i, hi, by rw [gD_get hi]; exact e⟩
set_option maxRecDepth 100000 in
theorem R64.zero : R64 0 := ⟨by decide, by decide⟩
set_option maxRecDepth 100000 in
theorem age_range {w : World} {A : Option Addr} {l : List D} (h : Rs w 136 A l) : R64 (ageV l).1 := by
  unfold ageV
  split
  · rename_i v hv
    split
    · obtain ⟨x, h1, h2⟩ := Option.bind_eq_some_iff.1 hv
      obtain ⟨y, h3, h4⟩ := Option.map_eq_some_iff.1 h2
      obtain ⟨i, hi, rfl⟩ := findD_mem h1
      obtain ⟨j, hj, rfl⟩ := findD_mem h3
      obtain ⟨b, off, _, _, hat⟩ := at136 h (by omega)
      obtain ⟨A1, c1, -, -, -, ⟨-, -, -, s1⟩, -⟩ := hat i hi
      obtain ⟨b2, off2, _, _, hat2⟩ := at155 s1 (by omega)
      obtain ⟨A4, c4, A5, c5, -, -, -, -, -, -, -, -, r1, -⟩ := hat2 j hj
      rw [h4] at r1
      show R64 (max (v.f 1).n 0)
      unfold R64
      omega
    · exact R64.zero
  · exact R64.zero
set_option maxRecDepth 100000 in
theorem def_dirs {w : World} {A : Option Addr} {l : List D} (h : Rs w 55 A l) (s : ByteArray) : ∃ A2, Rs w 136 A2 (((findD l 1 s).getD default).f 3).l := by
  cases hf : findD l 1 s with
  | none => exact ⟨none, 1, fun h => absurd h (Nat.not_lt_zero 0)⟩
  | some x =>
    obtain ⟨i, hi, rfl⟩ := findD_mem hf
    obtain ⟨b, off, _, _, hat⟩ := at55 h (by omega)
    obtain ⟨A2, c2, A3, c3, A4, c4, A5, c5, A6, c6, -, -, -, -, -, -, -, -, -, -, ⟨-, -, -, s3⟩, -⟩ := hat i hi
    exact ⟨A3, s3⟩
set_option maxRecDepth 100000 in
theorem parts_range {w : World} {A : Option Addr} {l : List D} (h : Rs w 55 A l) {on fd : ByteArray} {p : List D × List D} (hp : partsV l on fd = some p) : R64 (ageV p.1).1 ∧ R64 (ageV p.2).1 := by
  obtain ⟨f, h1, rfl⟩ := Option.map_eq_some_iff.1 hp
  have hf : ∃ A4, Rs w 60 A4 (((findD l 1 on).getD default).f 4).l := by
    cases hf : findD l 1 on with
    | none => exact ⟨none, 1, fun h => absurd h (Nat.not_lt_zero 0)⟩
    | some x =>
      obtain ⟨i, hi, rfl⟩ := findD_mem hf
      obtain ⟨b, off, _, _, hat⟩ := at55 h (by omega)
      obtain ⟨A2, c2, A3, c3, A4, c4, A5, c5, A6, c6, -, -, -, -, -, -, -, -, -, -, -, ⟨-, -, -, s4⟩, -⟩ := hat i hi
      exact ⟨A4, s4⟩
  obtain ⟨A4, s4⟩ := hf
  obtain ⟨i, hi, rfl⟩ := findD_mem h1
  obtain ⟨b, off, _, _, hat⟩ := at60 s4 (by omega)
  obtain ⟨A1, c1, A3, c3, A5, c5, -, -, -, -, -, -, -, -, -, ⟨-, -, -, s5⟩, -⟩ := hat i hi
  obtain ⟨A6, s6⟩ := def_dirs h ((((gD (((findD l 1 on).getD default).f 4).l i).f 2).f 0).s)
  exact ⟨age_range s5, age_range s6⟩
set_option maxRecDepth 100000 in
theorem own_range {w : World} {A : Option Addr} {l : List D} (h : Rs w 55 A l) (on fd : ByteArray) : R64 (ownV l on fd).1 := by
  unfold ownV
  split
  · exact R64.zero
  · rename_i a b hp
    have := parts_range h hp
    split
    · exact this.1
    · exact this.2
set_option maxRecDepth 100000 in
theorem field_range {w : World} {A : Option Addr} {l : List D} (h : Rs w 55 A l) (on fd : ByteArray) : R64 (fieldV l on fd).1 := by
  rw [← own_field]; exact own_range h on fd
set_option maxRecDepth 100000 in
theorem own_ac (d : D) (on fd : ByteArray) : AC EN5 Tryd.prog 29 [.agg (cellsV Tryd.prog 12 24 d), .c (.string on), .c (.string fd)] (.tup [.c (.int .i64 (ownV (d.f 0).l on fd).1), .c (.bool (ownV (d.f 0).l on fd).2.1), .c (.bool (ownV (d.f 0).l on fd).2.2)]) :=
  ac_of5 (u := .tuple #[.int .i64 (ownV (d.f 0).l on fd).1, .bool (ownV (d.f 0).l on fd).2.1, .bool (ownV (d.f 0).l on fd).2.2]) fun s w us hus _ => by
    obtain ⟨A, c, rfl, hr, hl, hc⟩ := doc_args hus
    refine ⟨fun s' w' => ?_, ownP A _ c on fd w w (Below.refl _ _) hr hl hc⟩
    rw [rel]
    exact ⟨_, rfl, by simp only [relL, and_true]; exact ⟨rel_i64 (own_range hr on fd), rel_bool, rel_bool⟩⟩
set_option maxRecDepth 100000 in
theorem field_ac (d : D) (on fd : ByteArray) : AC EN5 Tryd.prog 32 [.agg (cellsV Tryd.prog 12 24 d), .c (.string on), .c (.string fd)] (.agg [.c (.int .i64 (fieldV (d.f 0).l on fd).1), .c (.bool (fieldV (d.f 0).l on fd).2)]) :=
  ac_of5 (u := .agg #[.int .i64 (fieldV (d.f 0).l on fd).1, .bool (fieldV (d.f 0).l on fd).2]) fun s w us hus _ => by
    obtain ⟨A, c, rfl, hr, hl, hc⟩ := doc_args hus
    refine ⟨fun s' w' => ?_, hintP A _ c on fd w w (Below.refl _ _) hr hl hc⟩
    rw [rel]
    exact ⟨_, rfl, by simp only [relL, and_true]; exact ⟨rel_i64 (field_range hr on fd), rel_bool⟩⟩
end Go.Proofs.YtjhjleanihgopaaDoor
namespace Go.Proofs.YtjhjleanihgopaaDoor
open Go.RowKit
attribute [local irreducible] wpList Calls Code.wp
mutual
/-- how many values and letters a datum holds -/
def bulkD : D → Nat
  | .int _ => 1
  | .bool _ => 1
  | .str s => s.size + 1
  | .list l => bulkL l + 1
  | .obj l => bulkL l + 1
def bulkL : List D → Nat
  | [] => 0
  | d :: r => bulkD d + bulkL r
 end
/-- the datum has a type's shape -/
def Fits (P : Program) : Nat → TypeId → D → Prop
  | 0, _, _ => False
  | k + 1, t, d =>
    match P.underlying t with
    | some .bool => ∃ b, d = .bool b
    | some (.int _) => ∃ n, d = .int n
    | some .string => ∃ s, d = .str s
    | some (.slice e) => ∃ l, d = .list l ∧ ∀ i, i < l.length → Fits P k e (gD l i)
    | some (.struct fs) => ∃ l, d = .obj l ∧ l.length = fs.size ∧ ∀ j f, fs[j]? = some f → Fits P k f.type (gD l j)
    | _ => True
theorem Fits.up {P : Program} : ∀ {k : Nat} {t : TypeId} {d : D}, Fits P k t d → Fits P (k + 1) t d
  | 0, _, _, h => h.elim
  | k + 1, t, d, h => by
    unfold Fits at h ⊢
    split at h
    · exact h
    · exact h
    · exact h
    · obtain ⟨l, h1, h2⟩ := h
      exact ⟨l, h1, fun i hi => Fits.up (h2 i hi)⟩
    · obtain ⟨l, h1, h2, h3⟩ := h
      exact ⟨l, h1, h2, fun j f hf => Fits.up (h3 j f hf)⟩
    · trivial
theorem bulk_pos {H : Type} (d : DataW H) : 1 ≤ Rows.uptoBulk d := by
  cases d with
  | lit x => cases x <;> simp [Rows.uptoBulk]
  | _ => simp [Rows.uptoBulk]
theorem bulk_lists {H : Type} : ∀ (l : List D) (xs : List (DataW H × List MemPlace)), l.length = xs.length → (∀ i (h : i < xs.length), bulkD (gD l i) ≤ Rows.uptoBulk (xs[i]'h).1) → bulkL l ≤ Rows.uptoBulkAll (xs.map (·.1))
  | [], _, _, _ => by simp [bulkL]
  | d :: r, [], h, _ => by simp at h
  | d :: r, x :: xs, h, hb => by
    have h0 := hb 0 (by simp)
    have h1 := bulk_lists r xs (by simpa using h) fun i hi => by
      have := hb (i + 1) (by simpa using hi)
      simpa [gD] using this
    simp only [List.map_cons, Rows.uptoBulkAll, bulkL]
    have e : gD (d :: r) 0 = d := rfl
    rw [e] at h0
    have e2 : (((x :: xs)[0]'(by simp)).1) = x.1 := rfl
    rw [e2] at h0
    omega
theorem rep_of_trod2 {P : Program} {w : World} {H : Type} {enc : TypeId × Value → H} {held : Bool} {sp : Nat → Bool} : ∀ {k : Nat} {t : TypeId} {cs : List Value} {x : DataW H × List MemPlace},
    DataW.trod enc P w 0 sp held k t cs = some x → ∃ d, Rep P w (fun b => b < w.heap.size) k t cs d ∧ Fits P k t d ∧ bulkD d ≤ Rows.uptoBulk x.1
  | 0, t, cs, x, h => by simp [DataW.trod] at h
  | k + 1, t, cs, x, h => by
    have hpos := bulk_pos x.1
    cases hu : P.underlying t with
    | none => exact ⟨default, by unfold Rep; rw [hu]; trivial, by unfold Fits; rw [hu]; trivial, by show bulkD (.obj []) ≤ _; simpa [bulkD, bulkL] using hpos⟩
    | some ty =>
      cases ty
      case bool =>
        obtain ⟨b, rfl, _⟩ := DataW.trod_bool hu h
        exact ⟨.bool b, .mk_bool hu, by unfold Fits; rw [hu]; exact ⟨b, rfl⟩, by simpa [bulkD] using hpos⟩
      case int q =>
        obtain ⟨n, rfl, _, hw⟩ := DataW.trod_int hu h
        exact ⟨.int n, .mk_int hu hw, by unfold Fits; rw [hu]; exact ⟨n, rfl⟩, by simpa [bulkD] using hpos⟩
      case string =>
        obtain ⟨s, rfl, hx, hs⟩ := DataW.trod_string hu h
        refine ⟨.str s, .mk_str hu hs, by unfold Fits; rw [hu]; exact ⟨s, rfl⟩, ?_⟩
        rw [hx]
        simp [bulkD, Rows.uptoBulk]
      case slice e =>
        rcases DataW.trod_slice hu h with ⟨rfl, _⟩ | ⟨a, len, cap, elems, rest, n, hk, rfl, hx, _, hle, hcm, hlen, hel, _⟩
        · exact ⟨.list [], .mk_slice hu rfl (by simp) (by simp [maxLen]) (fun _ => rfl) (Sl.nil _ _ _), by unfold Fits; rw [hu]; exact ⟨[], rfl, fun i hi => by simp at hi⟩, by simpa [bulkD, bulkL] using hpos⟩
        · obtain rfl : n = k := by omega
          have hx2 : ∀ i, i < len → ∃ d, (∃ ys, w.cells? 0 (a.add (i * P.cellsOf e)) (P.cellsOf e) = some ys ∧ Rep P w (fun b => b < w.heap.size) n e ys d) ∧ Fits P n e d ∧ ∀ h : i < elems.length, bulkD d ≤ Rows.uptoBulk (elems[i]'h).1 := fun i hi => by
            have h1 := hel i hi
            rw [List.getElem?_eq_getElem (by omega)] at h1
            obtain ⟨ys, y1, y2⟩ := Option.bind_eq_some_iff.1 h1
            obtain ⟨d, hd, hd2, hd3⟩ := rep_of_trod2 y2
            exact ⟨d, ⟨ys, y1, hd⟩, hd2, fun _ => hd3⟩
          obtain ⟨l, hll, hl⟩ := choose_list hx2
          refine ⟨.list l, .mk_slice hu hll.symm (by omega) hcm (fun h => by cases h) ?_, by unfold Fits; rw [hu]; exact ⟨l, rfl, fun i hi => (hl i (by omega)).2.1⟩, ?_⟩
          · intro h0 hc
            obtain ⟨b, off, spot⟩ := a
            obtain ⟨⟨ys, y1, _⟩, _⟩ := hl 0 (by omega)
            obtain ⟨_, y3, y4⟩ := World.cells?_some y1
            have y5 := y4 0 hc
            rw [List.getElem?_eq_getElem (by omega)] at y5
            have hspot : spot = none := by simpa [Addr.add] using World.cell?_spot y5
            subst hspot
            have hbl : b < w.heap.size := by simpa [Addr.add] using block_lt_of_cell y5
            refine ⟨b, off, rfl, hbl, fun i hi => ?_⟩
            obtain ⟨⟨ys, y1, y2⟩, _⟩ := hl i (by omega)
            obtain ⟨_, y3, y4⟩ := World.cells?_some y1
            refine ⟨ys, y3, fun j u hu => ?_, y2⟩
            have hj : j < P.cellsOf e := by have := (List.getElem?_eq_some_iff.1 hu).1; omega
            have := y4 j hj
            rw [Go.WideShapes.add_plain, Go.WideShapes.add_plain, hu] at this
            exact this
          · have := bulk_lists l elems (by omega) fun i hi => (hl i (by omega)).2.2 hi
            rw [hx]
            simp only [bulkD, Rows.uptoBulk]
            omega
      case struct fs =>
        obtain ⟨xs, n, hk, hx, hcs, hxs, hf⟩ := DataW.trod_struct hu h
        obtain rfl : n = k := by omega
        have hx2 : ∀ j, j < fs.size → ∃ d, (∀ f, fs[j]? = some f → Rep P w (fun b => b < w.heap.size) n f.type ((cs.drop f.offset).take (P.cellsOf f.type)) d ∧ Fits P n f.type d) ∧ ∀ h : j < xs.length, bulkD d ≤ Rows.uptoBulk (xs[j]'h).1 := fun j hj => by
          have h1 := hf j fs[j] (Array.getElem?_eq_getElem hj)
          rw [List.getElem?_eq_getElem (by omega)] at h1
          obtain ⟨d, hd, hd2, hd3⟩ := rep_of_trod2 h1
          refine ⟨d, fun f hf => ?_, fun _ => hd3⟩
          rw [Array.getElem?_eq_getElem hj] at hf
          cases hf; exact ⟨hd, hd2⟩
        obtain ⟨l, hll, hl⟩ := choose_list hx2
        refine ⟨.obj l, .mk_struct hu hcs fun j f hjf => ((hl j (Array.getElem?_eq_some_iff.1 hjf).1).1 f hjf).1, by unfold Fits; rw [hu]; exact ⟨l, rfl, hll, fun j f hjf => ((hl j (Array.getElem?_eq_some_iff.1 hjf).1).1 f hjf).2⟩, ?_⟩
        have := bulk_lists l xs (by omega) fun i hi => (hl i (by omega)).2 hi
        rw [hx]
        simp only [bulkD, Rows.uptoBulk]
        omega
      all_goals exact ⟨default, by unfold Rep; rw [hu]; trivial, by unfold Fits; rw [hu]; trivial, by show bulkD (.obj []) ≤ _; simpa [bulkD, bulkL] using hpos⟩
end Go.Proofs.YtjhjleanihgopaaDoor
namespace Go.Proofs.YtjhjleanihgopaaDoor
open Go.RowKit
attribute [local irreducible] wpList Calls Code.wp AW AWo OpOk seqK blockK scopeK loopK endK endKB AC ACB Yld Sub
def isTn (s : ByteArray) : Bool := s.toList == (⟨#[95, 95, 116, 121, 112, 101, 110, 97, 109, 101]⟩ : ByteArray).toList
def own3 (dl : List D) (x : D) : Int × Bool × Bool := ownV dl (x.f 1).s (x.f 2).s
def pickN (dl : List D) (outer : Int) (x : D) : Int := if !(own3 dl x).2.1 && decide ((x.f 7).l.length = 0) then outer else (own3 dl x).1
def hintsX (f : List D → Int → List (Int × Bool)) (dl : List D) (outer : Int) (x : D) : List (Int × Bool) :=
  if isTn (x.f 2).s then [] else (pickN dl outer x, (own3 dl x).2.2) :: f (x.f 7).l (pickN dl outer x)
def hintsL (dl : List D) : Nat → List D → Int → List (Int × Bool)
  | 0, _, _ => []
  | k + 1, l, outer => (List.range l.length).flatMap fun i => hintsX (hintsL dl k) dl outer (gD l i)
def stepW (st : Bool × Bool × Int) (h : Int × Bool) : Bool × Bool × Int := (st.1 || h.2, true, if !st.2.1 || decide (h.1 < st.2.2) then h.1 else st.2.2)
def foldW (st : Bool × Bool × Int) (hs : List (Int × Bool)) : Bool × Bool × Int := hs.foldl stepW st
def upto (dl : List D) (k : Nat) (l : List D) (outer : Int) (i : Nat) : List (Int × Bool) := (List.range i).flatMap fun i => hintsX (hintsL dl k) dl outer (gD l i)
set_option maxRecDepth 100000 in
theorem upto_succ (dl : List D) (k : Nat) (l : List D) (outer : Int) (i : Nat) : upto dl k l outer (i + 1) = upto dl k l outer i ++ hintsX (hintsL dl k) dl outer (gD l i) := by
  unfold upto
  rw [List.range_succ, List.flatMap_append]
  simp
set_option maxRecDepth 100000 in
theorem i64_in {n : Int} (h : -9223372036854775808 ≤ n ∧ n ≤ 9223372036854775807) : IntKind.i64.min ≤ n ∧ n ≤ IntKind.i64.max := h
set_option maxRecDepth 100000 in
theorem foldW_next (dl : List D) (k : Nat) (l : List D) (outer : Int) (i : Nat) (st : Bool × Bool × Int) : foldW st (upto dl k l outer (i + 1)) = foldW (foldW st (upto dl k l outer i)) (hintsX (hintsL dl k) dl outer (gD l i)) := by
  rw [upto_succ]; unfold foldW; rw [List.foldl_append]
set_option maxRecDepth 100000 in
theorem hintsX_tn {f : List D → Int → List (Int × Bool)} {dl : List D} {outer : Int} {x : D} (h : isTn (x.f 2).s = true) : hintsX f dl outer x = [] := by unfold hintsX; rw [if_pos h]
set_option maxRecDepth 100000 in
theorem hintsX_no {f : List D → Int → List (Int × Bool)} {dl : List D} {outer : Int} {x : D} (h : isTn (x.f 2).s = false) : hintsX f dl outer x = (pickN dl outer x, (own3 dl x).2.2) :: f (x.f 7).l (pickN dl outer x) := by
  unfold hintsX; rw [if_neg (by rw [h]; decide)]
set_option maxRecDepth 100000 in
theorem pickN_leaf {dl : List D} {outer : Int} {x : D} (h : ((!(own3 dl x).2.1) == true) = true) (h2 : (((x.f 7).l.length : Int) == 0) = true) : pickN dl outer x = outer := by
  unfold pickN
  simp at h h2
  simp [h, h2]
set_option maxRecDepth 100000 in
theorem pickN_is {dl : List D} {outer : Int} {x : D} (h : ((!(own3 dl x).2.1) == true) = false) : pickN dl outer x = (own3 dl x).1 := by
  unfold pickN
  simp at h
  simp [h]
set_option maxRecDepth 100000 in
theorem pickN_in {dl : List D} {outer : Int} {x : D} (h2 : (((x.f 7).l.length : Int) == 0) = false) : pickN dl outer x = (own3 dl x).1 := by
  unfold pickN
  simp at h2
  simp [h2]
set_option maxRecDepth 100000 in
theorem stW_new {h : Bool} {b n : Int} {p : Bool} : stepW (h, false, b) (n, p) = (h || p, true, n) := rfl
set_option maxRecDepth 100000 in
theorem stW_lt {h : Bool} {b n : Int} {p : Bool} (hd : decide (n < b) = true) : stepW (h, true, b) (n, p) = (h || p, true, n) := by unfold stepW; simp only [hd]; rfl
set_option maxRecDepth 100000 in
theorem stW_ge {h : Bool} {b n : Int} {p : Bool} (hd : decide (n < b) = false) : stepW (h, true, b) (n, p) = (h || p, true, b) := by unfold stepW; simp only [hd]; rfl
set_option maxRecDepth 100000 in
theorem pick_fits {k : Nat} {x : D} (h : Fits Tryd.prog (k + 1) 63 x) : ∀ i, i < (x.f 7).l.length → Fits Tryd.prog k 63 (gD (x.f 7).l i) := by
  unfold Fits at h
  rw [Tryd.underlying63] at h
  obtain ⟨l, rfl, hl, hf⟩ := h
  have h7 : Fits Tryd.prog k 25 (gD l 7) := hf 7 _ rfl
  cases k with
  | zero => exact h7.elim
  | succ k =>
    unfold Fits at h7
    obtain ⟨l2, e, h8⟩ : ∃ l2, gD l 7 = .list l2 ∧ ∀ i, i < l2.length → Fits Tryd.prog k 63 (gD l2 i) := by
      rw [Tryd.underlying25] at h7
      exact h7
    have e2 : ((D.obj l).f 7).l = l2 := by show (gD l 7).l = l2; rw [e]; rfl
    rw [e2]
    exact fun i hi => (h8 i hi).up
def walkA : List V := [.bx (pn 0) 0, .bx (pn 1) 0, .bx (pn 2) 0, .bx (pn 3) 0, .bx (pn 4) 0]
noncomputable def walkB (d : D) (h s : Bool) (b : Int) : List Res :=
  [.box 24 (cellsV Tryd.prog 12 24 d), .box 4 [.c (.bool h)], .box 4 [.c (.bool s)], .box 3 [.c (.int .i64 b)],
    .box 68 [.clo 28 walkA]]
noncomputable def HW (d : D) (l : List D) (outer : Int) (st : Bool × Bool × Int) (i : Nat) : Vst 60 :=
  stS 60 [(1, .c (.int .i64 outer)), (2, .bx (pn 0) 0), (3, .bx (pn 1) 0), (4, .bx (pn 2) 0), (5, .bx (pn 3) 0), (6, .bx (pn 4) 0), (14, .sl 63 l), (15, .c (.int .i64 l.length)), (16, .c (.int .i64 i))]
    [(pn 0, .box 24 (cellsV Tryd.prog 12 24 d)), (pn 1, .box 4 [.c (.bool st.1)]), (pn 2, .box 4 [.c (.bool st.2.1)]), (pn 3, .box 3 [.c (.int .i64 st.2.2)]), (pn 4, .box 68 [.clo 28 walkA])]
set_option maxRecDepth 100000 in
theorem s_walk {X : Cx} {nn : Nat} {st : Vst nn} {o : Oper} {ops : Array Oper} {l : List Oper} {dst : Option Tmp} {KK : Vst nn → Prop} {vs : List V} {l2 : List D} {n b b' : Int} {h s h' s' : Bool} {d : D} (hX : X.P = Tryd.prog) (hE : X.e = EN5) (hg : o.guard = none) (hd : o.dst = dst)
    (ha : act1 X.P st.rs (ev st) o.op = .call 28 vs) (hv : vs = [.sl 63 l2, .c (.int .i64 n), .bx (pn 0) 0, .bx (pn 1) 0, .bx (pn 2) 0, .bx (pn 3) 0, .bx (pn 4) 0]) (r0 : st.rs (pn 0) = some (.box 24 (cellsV Tryd.prog 12 24 d))) (r1 : st.rs (pn 1) = some (.box 4 [.c (.bool h)])) (r2 : st.rs (pn 2) = some (.box 4 [.c (.bool s)])) (r3 : st.rs (pn 3) = some (.box 3 [.c (.int .i64 b)]))
    (r4 : st.rs (pn 4) = some (.box 68 [.clo 28 walkA])) (hc : ACB EN5 Tryd.prog 28 ([.sl 63 l2, .c (.int .i64 n)] ++ walkA) (walkB d h s b) (.tup []) (walkB d h' s' b'))
    (hK : AWo X ops l ((st.resN [pn 0, pn 1, pn 2, pn 3, pn 4] (walkB d h' s' b')).put dst (.tup [])) KK) : AWo X ops (o :: l) st KK := by
  subst hv
  rw [← hX, ← hE] at hc
  refine s_callB [pn 0, pn 1, pn 2, pn 3, pn 4] hg hd ha hc (by decide) rfl ?_ ?_
  · simp only [List.map_cons, List.map_nil, r0, r1, r2, r3, r4, Option.map_some, walkB]
    rfl
  · exact hK
set_option maxHeartbeats 4000000 in
set_option maxRecDepth 100000 in
theorem walk_core (d : D) (k : Nat) (l : List D) (outer : Int) (h0 s0 : Bool) (b0 : Int) (hn : l.length ≤ 100000000)
    (ih : ∀ i, i < l.length → ∀ (outer : Int) (h s : Bool) (b : Int), ACB EN5 Tryd.prog 28 ([.sl 63 ((gD l i).f 7).l, .c (.int .i64 outer)] ++ walkA) (walkB d h s b) (.tup []) (walkB d (foldW (h, s, b) (hintsL (d.f 0).l k ((gD l i).f 7).l outer)).1 (foldW (h, s, b) (hintsL (d.f 0).l k ((gD l i).f 7).l outer)).2.1 (foldW (h, s, b) (hintsL (d.f 0).l k ((gD l i).f 7).l outer)).2.2)) :
    ACB EN5 Tryd.prog 28 ([.sl 63 l, .c (.int .i64 outer)] ++ walkA) (walkB d h0 s0 b0) (.tup []) (walkB d (foldW (h0, s0, b0) (upto (d.f 0).l k l outer l.length)).1 (foldW (h0, s0, b0) (upto (d.f 0).l k l outer l.length)).2.1 (foldW (h0, s0, b0) (upto (d.f 0).l k l outer l.length)).2.2) := by
  have ho := own_ac d
  refine acb_enter (fn := Tryd.f28) 60 Tryd.func28 rfl rfl ?_
  intro pas s w he hp
  repeat' (first
    | refine aw_seq ?_
    | refine aw_region ?_
    | refine awo_nil ?_
    | refine k_seq ?_
    | refine k_block ?_
    | refine k_scope ?_
    | refine aw_block ?_
    | refine aw_skip ?_
    | refine aw_label ?_
    | refine aw_scope ?_
    | (apply s_pick_t rfl rfl
       · conv => lhs; whnf
       · conv => lhs; whnf
       · first | exact bT1 (by assumption) | exact bT2 (by assumption))
    | (apply s_pick_f rfl rfl
       · conv => lhs; whnf
       · conv => lhs; whnf
       · first | exact bF1 (by assumption) | exact bF2 (by assumption))
    | (apply s_val rfl
       · conv => lhs; whnf
       · conv => lhs; whnf; arg 2; whnf)
    | (apply s_call rfl
       · conv => lhs; whnf
       · conv => lhs; whnf
       · first | fail)
    | (apply s_alloc rfl rfl rfl rfl
       · conv => lhs; whnf; arg 1; whnf
       · rfl)
    | (apply s_store rfl rfl rfl
       · conv => lhs; whnf
       · conv => lhs; whnf; arg 1; whnf
       · conv => lhs; whnf; arg 1; whnf
       · exact ⟨by kernel_rfl, by kernel_rfl⟩
       · rfl)
    | (apply s_wanted_val rfl
       · conv => lhs; whnf
       · conv => lhs; whnf
       · first | rfl | assumption
       · conv => lhs; whnf; arg 2; whnf)
    | (apply s_wanted_call rfl
       · conv => lhs; whnf
       · conv => lhs; whnf
       · first | rfl | assumption
       · conv => lhs; whnf
       · first | fail)
    | (apply s_skip rfl
       · conv => lhs; whnf
       · conv => lhs; whnf
       · first | rfl | assumption)
    | (apply s_guard_val rfl
       · conv => lhs; whnf
       · conv => lhs; whnf
       · conv => lhs; whnf; arg 2; whnf)
    | (apply s_guard_call rfl
       · conv => lhs; whnf
       · conv => lhs; whnf
       · conv => lhs; whnf
       · first | fail)
    | (apply aw_cond_t
       · conv => lhs; whnf; arg 1; arg 1; whnf)
    | (apply aw_cond_f
       · conv => lhs; whnf; arg 1; arg 1; whnf)
    | (refine aw_cond (by conv => lhs; whnf) ?_ ?_ <;> intro hb)
    | refine aw_ret ?_
    | refine aw_exit ?_
    | refine k_seq_exit ?_
    | refine k_seq_ret ?_
    | refine k_block_ret ?_
    | refine k_block_hit rfl ?_
    | refine k_block_miss rfl ?_
    | refine k_scope_exit ?_
    | refine k_scope_ret ?_
    | refine k_loop_exit ?_
    | refine k_loop_ret ?_
    | refine k_endB ⟨?_, ?_⟩
    | refine k_endB_ret ⟨?_, ?_⟩
    | exact (rfl : _ = V.tup [])
    | (refine ⟨_, by conv => lhs; whnf; arg 2; whnf, ?_⟩; conv => rhs; whnf)
    | exact trivial
    | intro hg)
  refine aw_loop (fun j st => ∃ i, i + j = l.length ∧ Sub ⟨Tryd.prog, pas, s, w, EN5, he, hp⟩ st (HW d l outer (foldW (h0, s0, b0) (upto (d.f 0).l k l outer i)) i)) l.length ⟨0, by omega, ?_⟩ ?_
  · exact Sub.live ⟨rfl, rfl, rfl, rfl, rfl, rfl, rfl, rfl, rfl, trivial⟩ ⟨rfl, rfl, rfl, rfl, rfl, trivial⟩
  · rintro j st ⟨i, hij, hs2⟩
    refine aw_sub hs2 ?_
    clear hs2
    have ih2 := fun (h : decide ((i : Int) < (l.length : Int)) = true) => ih i (by simpa using h)
    generalize hF : foldW (h0, s0, b0) (upto (d.f 0).l k l outer i) = F
    obtain ⟨h1, s1, b1⟩ := F
    repeat' (first
    | (apply s_walk rfl rfl rfl rfl
       · conv => lhs; whnf
       · rfl
       · rfl
       · rfl
       · rfl
       · rfl
       · rfl
       · exact ih2 (by assumption) _ _ _ _)
    | refine aw_seq ?_
    | refine aw_region ?_
    | refine awo_nil ?_
    | refine k_seq ?_
    | refine k_block ?_
    | refine k_scope ?_
    | refine aw_block ?_
    | refine aw_skip ?_
    | refine aw_label ?_
    | refine aw_scope ?_
    | (apply s_pick_t rfl rfl
       · conv => lhs; whnf
       · conv => lhs; whnf
       · first | exact bT1 (by assumption) | exact bT2 (by assumption))
    | (apply s_pick_f rfl rfl
       · conv => lhs; whnf
       · conv => lhs; whnf
       · first | exact bF1 (by assumption) | exact bF2 (by assumption))
    | (apply s_val rfl
       · conv => lhs; whnf
       · conv => lhs; whnf; arg 2; whnf)
    | (apply s_call rfl
       · conv => lhs; whnf
       · conv => lhs; whnf
       · first | exact ho _ _)
    | (apply s_alloc rfl rfl rfl rfl
       · conv => lhs; whnf; arg 1; whnf
       · rfl)
    | (apply s_store rfl rfl rfl
       · conv => lhs; whnf
       · conv => lhs; whnf; arg 1; whnf
       · conv => lhs; whnf; arg 1; whnf
       · exact ⟨by kernel_rfl, by kernel_rfl⟩
       · rfl)
    | (apply s_wanted_val rfl
       · conv => lhs; whnf
       · conv => lhs; whnf
       · first | rfl | assumption
       · conv => lhs; whnf; arg 2; whnf)
    | (apply s_wanted_call rfl
       · conv => lhs; whnf
       · conv => lhs; whnf
       · first | rfl | assumption
       · conv => lhs; whnf
       · first | exact ho _ _)
    | (apply s_skip rfl
       · conv => lhs; whnf
       · conv => lhs; whnf
       · first | rfl | assumption)
    | (apply s_guard_val rfl
       · conv => lhs; whnf
       · conv => lhs; whnf
       · conv => lhs; whnf; arg 2; whnf)
    | (apply s_guard_call rfl
       · conv => lhs; whnf
       · conv => lhs; whnf
       · conv => lhs; whnf
       · first | exact ho _ _)
    | (apply aw_cond_t
       · conv => lhs; whnf; arg 1; arg 1; whnf)
    | (apply aw_cond_f
       · conv => lhs; whnf; arg 1; arg 1; whnf)
    | (refine aw_cond (by conv => lhs; whnf) ?_ ?_ <;> intro hb)
    | refine aw_ret ?_
    | refine aw_exit ?_
    | refine k_seq_exit ?_
    | refine k_seq_ret ?_
    | refine k_block_ret ?_
    | refine k_block_hit rfl ?_
    | refine k_block_miss rfl ?_
    | refine k_scope_exit ?_
    | refine k_scope_ret ?_
    | refine k_loop_exit ?_
    | refine k_loop_ret ?_
    | refine k_endB ⟨?_, ?_⟩
    | refine k_endB_ret ⟨?_, ?_⟩
    | exact (rfl : _ = V.tup [])
    | (refine ⟨_, by conv => lhs; whnf; arg 2; whnf, ?_⟩; conv => rhs; whnf)
    | exact trivial
    | intro hg)
    all_goals try (exact i64_in (by omega))
    all_goals try (exact (⟨by omega, by have h : decide ((i : Int) < (l.length : Int)) = true := by assumption
                                        simp at h; omega⟩ : 0 ≤ (i : Int) ∧ (i : Int) < (l.length : Int)))
    · have ht : isTn ((gD l i).f 2).s = true := by assumption
      have hs := foldW_next (d.f 0).l k l outer i (h0, s0, b0)
      rw [hF, hintsX_tn ht] at hs
      have hs : foldW (h0, s0, b0) (upto (d.f 0).l k l outer (i + 1)) = (h1, s1, b1) := hs
      have hlt : i < l.length := by have h : decide ((i : Int) < (l.length : Int)) = true := by assumption
                                    simpa using h
      refine k_loop_next (j' := j - 1) (by omega) ⟨i + 1, by omega, Sub.live ⟨rfl, rfl, rfl, rfl, rfl, rfl, rfl, rfl, rfl, trivial⟩ ?_⟩
      rw [hs]
      exact ⟨rfl, rfl, rfl, rfl, rfl, trivial⟩
    rotate_right 1
    · have e : i = l.length := by have h : decide ((i : Int) < (l.length : Int)) = false := by assumption
                                  simp at h; omega
      subst e
      rw [hF]
      exact ⟨rfl, rfl, rfl, rfl, rfl, trivial⟩
    all_goals (cases h1 <;> cases s1)
    all_goals try (exfalso; clear ih ih2 hF ho; simp_all; done)
    all_goals
      have ht : isTn ((gD l i).f 2).s = false := by assumption
      have hs := foldW_next (d.f 0).l k l outer i (h0, s0, b0)
      rw [hF, hintsX_no ht] at hs
      have hlt : i < l.length := by have h : decide ((i : Int) < (l.length : Int)) = true := by assumption
                                    simpa using h
      first
        | rw [pickN_leaf (by assumption) (by assumption)] at hs
        | rw [pickN_in (by assumption)] at hs
        | rw [pickN_is (by assumption)] at hs
      unfold foldW at hs
      rw [List.foldl_cons] at hs
      first
        | rw [stW_new] at hs
        | rw [stW_lt (by assumption)] at hs
        | rw [stW_ge (by assumption)] at hs
      refine k_loop_next (j' := j - 1) (by omega) ⟨i + 1, by omega, Sub.live ⟨rfl, rfl, rfl, rfl, rfl, rfl, rfl, rfl, rfl, trivial⟩ ?_⟩
      unfold foldW
      rw [hs]
      first
        | exact ⟨rfl, rfl, rfl, rfl, rfl, trivial⟩
end Go.Proofs.YtjhjleanihgopaaDoor
namespace Go.Proofs.YtjhjleanihgopaaDoor
open Go.RowKit
attribute [local irreducible] wpList Calls Code.wp AW AWo OpOk seqK blockK scopeK loopK endK endKB AC ACB Yld Sub
set_option maxRecDepth 100000 in
theorem bulkL_len (l : List D) : l.length ≤ bulkL l := by
  induction l with
  | nil => simp [bulkL]
  | cons d r ih =>
    have : 1 ≤ bulkD d := by cases d <;> simp [bulkD]
    simp only [bulkL, List.length_cons]; omega
set_option maxRecDepth 100000 in
theorem bulk_at : ∀ {l : List D} {i : Nat}, i < l.length → bulkD (gD l i) ≤ bulkL l
  | [], i, h => by simp at h
  | d :: r, 0, _ => by show bulkD d ≤ bulkD d + bulkL r; omega
  | d :: r, i + 1, h => by
    have := bulk_at (l := r) (i := i) (by simpa using h)
    show bulkD (gD r i) ≤ bulkD d + bulkL r
    omega
set_option maxRecDepth 100000 in
theorem pick_bulk {k : Nat} {x : D} (h : Fits Tryd.prog (k + 1) 63 x) : bulkL (x.f 7).l ≤ bulkD x := by
  unfold Fits at h
  rw [Tryd.underlying63] at h
  obtain ⟨l, rfl, hl, hf⟩ := h
  have h7 : Fits Tryd.prog k 25 (gD l 7) := hf 7 _ rfl
  have hl7 : 7 < l.length := by rw [hl]; decide
  have hb := bulk_at hl7
  cases k with
  | zero => exact h7.elim
  | succ k =>
    unfold Fits at h7
    rw [Tryd.underlying25] at h7
    obtain ⟨l2, e, -⟩ := h7
    have e2 : ((D.obj l).f 7).l = l2 := by show (gD l 7).l = l2; rw [e]; rfl
    rw [e2]
    rw [e] at hb
    have e3 : bulkD (D.list l2) = bulkL l2 + 1 := by simp [bulkD]
    have e4 : bulkD (D.obj l) = bulkL l + 1 := by simp [bulkD]
    omega
set_option maxRecDepth 100000 in
theorem hints_upto (dl : List D) (k : Nat) (l : List D) (outer : Int) : hintsL dl (k + 1) l outer = upto dl k l outer l.length := rfl
set_option maxRecDepth 100000 in
theorem walk_acb (d : D) : ∀ (k : Nat) (l : List D) (outer : Int) (h s : Bool) (b : Int), (∀ i, i < l.length → Fits Tryd.prog k 63 (gD l i)) → bulkL l ≤ 100000000 →
    ACB EN5 Tryd.prog 28 ([.sl 63 l, .c (.int .i64 outer)] ++ walkA) (walkB d h s b) (.tup []) (walkB d (foldW (h, s, b) (hintsL (d.f 0).l k l outer)).1 (foldW (h, s, b) (hintsL (d.f 0).l k l outer)).2.1 (foldW (h, s, b) (hintsL (d.f 0).l k l outer)).2.2)
  | 0, l, outer, h, s, b, hf, hb => by
    have e : l = [] := by
      cases l with
      | nil => rfl
      | cons x r => exact (hf 0 (Nat.succ_pos _)).elim
    subst e
    exact walk_core d 0 [] outer h s b (by simp) fun i hi => absurd hi (Nat.not_lt_zero _)
  | k + 1, l, outer, h, s, b, hf, hb => by
    rw [hints_upto]
    have hl := bulkL_len l
    exact walk_core d k l outer h s b (by omega) fun i hi outer h s b => walk_acb d k _ outer h s b (pick_fits (hf i hi)) (by have := bulk_at hi; have := pick_bulk (hf i hi); omega)
set_option maxRecDepth 100000 in
theorem s_walk0 {X : Cx} {nn : Nat} {st : Vst nn} {o : Oper} {ops : Array Oper} {l : List Oper} {dst : Option Tmp} {KK : Vst nn → Prop} {vs : List V} {l2 : List D} {n b b' : Int} {h s h' s' : Bool} {d : D} (hX : X.P = Tryd.prog) (hE : X.e = EN5) (hg : o.guard = none) (hd : o.dst = dst)
    (ha : act1 X.P st.rs (ev st) o.op = .call 28 vs) (hv : vs = [.sl 63 l2, .c (.int .i64 n), .bx 2 0, .bx 7 0, .bx 6 0, .bx 5 0, .bx 8 0]) (r0 : st.rs 2 = some (.box 24 (cellsV Tryd.prog 12 24 d))) (r1 : st.rs 7 = some (.box 4 [.c (.bool h)])) (r2 : st.rs 6 = some (.box 4 [.c (.bool s)])) (r3 : st.rs 5 = some (.box 3 [.c (.int .i64 b)]))
    (r4 : st.rs 8 = some (.box 68 [.clo 28 [.bx 2 0, .bx 7 0, .bx 6 0, .bx 5 0, .bx 8 0]])) (hc : ACB EN5 Tryd.prog 28 ([.sl 63 l2, .c (.int .i64 n)] ++ walkA) (walkB d h s b) (.tup []) (walkB d h' s' b'))
    (hK : AWo X ops l ((st.resN [2, 7, 6, 5, 8] ((walkB d h' s' b').map (renR (φout [2, 7, 6, 5, 8])))).put dst (.tup [])) KK) : AWo X ops (o :: l) st KK := by
  subst hv
  rw [← hX, ← hE] at hc
  refine s_callB [2, 7, 6, 5, 8] hg hd ha hc (by decide) rfl ?_ hK
  simp only [List.map_cons, List.map_nil, r0, r1, r2, r3, r4, Option.map_some, walkB]
  rfl
def ofV (dl : List D) (K : Nat) (p : D) : Int × Bool :=
  if ((p.f 0).n != 1) = true then (0, false) else ((foldW (false, false, 0) (hintsL dl K (p.f 1).l 0)).2.2, (foldW (false, false, 0) (hintsL dl K (p.f 1).l 0)).1)
set_option maxRecDepth 100000 in
theorem of_ac (d p : D) (K : Nat) (hf : ∀ i, i < (p.f 1).l.length → Fits Tryd.prog K 63 (gD (p.f 1).l i)) (hb0 : bulkL (p.f 1).l ≤ 100000000) :
    AC EN5 Tryd.prog 13 [.agg (cellsV Tryd.prog 12 24 d), .agg (cellsV Tryd.prog 12 27 p)] (.agg [.c (.int .i64 (ofV (d.f 0).l K p).1), .c (.bool (ofV (d.f 0).l K p).2)]) := by
  have hw := walk_acb d K (p.f 1).l 0 false false 0 hf hb0
  refine ac_enter 21 Tryd.func13 rfl rfl rfl rfl ?_
  intro s w he
  repeat' (first
    | (apply s_walk0 rfl rfl rfl rfl
       · conv => lhs; whnf
       · rfl
       · rfl
       · rfl
       · rfl
       · rfl
       · rfl
       · exact hw)
    | refine aw_seq ?_
    | refine aw_region ?_
    | refine awo_nil ?_
    | refine k_seq ?_
    | refine k_block ?_
    | refine k_scope ?_
    | refine aw_block ?_
    | refine aw_skip ?_
    | refine aw_label ?_
    | refine aw_scope ?_
    | (apply s_val rfl
       · conv => lhs; whnf
       · conv => lhs; whnf; arg 2; whnf)
    | (apply s_call rfl
       · conv => lhs; whnf
       · conv => lhs; whnf
       · first | fail)
    | (apply s_box rfl rfl rfl rfl
       · conv => lhs; whnf; arg 1; whnf
       · rfl)
    | (apply s_alloc rfl rfl rfl rfl
       · conv => lhs; whnf; arg 1; whnf
       · rfl)
    | (apply s_store rfl rfl rfl
       · conv => lhs; whnf
       · conv => lhs; whnf; arg 1; whnf
       · conv => lhs; whnf; arg 1; whnf
       · exact ⟨by kernel_rfl, by kernel_rfl⟩
       · rfl)
    | (apply aw_cond_t
       · conv => lhs; whnf; arg 1; arg 1; whnf)
    | (apply aw_cond_f
       · conv => lhs; whnf; arg 1; arg 1; whnf)
    | (refine aw_cond (by conv => lhs; whnf) ?_ ?_ <;> intro hb)
    | refine aw_ret ?_
    | refine aw_exit ?_
    | refine k_seq_exit ?_
    | refine k_seq_ret ?_
    | refine k_block_ret ?_
    | refine k_block_hit rfl ?_
    | refine k_block_miss rfl ?_
    | refine k_scope_exit ?_
    | refine k_scope_ret ?_
    | refine k_loop_exit ?_
    | refine k_loop_ret ?_
    | refine k_end ?_
    | refine k_end_ret ?_
    | (refine ⟨_, by conv => lhs; whnf; arg 2; whnf, ?_⟩; conv => rhs; whnf)
    | exact trivial
    | intro hg)
  · have e : ofV (d.f 0).l K p = (0, false) := by unfold ofV; rw [if_pos hb]
    rw [e]; rfl
  · have e : ofV (d.f 0).l K p = ((foldW (false, false, 0) (hintsL (d.f 0).l K (p.f 1).l 0)).2.2, (foldW (false, false, 0) (hintsL (d.f 0).l K (p.f 1).l 0)).1) := by unfold ofV; rw [if_neg (by rw [hb]; decide)]
    rw [e]; rfl
end Go.Proofs.YtjhjleanihgopaaDoor
namespace Go.Proofs.YtjhjleanihgopaaDoor
open Go.RowKit
attribute [local irreducible] wpList Calls Code.wp AW AWo OpOk seqK blockK scopeK loopK endK endKB AC ACB Yld Sub
set_option maxRecDepth 100000 in
theorem own_fst (dl : List D) (x : D) : (own3 dl x).1 = (fieldV dl (x.f 1).s (x.f 2).s).1 := by rw [← own_field]; rfl
set_option maxRecDepth 100000 in
theorem own_sec (dl : List D) (x : D) : (own3 dl x).2.2 = (fieldV dl (x.f 1).s (x.f 2).s).2 := by rw [← own_field]; rfl
end Go.Proofs.YtjhjleanihgopaaDoor
namespace Go.Proofs.YtjhjleanihgopaaDoor
open Go.RowKit
attribute [local irreducible] wpList Calls Code.wp AW AWo OpOk seqK blockK scopeK loopK endK endKB AC ACB Yld Sub
def ACP (e : Ge) (P : Program) (f : FuncId) (args : List V) (R : V → Prop) : Prop :=
  ∀ (s : Sg) (w : World) (us : Array Value), relL P s w args us.toList → (∀ b o, s.F b o → (w.cell? ⟨b, o, none⟩).isSome) → e.E w →
    Calls P f us w fun en w' => ∃ v F' r, en = .returned v ∧ Frm (fun _ => False) w w' ∧ Keeps s.F F' w w' ∧ (∀ b o, F' b o → (w'.cell? ⟨b, o, none⟩).isSome) ∧ (∀ b o, b < w.heap.size → F' b o → s.F b o) ∧ R r ∧ rel P { s with F := F' } w' r v
section
variable {X : Cx} {nn : Nat} {st : Vst nn} {o : Oper} {K : Vst nn → Prop} {ops : Array Oper} {l : List Oper} {d : Option Tmp} {KK : Vst nn → Prop}
set_option maxRecDepth 100000 in
theorem opOk_callP {f : FuncId} {args : List V} {R : V → Prop} (h : act1 X.P st.rs (ev st) o.op = .call f args) (hc : ACP X.e X.P f (outL args) R) (hK : ∀ r, R r → K (st.put o.dst r)) : OpOk X o st K := by
  unfold OpOk
  intro s w a hI N Q hN
  obtain ⟨us, h1, h2⟩ := call1_ok h hI.ev (fun _ => rfl)
  unfold Oper.wp
  rw [h1, Oper.upon_enter]
  refine (hc s w us (relL.out _ _ h2) hI.mem.fx hI.en).mono ?_
  rintro e w' ⟨v, F', r, rfl, hfr, hk, hfx, hnf, hR, hr⟩
  have hm := hI.mem.after (s' := { s with F := F' }) hfr hk rfl rfl rfl hfx hnf
  refine hN _ _ _ _ ((hI.go hm.1 hm.2 ⟨hfr.os, hfr.tape, hfr.output, hfr.size, fun k hk _ => hfr.block k hk (fun h => h)⟩ fun b o hb _ hF => hnf b o (Nat.lt_of_lt_of_le hb hI.base) hF).put o.dst hr) (hK r hR)
set_option maxRecDepth 100000 in
theorem s_callP {f : FuncId} {args : List V} {R : V → Prop} (hg : o.guard = none) (hd : o.dst = d) (h : act1 X.P st.rs (ev st) o.op = .call f args) (hc : ACP X.e X.P f (outL args) R) (hK : ∀ r, R r → AWo X ops l (st.put d r) KK) : AWo X ops (o :: l) st KK :=
  awo_cons hg (opOk_callP h hc fun r hr => by rw [hd]; exact hK r hr)
set_option maxRecDepth 100000 in
theorem s_guard_callP {j : Nat} {want b : Bool} {f : FuncId} {args : List V} {R : V → Prop} (hg : o.guard = some (j, want)) (hd : o.dst = d) (hb : gval ops st j = some b) (h : act1 X.P st.rs (ev st) o.op = .call f args) (hc : ACP X.e X.P f (outL args) R) (hK : (b == want) = true → ∀ r, R r → AWo X ops l (st.put d r) KK)
    (hN : (b == want) = false → AWo X ops l (st.put d .any) KK) : AWo X ops (o :: l) st KK := by
  cases e : b == want
  · exact s_skip hg hd hb e (hN e)
  · exact awo_guard hg hb (fun _ => opOk_callP h hc fun r hr => by rw [hd]; exact hK e r hr) fun q => (q (by simpa using e)).elim
end
/-- some bool comes back -/
def RB (r : V) : Prop := ∃ b : Bool, r = .c (.bool b) ∧ True
set_option maxRecDepth 100000 in
theorem acP_of5 {f : FuncId} {args : List V} (h : ∀ s w us, relL Tryd.prog s w args us.toList → Env w → Calls Tryd.prog f us w fun e w' => ∃ b, e = .returned (.bool b) ∧ Below w.heap.size w w') : ACP EN5 Tryd.prog f args RB := by
  unfold ACP
  intro s w us hus hfx he
  refine (h s w us hus he).mono ?_
  rintro e w' ⟨r, rfl, hb⟩
  have hc : ∀ b o, s.F b o → w'.cell? ⟨b, o, none⟩ = w.cell? ⟨b, o, none⟩ := fun b o hF => by
    obtain ⟨x, hx⟩ := Option.isSome_iff_exists.1 (hfx b o hF)
    exact hb.cell (p := ⟨b, o, none⟩) (block_lt_of_cell hx)
  exact ⟨.bool r, s.F, .c (.bool r), rfl, Frm.of_below hb, fun b o hF => ⟨hc b o hF, hF⟩, fun b o hF => by rw [hc b o hF]; exact hfx b o hF, fun _ _ _ h => h, ⟨r, rfl, trivial⟩, rel_bool⟩
set_option maxRecDepth 100000 in
theorem large10_acp (d : D) : ACP EN5 Tryd.prog 10 [.agg (cellsV Tryd.prog 12 24 d)] RB :=
  acP_of5 fun s w us hus _ => by
    obtain ⟨u, rfl, h1⟩ : ∃ u, us = #[u] ∧ rel Tryd.prog s w (.agg (cellsV Tryd.prog 12 24 d)) u := by
      cases hl : us.toList with
      | nil => rw [hl] at hus; simp [relL] at hus
      | cons x xs =>
        rw [hl, relL] at hus
        cases xs with
        | nil => exact ⟨x, by apply Array.ext'; simpa using hl, hus.1⟩
        | cons y ys => simp [relL] at hus
    rw [rel] at h1
    obtain ⟨cs, rfl, h1⟩ := h1
    obtain ⟨k, hk⟩ := cells_back 12 24 _ _ (by kernel_rfl) h1
    obtain ⟨A, c, e, h2, h3, -, h4⟩ := in24 ⟨k, hk.rep⟩
    rw [e]
    exact largeR A _ c w w (Below.refl _ _) h4 h2 h3
set_option maxRecDepth 100000 in
theorem exam_ac : AC EN5 Tryd.prog 12 [] (.c (.bool true)) :=
  ac_of5 (u := .bool true) fun s w us hus he => by
    have e : us = #[] := by
      cases hl : us.toList with
      | nil => apply Array.ext'; simpa using hl
      | cons x xs => rw [hl] at hus; simp [relL] at hus
    subst e
    exact ⟨fun _ _ => rel_bool, exam44 w he⟩
end Go.Proofs.YtjhjleanihgopaaDoor
namespace Go.Proofs.YtjhjleanihgopaaDoor
open Go.RowKit
attribute [local irreducible] wpList Calls Code.wp AW AWo OpOk seqK blockK scopeK loopK endK endKB AC ACB Yld Sub
def largeX (f : List D → Bool) (x : D) : Bool := decide (((x.f 7).l.length : Int) > 0) && f (x.f 7).l
def largeV : Nat → List D → Int → Bool
  | 0, l, lv => decide (lv ≤ 0) || decide ((l.length : Int) > 60)
  | k + 1, l, lv => decide (lv ≤ 0) || decide ((l.length : Int) > 60) || (List.range l.length).any fun i => largeX (fun l => largeV k l (lv - 1)) (gD l i)
noncomputable def HLa (l : List D) (lv : Int) (i : Nat) : Vst 36 := stS 36 [(0, .sl 63 l), (1, .c (.int .i64 lv)), (5, .c (.int .i64 i))] []
set_option maxRecDepth 100000 in
theorem large_core (f : List D → Bool) (l : List D) (lv : Int) (hl : R64 lv) (ih : ∀ i, i < l.length → 0 < lv → AC EN5 Tryd.prog 11 [.sl 63 ((gD l i).f 7).l, .c (.int .i64 (lv - 1))] (.c (.bool (f ((gD l i).f 7).l)))) :
    AC EN5 Tryd.prog 11 [.sl 63 l, .c (.int .i64 lv)] (.c (.bool (decide (lv ≤ 0) || decide ((l.length : Int) > 60) || (List.range l.length).any fun i => largeX f (gD l i)))) := by
  refine ac_enter 36 Tryd.func11 rfl rfl rfl rfl ?_
  intro s w he
  repeat' (first
    | refine aw_seq ?_
    | refine aw_region ?_
    | refine awo_nil ?_
    | refine k_seq ?_
    | refine k_block ?_
    | refine k_scope ?_
    | refine aw_block ?_
    | refine aw_skip ?_
    | refine aw_label ?_
    | refine aw_scope ?_
    | (apply s_pick_t rfl rfl
       · conv => lhs; whnf
       · conv => lhs; whnf
       · first | exact bT1 (by assumption) | exact bT2 (by assumption))
    | (apply s_pick_f rfl rfl
       · conv => lhs; whnf
       · conv => lhs; whnf
       · first | exact bF1 (by assumption) | exact bF2 (by assumption))
    | (apply s_val rfl
       · conv => lhs; whnf
       · conv => lhs; whnf; arg 2; whnf)
    | (apply s_call rfl
       · conv => lhs; whnf
       · conv => lhs; whnf
       · first | fail)
    | (apply s_wanted_val rfl
       · conv => lhs; whnf
       · conv => lhs; whnf
       · first | rfl | assumption
       · conv => lhs; whnf; arg 2; whnf)
    | (apply s_wanted_call rfl
       · conv => lhs; whnf
       · conv => lhs; whnf
       · first | rfl | assumption
       · conv => lhs; whnf
       · first | fail)
    | (apply s_skip rfl
       · conv => lhs; whnf
       · conv => lhs; whnf
       · first | rfl | assumption)
    | (apply s_guard_val rfl
       · conv => lhs; whnf
       · conv => lhs; whnf
       · conv => lhs; whnf; arg 2; whnf)
    | (apply s_guard_call rfl
       · conv => lhs; whnf
       · conv => lhs; whnf
       · conv => lhs; whnf
       · first | fail)
    | (apply aw_cond_t
       · conv => lhs; whnf; arg 1; arg 1; whnf)
    | (apply aw_cond_f
       · conv => lhs; whnf; arg 1; arg 1; whnf)
    | (refine aw_cond (by conv => lhs; whnf) ?_ ?_ <;> intro hb)
    | refine aw_ret ?_
    | refine aw_exit ?_
    | refine k_seq_exit ?_
    | refine k_seq_ret ?_
    | refine k_block_ret ?_
    | refine k_block_hit rfl ?_
    | refine k_block_miss rfl ?_
    | refine k_scope_exit ?_
    | refine k_scope_ret ?_
    | refine k_loop_exit ?_
    | refine k_loop_ret ?_
    | refine k_end ?_
    | refine k_end_ret ?_
    | (refine ⟨_, by conv => lhs; whnf; arg 2; whnf, ?_⟩; conv => rhs; whnf)
    | exact trivial
    | intro hg)
  · have h1 : decide ((l.length : Int) > 60) = true := by assumption
    rw [h1, Bool.or_true, Bool.true_or]
  · have h0 : decide (lv ≤ 0) = false := by have h : (decide (lv ≤ 0) == false) = true := by assumption
                                            simpa using h
    have h1 : decide ((l.length : Int) > 60) = false := by assumption
    have hpos : 0 < lv := by simp at h0; omega
    have hl60 : l.length ≤ 60 := by simp at h1; omega
    rw [h0, h1, Bool.false_or, Bool.false_or]
    refine aw_loop (fun j st => ∃ i, i + j = l.length ∧ (∀ q, q < i → largeX f (gD l q) = false) ∧ Sub (cx EN5 Tryd.prog s w he) st (HLa l lv i)) l.length ⟨0, by omega, fun q hq => by omega, ?_⟩ ?_
    · exact Sub.live ⟨rfl, rfl, rfl, trivial⟩ trivial
    · rintro j st ⟨i, hij, hall, hs2⟩
      refine aw_sub hs2 ?_
      clear hs2
      have ih2 := fun (h : decide ((i : Int) < (l.length : Int)) = true) => ih i (by simpa using h) hpos
      unfold R64 at hl
      repeat' (first
    | refine aw_seq ?_
    | refine aw_region ?_
    | refine awo_nil ?_
    | refine k_seq ?_
    | refine k_block ?_
    | refine k_scope ?_
    | refine aw_block ?_
    | refine aw_skip ?_
    | refine aw_label ?_
    | refine aw_scope ?_
    | (apply s_pick_t rfl rfl
       · conv => lhs; whnf
       · conv => lhs; whnf
       · first | exact bT1 (by assumption) | exact bT2 (by assumption))
    | (apply s_pick_f rfl rfl
       · conv => lhs; whnf
       · conv => lhs; whnf
       · first | exact bF1 (by assumption) | exact bF2 (by assumption))
    | (apply s_val rfl
       · conv => lhs; whnf
       · conv => lhs; whnf; arg 2; whnf)
    | (apply s_call rfl
       · conv => lhs; whnf
       · conv => lhs; whnf
       · first | exact ih2 (by assumption))
    | (apply s_wanted_val rfl
       · conv => lhs; whnf
       · conv => lhs; whnf
       · first | rfl | assumption
       · conv => lhs; whnf; arg 2; whnf)
    | (apply s_wanted_call rfl
       · conv => lhs; whnf
       · conv => lhs; whnf
       · first | rfl | assumption
       · conv => lhs; whnf
       · first | exact ih2 (by assumption))
    | (apply s_skip rfl
       · conv => lhs; whnf
       · conv => lhs; whnf
       · first | rfl | assumption)
    | (apply s_guard_val rfl
       · conv => lhs; whnf
       · conv => lhs; whnf
       · conv => lhs; whnf; arg 2; whnf)
    | (apply s_guard_call rfl
       · conv => lhs; whnf
       · conv => lhs; whnf
       · conv => lhs; whnf
       · first | exact ih2 (by assumption))
    | (apply aw_cond_t
       · conv => lhs; whnf; arg 1; arg 1; whnf)
    | (apply aw_cond_f
       · conv => lhs; whnf; arg 1; arg 1; whnf)
    | (refine aw_cond (by conv => lhs; whnf) ?_ ?_ <;> intro hb)
    | refine aw_ret ?_
    | refine aw_exit ?_
    | refine k_seq_exit ?_
    | refine k_seq_ret ?_
    | refine k_block_ret ?_
    | refine k_block_hit rfl ?_
    | refine k_block_miss rfl ?_
    | refine k_scope_exit ?_
    | refine k_scope_ret ?_
    | refine k_loop_exit ?_
    | refine k_loop_ret ?_
    | refine k_end ?_
    | refine k_end_ret ?_
    | (refine ⟨_, by conv => lhs; whnf; arg 2; whnf, ?_⟩; conv => rhs; whnf)
    | exact trivial
    | intro hg)
      all_goals try (exact i64_in (by omega))
      all_goals try (exact (⟨by omega, by have h : decide ((i : Int) < (l.length : Int)) = true := by assumption
                                          simp at h; omega⟩ : 0 ≤ (i : Int) ∧ (i : Int) < (l.length : Int)))
      · have hlt : i < l.length := by have h : decide ((i : Int) < (l.length : Int)) = true := by assumption
                                      simpa using h
        have h3 : (decide ((((gD l i).f 7).l.length : Int) > 0) == true) = true := by assumption
        have h4 : f ((gD l i).f 7).l = true := by assumption
        have hx : largeX f (gD l i) = true := by unfold largeX; rw [h4, Bool.and_true]; simpa using h3
        have ha : ((List.range l.length).any fun i => largeX f (gD l i)) = true := List.any_eq_true.2 ⟨i, List.mem_range.2 hlt, hx⟩
        rw [ha]
      rotate_right 1
      · have hge : ¬ i < l.length := by have h : decide ((i : Int) < (l.length : Int)) = false := by assumption
                                        simpa using h
        have ha : ((List.range l.length).any fun i => largeX f (gD l i)) = false := by
          rw [List.any_eq_false]
          intro q hq
          have := List.mem_range.1 hq
          rw [hall q (by omega)]; decide
        rw [ha]
      all_goals
        have hlt : i < l.length := by have h : decide ((i : Int) < (l.length : Int)) = true := by assumption
                                      simpa using h
        have hx : largeX f (gD l i) = false := by
          unfold largeX
          first
            | (have h4 : f ((gD l i).f 7).l = false := by assumption
               rw [h4, Bool.and_false])
            | (have h3 : (decide ((((gD l i).f 7).l.length : Int) > 0) == true) = false := by assumption
               have h5 : decide ((((gD l i).f 7).l.length : Int) > 0) = false := by simpa using h3
               rw [h5, Bool.false_and])
        refine k_loop_next (j' := j - 1) (by omega) ⟨i + 1, by omega, fun q hq => ?_, Sub.live ⟨rfl, rfl, rfl, trivial⟩ trivial⟩
        by_cases e : q = i
        · rw [e]; exact hx
        · exact hall q (by omega)
  · have h0 : decide (lv ≤ 0) = true := by have h : (decide (lv ≤ 0) == false) = false := by assumption
                                           simpa using h
    rw [h0, Bool.true_or, Bool.true_or]
set_option maxRecDepth 100000 in
theorem large_ac : ∀ (k : Nat) (l : List D) (lv : Int), R64 lv → (∀ i, i < l.length → Fits Tryd.prog k 63 (gD l i)) → AC EN5 Tryd.prog 11 [.sl 63 l, .c (.int .i64 lv)] (.c (.bool (largeV k l lv)))
  | 0, l, lv, h, hf => by
    have e : l = [] := by
      cases l with
      | nil => rfl
      | cons x r => exact (hf 0 (Nat.succ_pos _)).elim
    subst e
    have := large_core (fun _ => false) [] lv h fun i hi => absurd hi (Nat.not_lt_zero _)
    have e2 : largeV 0 [] lv = (decide (lv ≤ 0) || decide ((([] : List D).length : Int) > 60) || (List.range ([] : List D).length).any fun i => largeX (fun _ => false) (gD [] i)) := by
      unfold largeV; simp
    rw [e2]; exact this
  | k + 1, l, lv, h, hf => by
    refine large_core (fun l => largeV k l (lv - 1)) l lv h fun i hi hp => large_ac k _ (lv - 1) ?_ (pick_fits (hf i hi))
    unfold R64 at h ⊢
    omega
end Go.Proofs.YtjhjleanihgopaaDoor
