/- An argument of the first directive with a name. -/
import Derived.Test.YtohneabalakmeaaDoorZB
import Derived.Test.YtohneabalakmeaaDoorZC
import Derived.Test.YtohneabalakmeaaDoorZD
import Derived.Test.YtohneabalakmeaaDoorZE
import Derived.Test.YtohneabalakmeaaDoorZF
namespace Go.Proofs.YtohneabalakmeaaDoor
open Go.RowKit
attribute [local irreducible] wpList Calls Code.wp
/-- the argument of the first directive with a name -/
def argV (l : List D) (n a : ByteArray) : Option D := (findD l 0 n).bind fun x => (findD (x.f 1).l 0 a).map fun d => d.f 1
theorem argV_some {l : List D} {n s : ByteArray} {x : D} (h : findD l 0 n = some x) : argV l n s = (findD (x.f 1).l 0 s).map fun d => d.f 1 := by unfold argV; rw [h]; rfl
theorem argV_none {l : List D} {n s : ByteArray} (h : findD l 0 n = none) : argV l n s = none := by unfold argV; rw [h]; rfl
set_option maxRecDepth 100000 in
set_option maxHeartbeats 8000000 in
theorem argsP (A : Option Addr) (l : List D) (c : Nat) (n s : ByteArray) (w0 w : World) (h0 : Below w0.heap.size w0 w) (h : Rs w0 101 A l) (hl : l.length ≤ c) (hc : c ≤ maxLen) :
    Calls Tryd.prog 143 #[.slice A l.length c, .string n, .string s] w (Fd 49 (argV l n s) w0 w) := by
  unfold maxLen at hc
  have hlc : l.length ≤ 9223372036854775807 := by omega
  have Hsome := Lib.hid (fun m h1 h2 h3 => argV_some (s := s) (@find_some l 0 n m h1 h2 h3)); have Hnone := Lib.hid (fun h1 => argV_none (s := s) (@find_none l 0 n h1))
  generalize argV l n s = r at *
  have H := Lib.hid h; have H0 := Lib.hid h0; clear h h0 hl hc
  go_enter Tryd.func143, Tryd.ntmps143
  go_wp2
  have hb0 : Below w.heap.size w (w.alloc (.cells #[.int .i64 0, .int .i64 0, .string ⟨#[]⟩, .slice none 0 0, .slice none 0 0] 49)) := (Below.refl _ _).alloc (Nat.le_refl _) _
  have hx1 : (w.alloc (.cells #[.int .i64 0, .int .i64 0, .string ⟨#[]⟩, .slice none 0 0, .slice none 0 0] 49)).heap[w.heap.size]? = some (.cells #[.int .i64 0, .int .i64 0, .string ⟨#[]⟩, .slice none 0 0, .slice none 0 0] 49 (0, 0)) := heap_at rfl
  go_loopg [12] l.length (fun j v wr => ∃ m : Nat, m + j = l.length ∧ v = .int .i64 m ∧ (∀ i, i < m → (((gD l i).f 0).s.toList == n.toList) = false) ∧ Below w.heap.size w wr ∧ wr.heap[w.heap.size]? = some (.cells #[.int .i64 0, .int .i64 0, .string ⟨#[]⟩, .slice none 0 0, .slice none 0 0] 49 (0, 0)))
  case atStart => exact ⟨0, by omega, rfl, fun i hi => by omega, hb0, hx1⟩
  case round =>
    obtain ⟨m, hmj, rfl, hall, hb, hy1⟩ := hrel
    clear hb0 hx1
    have k0 : wr.cell? ⟨w.heap.size, 0, none⟩ = some (.int .i64 0) := cell_heap hy1 rfl
    have k1 : wr.cell? ⟨w.heap.size, 1, none⟩ = some (.int .i64 0) := cell_heap hy1 rfl
    have k2 : wr.cell? ⟨w.heap.size, 2, none⟩ = some (.string ⟨#[]⟩) := cell_heap hy1 rfl
    have k3 : wr.cell? ⟨w.heap.size, 3, none⟩ = some (.slice none 0 0) := cell_heap hy1 rfl
    have k4 : wr.cell? ⟨w.heap.size, 4, none⟩ = some (.slice none 0 0) := cell_heap hy1 rfl
    have f0 := frozen_heap (o := 0) hy1
    have f1 := frozen_heap (o := 1) hy1
    have f2 := frozen_heap (o := 2) hy1
    have f3 := frozen_heap (o := 3) hy1
    have f4 := frozen_heap (o := 4) hy1
    have l1 := heap_lt hy1
    have Hb := Lib.hid hb; have Hall := Lib.hid hall; have Hy1 := Lib.hid hy1
    have Hmj := Lib.hid hmj; have hmn : m ≤ l.length := by omega
    clear hmj hb hall hy1
    by_cases hlt : m < l.length
    · obtain ⟨b, off, rfl, hI, hat⟩ := at101 H.out (by omega)
      obtain ⟨A1, c1, e0, e1, -, ⟨s1, s2, -, s3⟩, -⟩ := hat m hlt
      have S1 := Lib.hid s1; have S2 := Lib.hid s2; have S3 := Lib.hid s3
      clear hat s1 s2 s3
      replace e0 := ((H0.out.trans (Hb.out.mono H0.out.size)).cell (p := ⟨b, _, none⟩) hI).trans e0
      replace e1 := ((H0.out.trans (Hb.out.mono H0.out.size)).cell (p := ⟨b, _, none⟩) hI).trans e1
      cases hq : (((gD l m).f 0).s.toList == n.toList)
      · have Hq := Lib.hid hq
        have Hal2 := Lib.hid (show ∀ i, i < m + 1 → (((gD l i).f 0).s.toList == n.toList) = false from fun i hi => (Nat.lt_succ_iff_lt_or_eq.1 hi).elim (fun h' => Hall.out i h') (fun h' => by rw [h']; exact Hq.out))
        go_wp2
        go_roundg (l.length - m - 1)
        case measure => have := Hmj.out; omega
        case rel => exact ⟨m + 1, by have := Hmj.out; omega, by go_num, Hal2.out, Hb.out.alloc Hb.out.size _, heap_under Hy1.out⟩
      · have Hr := Lib.hid (Hsome.out m hlt Hall.out hq)
        clear k0 f0 k1 f1 k2 f2 k3 f3 k4 f4
        go_upto_region 5 with (fail)
        have hba : Below w.heap.size w (wr.alloc (.cells #[.string ((gD l m).f 0).s, .slice A1 ((gD l m).f 1).l.length c1] 101)) := Hb.out.alloc Hb.out.size _
        have hxa : (wr.alloc (.cells #[.string ((gD l m).f 0).s, .slice A1 ((gD l m).f 1).l.length c1] 101)).heap[wr.heap.size]? = some (.cells #[.string ((gD l m).f 0).s, .slice A1 ((gD l m).f 1).l.length c1] 101 (0, 0)) := heap_at rfl
        have hya : (wr.alloc (.cells #[.string ((gD l m).f 0).s, .slice A1 ((gD l m).f 1).l.length c1] 101)).heap[w.heap.size]? = some (.cells #[.int .i64 0, .int .i64 0, .string ⟨#[]⟩, .slice none 0 0, .slice none 0 0] 49 (0, 0)) := heap_under Hy1.out
        generalize wr.alloc (.cells #[.string ((gD l m).f 0).s, .slice A1 ((gD l m).f 1).l.length c1] 101) = wa at *
        generalize wr.heap.size = ba at *
        have q0 : wa.cell? ⟨ba, 0, none⟩ = some (.string ((gD l m).f 0).s) := cell_heap hxa rfl
        have q1 : wa.cell? ⟨ba, 1, none⟩ = some (.slice A1 ((gD l m).f 1).l.length c1) := cell_heap hxa rfl
        have l2 := heap_lt hxa
        clear Hb Hy1 l1
        have Hb := Lib.hid hba
        have Hy1 := Lib.hid hya
        have l1 := heap_lt hya
        clear hba hxa hya
        go_wp2_with fail
        refine (argP ((gD l m).f 0).s A1 ((gD l m).f 1).l c1 s w0 wa (H0.out.trans (Hb.out.mono H0.out.size)) S3.out S1.out S2.out).mono ?_
        rintro e w2 ⟨cs, rfl, b2, rv⟩
        have HB := Lib.hid (Hb.out.trans (b2.mono Hb.out.size))
        have HV := Lib.hid ((b2.block _ l1).trans Hy1.out)
        have Rv := Lib.hid rv
        obtain ⟨A3, c3, A4, c4, rfl, -⟩ := in49 rv
        clear b2 rv
        generalize hdv : (((findD ((gD l m).f 1).l 0 s).map fun d => d.f 1).getD default) = dv at *
        generalize hbo : ((findD ((gD l m).f 1).l 0 s).map fun d => d.f 1).isSome = bo at *
        have Hdv := Lib.hid hdv; have Hbo := Lib.hid hbo; clear hdv hbo
        have k0 : w2.cell? ⟨w.heap.size, 0, none⟩ = some (.int .i64 0) := cell_heap HV.out rfl
        have k1 : w2.cell? ⟨w.heap.size, 1, none⟩ = some (.int .i64 0) := cell_heap HV.out rfl
        have k2 : w2.cell? ⟨w.heap.size, 2, none⟩ = some (.string ⟨#[]⟩) := cell_heap HV.out rfl
        have k3 : w2.cell? ⟨w.heap.size, 3, none⟩ = some (.slice none 0 0) := cell_heap HV.out rfl
        have k4 : w2.cell? ⟨w.heap.size, 4, none⟩ = some (.slice none 0 0) := cell_heap HV.out rfl
        have f0 := frozen_heap (o := 0) HV.out
        have f1 := frozen_heap (o := 1) HV.out
        have f2 := frozen_heap (o := 2) HV.out
        have f3 := frozen_heap (o := 3) HV.out
        have f4 := frozen_heap (o := 4) HV.out
        have l3 := heap_lt HV.out
        go_wp2
        exact bodyPost_ret (v := .tuple #[.agg #[.int .i64 (dv.f 0).n, .int .i64 (dv.f 1).n, .string (dv.f 2).s, .slice A3 (dv.f 3).l.length c3, .slice A4 (dv.f 4).l.length c4], .bool bo]) (by simp [results, Tryd.results143, go_sem, k0, k1, k2, k3, k4, l3]) rfl ⟨_, by rw [Hr.out, Hbo.out], (((((HB.out.setCell (p := ⟨w.heap.size, 0, none⟩) (Nat.le_refl _) (.int .i64 (dv.f 0).n)).setCell (p := ⟨w.heap.size, 1, none⟩) (Nat.le_refl _) (.int .i64 (dv.f 1).n)).setCell (p := ⟨w.heap.size, 2, none⟩) (Nat.le_refl _) (.string (dv.f 2).s)).setCell (p := ⟨w.heap.size, 3, none⟩) (Nat.le_refl _) (.slice A3 (dv.f 3).l.length c3)).setCell (p := ⟨w.heap.size, 4, none⟩) (Nat.le_refl _) (.slice A4 (dv.f 4).l.length c4)), by rw [Hr.out, Hdv.out]; exact Rv.out⟩
    · obtain rfl : m = l.length := by omega
      have Hr := Lib.hid (Hnone.out Hall.out)
      go_wp2
      exact bodyPost_ret (v := .tuple #[.agg #[.int .i64 0, .int .i64 0, .string ⟨#[]⟩, .slice none 0 0, .slice none 0 0], .bool false]) (by simp [results, Tryd.results143, go_sem, k0, k1, k2, k3, k4, l1]) rfl ⟨_, by rw [Hr.out]; rfl, (((((Hb.out.setCell (p := ⟨w.heap.size, 0, none⟩) (Nat.le_refl _) (.int .i64 0)).setCell (p := ⟨w.heap.size, 1, none⟩) (Nat.le_refl _) (.int .i64 0)).setCell (p := ⟨w.heap.size, 2, none⟩) (Nat.le_refl _) (.string ⟨#[]⟩)).setCell (p := ⟨w.heap.size, 3, none⟩) (Nat.le_refl _) (.slice none 0 0)).setCell (p := ⟨w.heap.size, 4, none⟩) (Nat.le_refl _) (.slice none 0 0)), by rw [Hr.out]; exact rv_zero49 _⟩
set_option maxRecDepth 100000 in
set_option maxHeartbeats 8000000 in
theorem argsR (A : Option Addr) (l : List D) (c : Nat) (n s : ByteArray) (w0 w : World) (h0 : Below w0.heap.size w0 w) (h : Rs w0 101 A l) (hl : l.length ≤ c) (hc : c ≤ maxLen) :
    Calls Tryd.prog 108 #[.slice A l.length c, .string n, .string s] w (Fd 49 (argV l n s) w0 w) := by
  unfold maxLen at hc
  have hlc : l.length ≤ 9223372036854775807 := by omega
  have Hsome := Lib.hid (fun m h1 h2 h3 => argV_some (s := s) (@find_some l 0 n m h1 h2 h3)); have Hnone := Lib.hid (fun h1 => argV_none (s := s) (@find_none l 0 n h1))
  generalize argV l n s = r at *
  have H := Lib.hid h; have H0 := Lib.hid h0; clear h h0 hl hc
  go_enter Tryd.func108, Tryd.ntmps108
  go_wp2
  have hb0 : Below w.heap.size w (w.alloc (.cells #[.int .i64 0, .int .i64 0, .string ⟨#[]⟩, .slice none 0 0, .slice none 0 0] 49)) := (Below.refl _ _).alloc (Nat.le_refl _) _
  have hx1 : (w.alloc (.cells #[.int .i64 0, .int .i64 0, .string ⟨#[]⟩, .slice none 0 0, .slice none 0 0] 49)).heap[w.heap.size]? = some (.cells #[.int .i64 0, .int .i64 0, .string ⟨#[]⟩, .slice none 0 0, .slice none 0 0] 49 (0, 0)) := heap_at rfl
  go_loopg [8] l.length (fun j v wr => ∃ m : Nat, m + j = l.length ∧ v = .int .i64 m ∧ (∀ i, i < m → (((gD l i).f 0).s.toList == n.toList) = false) ∧ Below w.heap.size w wr ∧ wr.heap[w.heap.size]? = some (.cells #[.int .i64 0, .int .i64 0, .string ⟨#[]⟩, .slice none 0 0, .slice none 0 0] 49 (0, 0)))
  case atStart => exact ⟨0, by omega, rfl, fun i hi => by omega, hb0, hx1⟩
  case round =>
    obtain ⟨m, hmj, rfl, hall, hb, hy1⟩ := hrel
    clear hb0 hx1
    have k0 : wr.cell? ⟨w.heap.size, 0, none⟩ = some (.int .i64 0) := cell_heap hy1 rfl
    have k1 : wr.cell? ⟨w.heap.size, 1, none⟩ = some (.int .i64 0) := cell_heap hy1 rfl
    have k2 : wr.cell? ⟨w.heap.size, 2, none⟩ = some (.string ⟨#[]⟩) := cell_heap hy1 rfl
    have k3 : wr.cell? ⟨w.heap.size, 3, none⟩ = some (.slice none 0 0) := cell_heap hy1 rfl
    have k4 : wr.cell? ⟨w.heap.size, 4, none⟩ = some (.slice none 0 0) := cell_heap hy1 rfl
    have f0 := frozen_heap (o := 0) hy1
    have f1 := frozen_heap (o := 1) hy1
    have f2 := frozen_heap (o := 2) hy1
    have f3 := frozen_heap (o := 3) hy1
    have f4 := frozen_heap (o := 4) hy1
    have l1 := heap_lt hy1
    have Hb := Lib.hid hb; have Hall := Lib.hid hall; have Hy1 := Lib.hid hy1
    have Hmj := Lib.hid hmj; have hmn : m ≤ l.length := by omega
    clear hmj hb hall hy1
    by_cases hlt : m < l.length
    · obtain ⟨b, off, rfl, hI, hat⟩ := at101 H.out (by omega)
      obtain ⟨A1, c1, e0, e1, -, ⟨s1, s2, -, s3⟩, -⟩ := hat m hlt
      have S1 := Lib.hid s1; have S2 := Lib.hid s2; have S3 := Lib.hid s3
      clear hat s1 s2 s3
      replace e0 := ((H0.out.trans (Hb.out.mono H0.out.size)).cell (p := ⟨b, _, none⟩) hI).trans e0
      replace e1 := ((H0.out.trans (Hb.out.mono H0.out.size)).cell (p := ⟨b, _, none⟩) hI).trans e1
      cases hq : (((gD l m).f 0).s.toList == n.toList)
      · have Hq := Lib.hid hq
        have Hal2 := Lib.hid (show ∀ i, i < m + 1 → (((gD l i).f 0).s.toList == n.toList) = false from fun i hi => (Nat.lt_succ_iff_lt_or_eq.1 hi).elim (fun h' => Hall.out i h') (fun h' => by rw [h']; exact Hq.out))
        go_wp2
        go_roundg (l.length - m - 1)
        case measure => have := Hmj.out; omega
        case rel => exact ⟨m + 1, by have := Hmj.out; omega, by go_num, Hal2.out, Hb.out, Hy1.out⟩
      · have Hr := Lib.hid (Hsome.out m hlt Hall.out hq)
        clear k0 f0 k1 f1 k2 f2 k3 f3 k4 f4
        go_wp2_with fail
        refine (argR ((gD l m).f 0).s A1 ((gD l m).f 1).l c1 s w0 wr (H0.out.trans (Hb.out.mono H0.out.size)) S3.out S1.out S2.out).mono ?_
        rintro e w2 ⟨cs, rfl, b2, rv⟩
        have HB := Lib.hid (Hb.out.trans (b2.mono Hb.out.size))
        have HV := Lib.hid ((b2.block _ l1).trans Hy1.out)
        have Rv := Lib.hid rv
        obtain ⟨A3, c3, A4, c4, rfl, -⟩ := in49 rv
        clear b2 rv
        generalize hdv : (((findD ((gD l m).f 1).l 0 s).map fun d => d.f 1).getD default) = dv at *
        generalize hbo : ((findD ((gD l m).f 1).l 0 s).map fun d => d.f 1).isSome = bo at *
        have Hdv := Lib.hid hdv; have Hbo := Lib.hid hbo; clear hdv hbo
        have k0 : w2.cell? ⟨w.heap.size, 0, none⟩ = some (.int .i64 0) := cell_heap HV.out rfl
        have k1 : w2.cell? ⟨w.heap.size, 1, none⟩ = some (.int .i64 0) := cell_heap HV.out rfl
        have k2 : w2.cell? ⟨w.heap.size, 2, none⟩ = some (.string ⟨#[]⟩) := cell_heap HV.out rfl
        have k3 : w2.cell? ⟨w.heap.size, 3, none⟩ = some (.slice none 0 0) := cell_heap HV.out rfl
        have k4 : w2.cell? ⟨w.heap.size, 4, none⟩ = some (.slice none 0 0) := cell_heap HV.out rfl
        have f0 := frozen_heap (o := 0) HV.out
        have f1 := frozen_heap (o := 1) HV.out
        have f2 := frozen_heap (o := 2) HV.out
        have f3 := frozen_heap (o := 3) HV.out
        have f4 := frozen_heap (o := 4) HV.out
        have l3 := heap_lt HV.out
        go_wp2
        exact bodyPost_ret (v := .tuple #[.agg #[.int .i64 (dv.f 0).n, .int .i64 (dv.f 1).n, .string (dv.f 2).s, .slice A3 (dv.f 3).l.length c3, .slice A4 (dv.f 4).l.length c4], .bool bo]) (by simp [results, Tryd.results108, go_sem, k0, k1, k2, k3, k4, l3]) rfl ⟨_, by rw [Hr.out, Hbo.out], (((((HB.out.setCell (p := ⟨w.heap.size, 0, none⟩) (Nat.le_refl _) (.int .i64 (dv.f 0).n)).setCell (p := ⟨w.heap.size, 1, none⟩) (Nat.le_refl _) (.int .i64 (dv.f 1).n)).setCell (p := ⟨w.heap.size, 2, none⟩) (Nat.le_refl _) (.string (dv.f 2).s)).setCell (p := ⟨w.heap.size, 3, none⟩) (Nat.le_refl _) (.slice A3 (dv.f 3).l.length c3)).setCell (p := ⟨w.heap.size, 4, none⟩) (Nat.le_refl _) (.slice A4 (dv.f 4).l.length c4)), by rw [Hr.out, Hdv.out]; exact Rv.out⟩
    · obtain rfl : m = l.length := by omega
      have Hr := Lib.hid (Hnone.out Hall.out)
      go_wp2
      exact bodyPost_ret (v := .tuple #[.agg #[.int .i64 0, .int .i64 0, .string ⟨#[]⟩, .slice none 0 0, .slice none 0 0], .bool false]) (by simp [results, Tryd.results108, go_sem, k0, k1, k2, k3, k4, l1]) rfl ⟨_, by rw [Hr.out]; rfl, (((((Hb.out.setCell (p := ⟨w.heap.size, 0, none⟩) (Nat.le_refl _) (.int .i64 0)).setCell (p := ⟨w.heap.size, 1, none⟩) (Nat.le_refl _) (.int .i64 0)).setCell (p := ⟨w.heap.size, 2, none⟩) (Nat.le_refl _) (.string ⟨#[]⟩)).setCell (p := ⟨w.heap.size, 3, none⟩) (Nat.le_refl _) (.slice none 0 0)).setCell (p := ⟨w.heap.size, 4, none⟩) (Nat.le_refl _) (.slice none 0 0)), by rw [Hr.out]; exact rv_zero49 _⟩
end Go.Proofs.YtohneabalakmeaaDoor
