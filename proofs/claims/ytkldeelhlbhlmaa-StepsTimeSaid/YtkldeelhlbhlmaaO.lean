/- A step and the same step of the reference are found to be the same. -/
import Derived.Test.YtkldeelhlbhlmaaN
namespace Go.Proofs.Ytkldeelhlbhlmaa
open Go.RowKit
attribute [local irreducible] wpList Calls Code.wp
/-- the steps of two steps, each pair of which is found the same -/
def Ask2 (w : World) (A A' : Option Addr) (l : List Tree) : Prop := 0 < l.length → ∃ b off b' off', A = some ⟨b, off, none⟩ ∧ b < w.heap.size ∧ A' = some ⟨b', off', none⟩ ∧ b' < w.heap.size ∧ ∀ i, i < l.length → ∃ B c B' c',
  w.cell? ⟨b, off + i * 3, none⟩ = some (.int .i64 (gT l i).kind) ∧ w.cell? ⟨b, off + i * 3 + 1, none⟩ = some (.int .i64 (gT l i).fetch) ∧ w.cell? ⟨b, off + i * 3 + 2, none⟩ = some (.slice B (gT l i).list.length c) ∧
  w.cell? ⟨b', off' + i * 3, none⟩ = some (.int .i64 (gT l i).kind) ∧ w.cell? ⟨b', off' + i * 3 + 1, none⟩ = some (.int .i64 (gT l i).fetch) ∧ w.cell? ⟨b', off' + i * 3 + 2, none⟩ = some (.slice B' (gT l i).list.length c') ∧
    ∀ wr, Below w.heap.size w wr → Calls Try.prog 14 #[tree B c (gT l i), tree B' c' (gT l i)] wr (Bo true wr)
theorem ask2_of {h : Nat} (ih : ∀ (t : Tree) (A : Option Addr) (c : Nat) (A' : Option Addr) (c' : Nat) (w : World), Ns w (fun k => k < w.heap.size) h A t.list → Ns w (fun k => k < w.heap.size) h A' t.list → t.list.length ≤ 9223372036854775807 → Calls Try.prog 14 #[tree A c t, tree A' c' t] w (Bo true w))
    {w : World} {A A' : Option Addr} {l : List Tree} (hr : Ns w (fun k => k < w.heap.size) (h + 1) A l) (hr' : Ns w (fun k => k < w.heap.size) (h + 1) A' l) : Ask2 w A A' l := fun hn => by
  obtain ⟨b, off, hA, hb, hc⟩ := hr hn
  obtain ⟨b', off', hA', hb', hc'⟩ := hr' hn
  refine ⟨b, off, b', off', hA, hb, hA', hb', fun i hi => ?_⟩
  obtain ⟨B, c, h1, h2, h3, h4, h5⟩ := hc i hi
  obtain ⟨B', c', g1, g2, g3, g4, g5⟩ := hc' i hi
  refine ⟨B, c, B', c', h1, h2, h3, g1, g2, g3, fun wr hbw => ih _ B c B' c' wr ?_ ?_ h4⟩
  · exact (h5.same (Same.below hbw fun _ h => h)).mono fun _ h => Nat.lt_of_lt_of_le h hbw.size
  · exact (g5.same (Same.below hbw fun _ h => h)).mono fun _ h => Nat.lt_of_lt_of_le h hbw.size
set_option maxRecDepth 100000 in
set_option maxHeartbeats 1000000 in
theorem same14_step (t : Tree) (A : Option Addr) (c : Nat) (A' : Option Addr) (c' : Nat) (w : World) (hr : Ask2 w A A' t.list) (hn : t.list.length ≤ 9223372036854775807) :
    Calls Try.prog 14 #[tree A c t, tree A' c' t] w (Bo true w) := by
  have HR := Lib.hid hr; clear hr
  obtain ⟨k, f, l⟩ := t
  unfold tree
  simp only [Tree.kind, Tree.fetch, Tree.list] at *
  have hn0 : ∃ n, n = l.length := ⟨_, rfl⟩
  obtain ⟨n, hn1⟩ := hn0
  rw [← hn1] at hn ⊢
  have Hn1 := Lib.hid hn1; clear hn1
  have q1 : (k != k) = false := by simp
  have q2 : (f != f) = false := by simp
  have q3 : ((n : Int) != (n : Int)) = false := by simp
  go_enter Try.func14, Try.ntmps14
  go_wp2
  go_loopg [5] n (fun j i wr => ∃ m : Nat, m + j = n ∧ i = .int .i64 m ∧ Below w.heap.size w wr ∧ wr.heap[w.heap.size]? = some (.cells #[.int .i64 k, .int .i64 f, .slice A n c] 34 (0, 0)) ∧ wr.heap[w.heap.size + 1]? = some (.cells #[.int .i64 k, .int .i64 f, .slice A' n c'] 39 (0, 0)))
  case atStart => exact ⟨0, by omega, rfl, ((Below.refl _ _).alloc (Nat.le_refl _) _).alloc (by simp) _, heap_under (heap_at rfl), heap_at (by simp)⟩
  case round =>
    obtain ⟨x, hmj, rfl, hb, hx1, hx2⟩ := hrel
    have Hmj := Lib.hid hmj; have hmn : x ≤ n := by omega
    clear hmj
    have a2 : wr.cell? ⟨w.heap.size, 2, none⟩ = some (.slice A n c) := cell_of_row _ _ _ _ _ _ hx1
    have b2 : wr.cell? ⟨w.heap.size + 1, 2, none⟩ = some (.slice A' n c') := cell_of_row _ _ _ _ _ _ hx2
    have HX1 := Lib.hid hx1; have HX2 := Lib.hid hx2; clear hx1 hx2
    by_cases hlt : x < n
    · have hxl : x < l.length := by rw [← Hn1.out]; exact hlt
      obtain ⟨b, off, b', off', rfl, hI, rfl, hI', hc⟩ := HR.out (by omega)
      obtain ⟨B, c3, B', c3', h1, h2, h3, g1, g2, g3, h5⟩ := hc x hxl
      have e1 := (hb.cell (p := ⟨b, off + x * 3, none⟩) hI).trans h1
      have e2 := (hb.cell (p := ⟨b, off + x * 3 + 1, none⟩) hI).trans h2
      have e3 := (hb.cell (p := ⟨b, off + x * 3 + 2, none⟩) hI).trans h3
      have e4 := (hb.cell (p := ⟨b', off' + x * 3, none⟩) hI').trans g1
      have e5 := (hb.cell (p := ⟨b', off' + x * 3 + 1, none⟩) hI').trans g2
      have e6 := (hb.cell (p := ⟨b', off' + x * 3 + 2, none⟩) hI').trans g3
      have H5 := Lib.hid h5
      clear hc h1 h2 h3 g1 g2 g3 h5 hxl
      have Hb := Lib.hid hb
      go_wp2_with fail
      go_still_tail 10, (by kernel_rfl)
      go_wp2_with fail
      refine (H5.out _ hb.drew).mono ?_
      rintro e w2 ⟨rfl, hb2⟩
      have hb2' := ((Below.refl wr.heap.size wr).drew).trans hb2
      have y1 := (hb2'.block _ (heap_lt HX1.out)).trans HX1.out
      have y2 := (hb2'.block _ (heap_lt HX2.out)).trans HX2.out
      have Hb3 := Lib.hid (Hb.out.trans (hb2'.mono Hb.out.size))
      have Y1 := Lib.hid y1; have Y2 := Lib.hid y2
      clear hb2 hb2' y1 y2
      go_wp2
      go_roundg (gk - 1)
      case measure => have := Hmj.out; omega
      case rel => exact ⟨x + 1, by have := Hmj.out; omega, by go_num, Hb3.out, Y1.out, Y2.out⟩
    · go_wp2
      go_ret
      exact ⟨rfl, hb⟩
theorem same14 : ∀ (h : Nat) (t : Tree) (A : Option Addr) (c : Nat) (A' : Option Addr) (c' : Nat) (w : World), Ns w (fun k => k < w.heap.size) h A t.list → Ns w (fun k => k < w.heap.size) h A' t.list → t.list.length ≤ 9223372036854775807 → Calls Try.prog 14 #[tree A c t, tree A' c' t] w (Bo true w)
  | 0, t, A, c, A', c', w, hr, _, hn => same14_step t A c A' c' w (fun h => by rw [show t.list = [] from hr] at h; simp at h) hn
  | h + 1, t, A, c, A', c', w, hr, hr', hn => same14_step t A c A' c' w (ask2_of (same14 h) hr hr') hn
end Go.Proofs.Ytkldeelhlbhlmaa
