/- The hint of a field, in the reference's text; how large a document is. -/
import Derived.Test.YtohneabalakmeaaDoorZJ
namespace Go.Proofs.YtohneabalakmeaaDoor
open Go.RowKit
attribute [local irreducible] wpList Calls Code.wp
def own2 (p : List D × List D) : Int × Bool := if (ageV p.1).2 = true then ((ageV p.1).1, true) else ageV p.2
theorem own2_field (l : List D) (on fd : ByteArray) : ((own2 (parts2 l on fd)).1, privV (parts2 l on fd).1 || privV (parts2 l on fd).2) = fieldV l on fd := by
  unfold own2 fieldV
  split <;> rfl
set_option maxRecDepth 100000 in
set_option maxHeartbeats 4000000 in
theorem ownR (A : Option Addr) (l : List D) (c : Nat) (on fd : ByteArray) (w0 w : World) (h0 : Below w0.heap.size w0 w) (h : Rs w0 58 A l) (hl : l.length ≤ c) (hc : c ≤ maxLen) :
    Calls Tryd.prog 71 #[.agg #[.slice A l.length c], .string on, .string fd] w (Ib (own2 (parts2 l on fd)).1 (own2 (parts2 l on fd)).2 w) := by
  have HO := Lib.hid (fun w (h0 : Below w0.heap.size w0 w) => partsR A l c on fd w0 w h0 h hl hc)
  have HB := Lib.hid ((Below.refl w.heap.size w).alloc (Nat.le_refl _) (.cells #[.slice A l.length c] 42))
  have H0 := Lib.hid h0
  clear h0 h hl hc
  generalize parts2 l on fd = p at *
  obtain ⟨a, b⟩ := p
  obtain ⟨x, hx⟩ : ∃ x, x = own2 (a, b) := ⟨_, rfl⟩
  rw [← hx]
  have HX := Lib.hid hx; clear hx
  unfold Pt at HO
  go_enter Tryd.func71, Tryd.ntmps71
  go_wp2_with fail
  refine (HO.out _ (H0.out.trans (HB.out.mono H0.out.size))).mono ?_
  rintro e w2 ⟨A1, c1, A2, c2, rfl, b2, r1, r1a, r1b, r2, r2a, r2b⟩
  have B2 := Lib.hid (HB.out.trans (b2.mono HB.out.size)); clear b2
  have R1 := Lib.hid r1; have R1a := Lib.hid r1a; have R1b := Lib.hid r1b; have R2 := Lib.hid r2; have R2a := Lib.hid r2a; have R2b := Lib.hid r2b
  clear r1 r1a r1b r2 r2a r2b
  simp only at R1 R1a R2 R2a ⊢
  go_wp2_with fail
  refine (ageR A1 a c1 w0 w2 (H0.out.trans (B2.out.mono H0.out.size)) R1.out R1a.out R1b.out).mono ?_
  rintro e w3 ⟨rfl, b3⟩
  have B3 := Lib.hid (B2.out.trans (b3.mono B2.out.size)); clear b3 B2
  generalize hga : ageV a = ga at *
  obtain ⟨g1, g2⟩ := ga
  have Hga := Lib.hid hga; clear hga
  simp only
  cases g2 with
  | true =>
    go_wp2
    go_ret2
    exact ⟨by rw [HX.out]; unfold own2; simp [Hga.out], B3.out⟩
  | false =>
    go_wp2_with fail
    refine (ageR A2 b c2 w0 w3 (H0.out.trans (B3.out.mono H0.out.size)) R2.out R2a.out R2b.out).mono ?_
    rintro e w4 ⟨rfl, b4⟩
    have B4 := Lib.hid (B3.out.trans (b4.mono B3.out.size)); clear b4 B3
    generalize hgb : ageV b = gb at *
    obtain ⟨y1, y2⟩ := gb
    have Hgb := Lib.hid hgb; clear hgb
    simp only
    go_wp2
    go_ret2
    exact ⟨by rw [HX.out]; unfold own2; simp [Hga.out, Hgb.out], B4.out⟩
set_option maxRecDepth 100000 in
set_option maxHeartbeats 4000000 in
theorem hintR (A : Option Addr) (l : List D) (c : Nat) (on fd : ByteArray) (w0 w : World) (h0 : Below w0.heap.size w0 w) (h : Rs w0 58 A l) (hl : l.length ≤ c) (hc : c ≤ maxLen) :
    Calls Tryd.prog 38 #[.agg #[.slice A l.length c], .string on, .string fd] w (Hi (fieldV l on fd).1 (fieldV l on fd).2 w) := by
  have HO := Lib.hid (fun w (h0 : Below w0.heap.size w0 w) => partsR A l c on fd w0 w h0 h hl hc)
  have HW := Lib.hid (fun w (h0 : Below w0.heap.size w0 w) => ownR A l c on fd w0 w h0 h hl hc)
  have HB := Lib.hid (((Below.refl w.heap.size w).alloc (Nat.le_refl _) (.cells #[.slice A l.length c] 42)).alloc (by simp) (.cells #[.int .i64 0, .bool false] 33))
  have H0 := Lib.hid h0
  clear h0 h hl hc
  rw [← own2_field]
  generalize parts2 l on fd = p at *
  obtain ⟨a, b⟩ := p
  generalize own2 (a, b) = o at *
  obtain ⟨o1, o2⟩ := o
  simp only
  obtain ⟨x, hx⟩ : ∃ x, x = (privV a || privV b) := ⟨_, rfl⟩
  rw [← hx]
  have HX := Lib.hid hx; clear hx
  unfold Pt at HO
  unfold Ib at HW
  go_enter Tryd.func38, Tryd.ntmps38
  go_wp2_with fail
  refine (HO.out _ (H0.out.trans (HB.out.mono H0.out.size))).mono ?_
  rintro e w2 ⟨A1, c1, A2, c2, rfl, b2, r1, r1a, r1b, r2, r2a, r2b⟩
  have XR := Lib.hid ((b2.block (w.heap.size + 1) (by simp)).trans (heap_at (w := w.alloc (.cells #[.slice A l.length c] 42)) (o := .cells #[.int .i64 0, .bool false] 33) (by simp)))
  have XD := Lib.hid ((b2.block w.heap.size (by simp; omega)).trans (heap_under (o := .cells #[.int .i64 0, .bool false] 33) (heap_at (w := w) (o := .cells #[.slice A l.length c] 42) rfl)))
  have B2 := Lib.hid (HB.out.trans (b2.mono HB.out.size)); clear b2
  have R1 := Lib.hid r1; have R1a := Lib.hid r1a; have R1b := Lib.hid r1b; have R2 := Lib.hid r2; have R2a := Lib.hid r2a; have R2b := Lib.hid r2b
  clear r1 r1a r1b r2 r2a r2b
  simp only at R1 R1a R2 R2a ⊢
  have kd : w2.cell? ⟨w.heap.size, 0, none⟩ = some (.slice A l.length c) := cell_heap XD.out rfl
  go_wp2_with fail
  refine (HW.out _ (H0.out.trans (B2.out.mono H0.out.size))).mono ?_
  rintro e w3 ⟨rfl, b3⟩
  have B3 := Lib.hid (B2.out.trans (b3.mono B2.out.size))
  have X3 := Lib.hid ((b3.block _ (heap_lt XR.out)).trans XR.out)
  clear b3 kd
  simp only
  go_wp2_with fail
  refine (privR A1 a c1 w0 w3 (H0.out.trans (B3.out.mono H0.out.size)) R1.out R1a.out R1b.out).mono ?_
  rintro e w4 ⟨rfl, b4⟩
  have B4 := Lib.hid (B3.out.trans (b4.mono B3.out.size))
  have X4 := Lib.hid ((b4.block _ (heap_lt X3.out)).trans X3.out)
  clear b4
  cases hp : privV a
  · have Hp := Lib.hid hp; clear hp
    go_wp2_with fail
    refine (privR A2 b c2 w0 w4 (H0.out.trans (B4.out.mono H0.out.size)) R2.out R2a.out R2b.out).mono ?_
    rintro e w5 ⟨rfl, b5⟩
    have B5 := Lib.hid (B4.out.trans (b5.mono B4.out.size))
    have X5 := Lib.hid ((b5.block _ (heap_lt X4.out)).trans X4.out)
    clear b5
    generalize hq : privV b = pq at *
    have Hq := Lib.hid hq; clear hq
    have k0 : w5.cell? ⟨w.heap.size + 1, 0, none⟩ = some (.int .i64 0) := cell_heap X5.out rfl
    have k1 : w5.cell? ⟨w.heap.size + 1, 1, none⟩ = some (.bool false) := cell_heap X5.out rfl
    have f0 := frozen_heap (o := 0) X5.out
    have f1 := frozen_heap (o := 1) X5.out
    have lx := heap_lt X5.out
    go_wp2
    exact bodyPost_ret (v := .agg #[.int .i64 o1, .bool pq]) (by simp [results, Tryd.results38, go_sem, k0, k1, lx]) rfl ⟨by rw [HX.out]; simp [Hp.out, Hq.out], (B5.out.setCell (p := ⟨w.heap.size + 1, 0, none⟩) (Nat.le_succ _) _).setCell (p := ⟨w.heap.size + 1, 1, none⟩) (Nat.le_succ _) _⟩
  · have Hp := Lib.hid hp; clear hp
    have k0 : w4.cell? ⟨w.heap.size + 1, 0, none⟩ = some (.int .i64 0) := cell_heap X4.out rfl
    have k1 : w4.cell? ⟨w.heap.size + 1, 1, none⟩ = some (.bool false) := cell_heap X4.out rfl
    have f0 := frozen_heap (o := 0) X4.out
    have f1 := frozen_heap (o := 1) X4.out
    have lx := heap_lt X4.out
    go_wp2
    exact bodyPost_ret (v := .agg #[.int .i64 o1, .bool true]) (by simp [results, Tryd.results38, go_sem, k0, k1, lx]) rfl ⟨by rw [HX.out]; simp [Hp.out], (B4.out.setCell (p := ⟨w.heap.size + 1, 0, none⟩) (Nat.le_succ _) _).setCell (p := ⟨w.heap.size + 1, 1, none⟩) (Nat.le_succ _) _⟩
end Go.Proofs.YtohneabalakmeaaDoor
