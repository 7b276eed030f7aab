/- Parts of a proof, merged by a program (shake.py). -/
import Derived.Test.YtohneabalakmeaaDoorDq25
namespace Go.Proofs.YtohneabalakmeaaDoor
open Go.RowKit
attribute [local irreducible] wpList Calls Code.wp
set_option maxRecDepth 100000 in
set_option maxHeartbeats 4000000 in
theorem closedR : ∀ (k : Nat) (cs : Array Value) (d : D) (w0 w : World), VT k cs d w0 w → Calls Tryd.prog 147 #[.agg cs] w (Sb w) := by
  intro k
  induction k with
  | zero => intro cs d w0 w h; exact h.2.elim
  | succ k ih =>
    intro cs d w0 w ⟨h0, h⟩
    obtain ⟨A3, c3, A4, c4, rfl, ⟨-, -, -, hlen, -⟩, s3, -⟩ := in_val h
    have H0 := Lib.hid h0; have S3 := Lib.hid s3
    clear h h0 s3
    have IH := Lib.hid ih; clear ih
    go_enter Tryd.func147, Tryd.ntmps147
    go_wp2
    go_loopg [3] (d.f 3).l.length (fun j i wr => ∃ m : Nat, m + j = (d.f 3).l.length ∧ i = .int .i64 m ∧ Below w.heap.size w wr ∧ wr.heap[w.heap.size]? = some (.cells #[.int .i64 (d.f 0).n, .int .i64 (d.f 1).n, .string (d.f 2).s, .slice A3 (d.f 3).l.length c3, .slice A4 (d.f 4).l.length c4] 49 (0, 0)))
    case atStart => exact ⟨0, by omega, rfl, (Below.refl _ _).alloc (Nat.le_refl _) _, heap_at rfl⟩
    case round =>
      obtain ⟨m, hmj, rfl, hb, hx⟩ := hrel
      have k3 : wr.cell? ⟨w.heap.size, 3, none⟩ = some (.slice A3 (d.f 3).l.length c3) := cell_heap hx rfl
      have k0 : wr.cell? ⟨w.heap.size, 0, none⟩ = some (.int .i64 (d.f 0).n) := cell_heap hx rfl
      have l0 := heap_lt hx
      have Hb := Lib.hid hb; have Hx := Lib.hid hx
      have Hmj := Lib.hid hmj; have hmn : m ≤ (d.f 3).l.length := by omega
      clear hmj hb hx
      by_cases hlt : m < (d.f 3).l.length
      · obtain ⟨b, off, rfl, hI, hat⟩ := at_val S3.out (by omega)
        obtain ⟨A3', c3', A4', c4', e0, e1, e2, e3, e4, rv⟩ := hat m hlt
        have Rv' := Lib.hid rv
        clear hat rv
        replace e0 := ((H0.out.trans (Hb.out.mono H0.out.size)).cell (p := ⟨b, _, none⟩) hI).trans e0
        replace e1 := ((H0.out.trans (Hb.out.mono H0.out.size)).cell (p := ⟨b, _, none⟩) hI).trans e1
        replace e2 := ((H0.out.trans (Hb.out.mono H0.out.size)).cell (p := ⟨b, _, none⟩) hI).trans e2
        replace e3 := ((H0.out.trans (Hb.out.mono H0.out.size)).cell (p := ⟨b, _, none⟩) hI).trans e3
        replace e4 := ((H0.out.trans (Hb.out.mono H0.out.size)).cell (p := ⟨b, _, none⟩) hI).trans e4
        go_wp2_with fail
        refine (IH.out _ (gD (d.f 3).l m) w0 wr ⟨H0.out.trans (Hb.out.mono H0.out.size), Rv'.out⟩).mono ?_
        rintro e w2 ⟨b2, rfl, bb⟩
        have Hb2 := Lib.hid (Hb.out.trans (bb.mono Hb.out.size))
        have Hx2 := Lib.hid ((bb.block _ l0).trans Hx.out)
        clear bb e0 e1 e2 e3 e4 k3 k0
        cases b2
        · go_wp2
          go_ret
          exact ⟨_, rfl, Hb2.out⟩
        · go_wp2
          go_roundg ((d.f 3).l.length - m - 1)
          case measure => have := Hmj.out; omega
          case rel => exact ⟨m + 1, by have := Hmj.out; omega, by go_num, Hb2.out, Hx2.out⟩
      · go_wp2
        go_ret
        exact ⟨_, rfl, Hb.out⟩
set_option maxRecDepth 100000 in
set_option maxHeartbeats 4000000 in
theorem nullR (k : Nat) (cs : Array Value) (d : D) (w0 w : World) (h : VT (k + 1) cs d w0 w) : Calls Tryd.prog 149 #[.agg cs] w (Sb w) := by
  obtain ⟨A3, c3, A4, c4, rfl, -, -, -⟩ := in_val h.2
  have HB := Lib.hid (fun o => (Below.refl w.heap.size w).alloc (Nat.le_refl _) o)
  clear h
  go_enter Tryd.func149, Tryd.ntmps149
  go_wp2
  all_goals
    go_ret
    exact ⟨_, rfl, HB.out _⟩
/-- the numbers of a slice -/
theorem at_int {w : World} {A : Option Addr} {l : List D} (h : Rs w 3 A l) (hp : 0 < l.length) : ∃ b off, A = some ⟨b, off, none⟩ ∧ b < w.heap.size ∧ ∀ i, i < l.length → w.cell? ⟨b, off + i, none⟩ = some (.int .i64 (gD l i).n) := by
  obtain ⟨k, h⟩ := h
  obtain ⟨b, off, hA, hb, hi⟩ := h hp (by rw [cells3]; omega)
  refine ⟨b, off, hA, hb, fun i hil => ?_⟩
  obtain ⟨ys, y1, y2, y3⟩ := hi i hil
  rw [cells3] at y2
  obtain ⟨rfl, hs⟩ := y3.int Tryd.underlying3
  have := y2 0 _ rfl
  rw [Nat.mul_one, Nat.add_zero] at this
  exact this
set_option maxRecDepth 100000 in
set_option maxHeartbeats 8000000 in
theorem refRightR (nm : ByteArray) (A : Option Addr) (l : List D) (c : Nat) (w0 w : World) (h0 : Below w0.heap.size w0 w) (h : Rs w0 3 A l) (hl : l.length ≤ 9223372036854775807) (hs : nm.size ≤ 9223372036854775807) :
    Calls Tryd.prog 148 #[.agg #[.string nm, .slice A l.length c]] w (Sb w) := by
  have H := Lib.hid h; have H0 := Lib.hid h0
  have HN := Lib.hid (fun w => nameR nm w hs)
  clear h h0
  have HB := Lib.hid ((Below.refl w.heap.size w).alloc (Nat.le_refl _) (.cells #[.string nm, .slice A l.length c] 62))
  go_enter Tryd.func148, Tryd.ntmps148
  go_wp2_with fail
  refine (HN.out _).mono ?_
  rintro e w1 ⟨rfl, rfl⟩
  cases nameB nm
  · go_wp2
    go_ret
    exact ⟨_, rfl, HB.out⟩
  by_cases h24 : 24 < l.length
  · have q : decide ((l.length : Int) > 24) = true := decide_eq_true (by omega)
    go_wp2
    go_ret
    exact ⟨_, rfl, HB.out⟩
  have q : decide ((l.length : Int) > 24) = false := decide_eq_false (by omega)
  go_wp2
  go_loopg [3] l.length (fun j i wr => ∃ m : Nat, m + j = l.length ∧ i = .int .i64 m ∧ Below w.heap.size w wr ∧ wr.heap[w.heap.size]? = some (.cells #[.string nm, .slice A l.length c] 62 (0, 0)))
  case atStart => exact ⟨0, by omega, rfl, HB.out, heap_at rfl⟩
  case round =>
    obtain ⟨m, hmj, rfl, hb, hx⟩ := hrel
    have k1 : wr.cell? ⟨w.heap.size, 1, none⟩ = some (.slice A l.length c) := cell_heap hx rfl
    have l0 := heap_lt hx
    have Hb := Lib.hid hb; have Hx := Lib.hid hx
    have Hmj := Lib.hid hmj; have hmn : m ≤ l.length := by omega
    clear hmj hb hx
    by_cases hlt : m < l.length
    · obtain ⟨b, off, rfl, hI, hat⟩ := at_int H.out (by omega)
      have hB := H0.out.trans (Hb.out.mono H0.out.size)
      have e0 := (hB.cell (p := ⟨b, _, none⟩) hI).trans (hat m hlt)
      by_cases hm0 : m = 0
      · subst hm0
        clear hat hB
        replace e0 : wr.cell? ⟨b, off, none⟩ = some (.int .i64 (gD l 0).n) := e0
        go_wp2
        all_goals first
          | (go_ret; exact ⟨_, rfl, Hb.out⟩)
          | (go_roundg (l.length - 0 - 1)
             case measure => have := Hmj.out; omega
             case rel => exact ⟨1, by have := Hmj.out; omega, by first | rfl | go_num, Hb.out, Hx.out⟩)
      · have e1 := (hB.cell (p := ⟨b, _, none⟩) hI).trans (hat (m - 1) (by omega))
        have z1 : (0 : Int) < (m : Int) := by omega
        clear hat hB
        go_wp2
        all_goals first
          | (go_ret; exact ⟨_, rfl, Hb.out⟩)
          | (go_roundg (l.length - m - 1)
             case measure => have := Hmj.out; omega
             case rel => exact ⟨m + 1, by have := Hmj.out; omega, by go_num, Hb.out, Hx.out⟩)
    · go_wp2
      go_ret
      exact ⟨_, rfl, Hb.out⟩
set_option maxRecDepth 100000 in
set_option maxHeartbeats 4000000 in
theorem large7 (A : Option Addr) (l : List D) (c : Nat) (w0 w : World) (h0 : Below w0.heap.size w0 w) (h : Rs w0 58 A l) (hl : l.length ≤ c) (hc : c ≤ maxLen) :
    Calls Tryd.prog 44 #[.agg #[.slice A l.length c]] w (Sb w) := by
  have H := Lib.hid h; have H0 := Lib.hid h0
  unfold maxLen at hc
  have hlc : l.length ≤ 9223372036854775807 := by omega
  clear h h0 hl hc
  by_cases hbig : 70 < l.length
  · have q : decide ((l.length : Int) > 70) = true := decide_eq_true (by omega)
    go_enter Tryd.func44, Tryd.ntmps44
    go_wp2
    go_ret
    exact ⟨_, rfl, (Below.refl _ _).alloc (Nat.le_refl _) _⟩
  have q : decide ((l.length : Int) > 70) = false := decide_eq_false (by omega)
  go_enter Tryd.func44, Tryd.ntmps44
  go_wp2
  go_loopg [3, 4] l.length (fun j x i wr => ∃ (m : Nat) (y : Int), m + j = l.length ∧ i = .int .i64 m ∧ x = .int .i64 y ∧ Below w.heap.size w wr ∧ wr.heap[w.heap.size]? = some (.cells #[.slice A l.length c] 42 (0, 0)))
  case atStart => exact ⟨0, 0, by omega, rfl, rfl, (Below.refl _ _).alloc (Nat.le_refl _) _, heap_at rfl⟩
  case round =>
    obtain ⟨m, y, hmj, rfl, rfl, hb, hx⟩ := hrel
    have k0 : wr.cell? ⟨w.heap.size, 0, none⟩ = some (.slice A l.length c) := cell_heap hx rfl
    have l0 := heap_lt hx
    have Hb := Lib.hid hb; have Hx := Lib.hid hx
    have Hmj := Lib.hid hmj; have hmn : m ≤ l.length := by omega
    clear hmj hb hx
    by_cases hlt : m < l.length
    · obtain ⟨b, off, rfl, hI, hat⟩ := at58 H.out (by omega)
      obtain ⟨A2, c2, A3, c3, A4, c4, A5, c5, A6, c6, e0, e1, e2, e3, e4, e5, e6, r0, r1, r2, r3, r4, r5, r6, y0⟩ := hat m hlt
      have F1 := Lib.hid r4.1; have F2 := Lib.hid r4.2.1; have F3 := Lib.hid r4.2.2.2
      clear hat y0 r0 r1 r2 r3 r4 r5 r6
      replace e0 := ((H0.out.trans (Hb.out.mono H0.out.size)).cell (p := ⟨b, _, none⟩) hI).trans e0
      replace e1 := ((H0.out.trans (Hb.out.mono H0.out.size)).cell (p := ⟨b, _, none⟩) hI).trans e1
      replace e2 := ((H0.out.trans (Hb.out.mono H0.out.size)).cell (p := ⟨b, _, none⟩) hI).trans e2
      replace e3 := ((H0.out.trans (Hb.out.mono H0.out.size)).cell (p := ⟨b, _, none⟩) hI).trans e3
      replace e4 := ((H0.out.trans (Hb.out.mono H0.out.size)).cell (p := ⟨b, _, none⟩) hI).trans e4
      replace e5 := ((H0.out.trans (Hb.out.mono H0.out.size)).cell (p := ⟨b, _, none⟩) hI).trans e5
      replace e6 := ((H0.out.trans (Hb.out.mono H0.out.size)).cell (p := ⟨b, _, none⟩) hI).trans e6
      have hfl : ((gD l m).f 4).l.length ≤ 9223372036854775807 := by have h1 := F1.out; have h2 := F2.out; unfold maxLen at h2; omega
      go_wp2
      obtain ⟨y2, hy2⟩ : ∃ y2, y2 = wrap64 (y + wrap64 (wrap64 (wrap64 (wrap64 (wrap64 (1 + ↑((gD l m).f 4).l.length) + ↑((gD l m).f 5).l.length) + ↑((gD l m).f 6).l.length) + ↑((gD l m).f 3).l.length) + ↑((gD l m).f 2).l.length)) := ⟨_, rfl⟩
      rw [← hy2]
      clear hy2
      have hba : Below w.heap.size w (wr.alloc (.cells #[.int .i64 ((gD l m).f 0).n, .string ((gD l m).f 1).s, .slice A2 ((gD l m).f 2).l.length c2, .slice A3 ((gD l m).f 3).l.length c3, .slice A4 ((gD l m).f 4).l.length c4, .slice A5 ((gD l m).f 5).l.length c5, .slice A6 ((gD l m).f 6).l.length c6] 58)) := Hb.out.alloc Hb.out.size _
      have hxa : (wr.alloc (.cells #[.int .i64 ((gD l m).f 0).n, .string ((gD l m).f 1).s, .slice A2 ((gD l m).f 2).l.length c2, .slice A3 ((gD l m).f 3).l.length c3, .slice A4 ((gD l m).f 4).l.length c4, .slice A5 ((gD l m).f 5).l.length c5, .slice A6 ((gD l m).f 6).l.length c6] 58)).heap[wr.heap.size]? = some (.cells #[.int .i64 ((gD l m).f 0).n, .string ((gD l m).f 1).s, .slice A2 ((gD l m).f 2).l.length c2, .slice A3 ((gD l m).f 3).l.length c3, .slice A4 ((gD l m).f 4).l.length c4, .slice A5 ((gD l m).f 5).l.length c5, .slice A6 ((gD l m).f 6).l.length c6] 58 (0, 0)) := heap_at rfl
      have hxd : (wr.alloc (.cells #[.int .i64 ((gD l m).f 0).n, .string ((gD l m).f 1).s, .slice A2 ((gD l m).f 2).l.length c2, .slice A3 ((gD l m).f 3).l.length c3, .slice A4 ((gD l m).f 4).l.length c4, .slice A5 ((gD l m).f 5).l.length c5, .slice A6 ((gD l m).f 6).l.length c6] 58)).heap[w.heap.size]? = some (.cells #[.slice (some ⟨b, off, none⟩) l.length c] 42 (0, 0)) := heap_under Hx.out
      clear e0 e1 e2 e3 e4 e5 e6 k0 l0
      generalize wr.alloc (.cells #[.int .i64 ((gD l m).f 0).n, .string ((gD l m).f 1).s, .slice A2 ((gD l m).f 2).l.length c2, .slice A3 ((gD l m).f 3).l.length c3, .slice A4 ((gD l m).f 4).l.length c4, .slice A5 ((gD l m).f 5).l.length c5, .slice A6 ((gD l m).f 6).l.length c6] 58) = wa at *
      generalize wr.heap.size = ba at *
      obtain ⟨wo, rfl⟩ : ∃ wo : World, wo = wr := ⟨_, rfl⟩
      go_loopg [3, 6] ((gD l m).f 4).l.length (fun j x i wi => ∃ (k : Nat) (y : Int), k + j = ((gD l m).f 4).l.length ∧ i = .int .i64 k ∧ x = .int .i64 y ∧ Below w.heap.size w wi ∧ wi.heap[ba]? = some (.cells #[.int .i64 ((gD l m).f 0).n, .string ((gD l m).f 1).s, .slice A2 ((gD l m).f 2).l.length c2, .slice A3 ((gD l m).f 3).l.length c3, .slice A4 ((gD l m).f 4).l.length c4, .slice A5 ((gD l m).f 5).l.length c5, .slice A6 ((gD l m).f 6).l.length c6] 58 (0, 0)) ∧ wi.heap[w.heap.size]? = some (.cells #[.slice (some ⟨b, off, none⟩) l.length c] 42 (0, 0)))
      case atStart => exact ⟨0, y2, by omega, rfl, rfl, hba, hxa, hxd⟩
      case round =>
        obtain ⟨k, y3, hkj, rfl, rfl, hb, hx, hd⟩ := hrel
        clear hba hxa hxd
        have q4 : wr.cell? ⟨ba, 4, none⟩ = some (.slice A4 ((gD l m).f 4).l.length c4) := cell_heap hx rfl
        have l0 := heap_lt hx
        have Hbi := Lib.hid hb; have Hxi := Lib.hid hx; have Hdi := Lib.hid hd
        have Hkj := Lib.hid hkj; have hkn : k ≤ ((gD l m).f 4).l.length := by omega
        clear hkj hb hx hd
        by_cases hlk : k < ((gD l m).f 4).l.length
        · obtain ⟨bf, offf, rfl, hIf, hatf⟩ := at64 F3.out (by omega)
          obtain ⟨A1, c1, A3, c3, A4, c4, u0, u1, u2, u3, u4, -, -, -, -, -, -⟩ := hatf k hlk
          clear hatf
          replace u0 := ((H0.out.trans (Hbi.out.mono H0.out.size)).cell (p := ⟨bf, _, none⟩) hIf).trans u0
          replace u1 := ((H0.out.trans (Hbi.out.mono H0.out.size)).cell (p := ⟨bf, _, none⟩) hIf).trans u1
          replace u2 := ((H0.out.trans (Hbi.out.mono H0.out.size)).cell (p := ⟨bf, _, none⟩) hIf).trans u2
          replace u3 := ((H0.out.trans (Hbi.out.mono H0.out.size)).cell (p := ⟨bf, _, none⟩) hIf).trans u3
          replace u4 := ((H0.out.trans (Hbi.out.mono H0.out.size)).cell (p := ⟨bf, _, none⟩) hIf).trans u4
          have hk2 : (k : Int) < (((gD l m).f 4).l.length : Int) := by omega
          go_wp2
          go_quiet (fail)
          go_wp2
          go_roundg (((gD l m).f 4).l.length - k - 1)
          case measure => have := Hkj.out; omega
          case rel => exact ⟨k + 1, _, by have := Hkj.out; omega, by go_num, rfl, below_draws Hbi.out _, Hxi.out, Hdi.out⟩
        · go_wp2
          go_roundg (l.length - m - 1)
          case measure => have := Hmj.out; omega
          case rel => exact ⟨m + 1, _, by have := Hmj.out; omega, by go_num, rfl, Hbi.out, Hdi.out⟩
    · go_wp2
      go_ret
      exact ⟨_, rfl, Hb.out⟩
end Go.Proofs.YtohneabalakmeaaDoor
namespace Go.Proofs.YtohneabalakmeaaDoor
open Go.RowKit
attribute [local irreducible] wpList Calls Code.wp
/-- a bool comes back; if it is true, a thing holds -/
def Gd (P : Prop) (w : World) (e : Ending) (w' : World) : Prop := ∃ b, e = .returned (.bool b) ∧ Below w.heap.size w w' ∧ (b = true → P)
def goodDirs (K : Nat) (l : List D) : Prop := ∀ i, i < l.length → ∀ j, j < ((gD l i).f 1).l.length → goodF (K + 1) ((gD ((gD l i).f 1).l j).f 1)
set_option maxRecDepth 100000 in
set_option maxHeartbeats 16000000 in
theorem dirsRightR (K : Nat) (A : Option Addr) (l : List D) (c : Nat) (w0 w : World) (h0 : Below w0.heap.size w0 w) (h : Sl Tryd.prog w0 (fun b => b < w0.heap.size) (K + 1) 101 A l) (hl : l.length ≤ 9223372036854775807) :
    Calls Tryd.prog 111 #[.slice A l.length c] w (Gd (goodDirs K l) w) := by
  have H := Lib.hid h; have H0 := Lib.hid h0
  clear h h0
  by_cases h16 : 16 < l.length
  · have q : decide ((l.length : Int) > 16) = true := decide_eq_true (by omega)
    go_enter Tryd.func111, Tryd.ntmps111
    go_wp2
    go_ret
    exact ⟨_, rfl, Below.refl _ _, fun h => by cases h⟩
  have q : decide ((l.length : Int) > 16) = false := decide_eq_false (by omega)
  go_enter Tryd.func111, Tryd.ntmps111
  go_wp2
  clear q
  go_loopg [3] l.length (fun j i wr => ∃ m : Nat, m + j = l.length ∧ i = .int .i64 m ∧ Below w.heap.size w wr ∧ ∀ i, i < m → ∀ j, j < ((gD l i).f 1).l.length → goodF (K + 1) ((gD ((gD l i).f 1).l j).f 1))
  case atStart => exact ⟨0, by omega, rfl, Below.refl _ _, fun i hi => by omega⟩
  case round =>
    obtain ⟨m, hmj, rfl, hb, hg⟩ := hrel
    have Hb := Lib.hid hb; have HG := Lib.hid hg
    have Hmj := Lib.hid hmj; have hmn : m ≤ l.length := by omega
    clear hmj hb hg
    by_cases hlt : m < l.length
    · obtain ⟨b, off, rfl, hI, hat⟩ := atK101 H.out (by omega)
      obtain ⟨A1, c1, e0, e1, hs0, ⟨s1a, s1b, -, s1⟩, -⟩ := hat m hlt
      have S1 := Lib.hid s1; have G1 := Lib.hid e1
      unfold maxLen at hs0 s1b
      have hn1 : ((gD l m).f 1).l.length ≤ 9223372036854775807 := by omega
      have hB := H0.out.trans (Hb.out.mono H0.out.size)
      replace e0 := (hB.cell (p := ⟨b, _, none⟩) hI).trans e0
      replace e1 := (hB.cell (p := ⟨b, _, none⟩) hI).trans e1
      clear hat s1 hB s1a s1b
      have HN := Lib.hid (fun w => nameR ((gD l m).f 0).s w (by omega)); clear hs0
      go_wp2_with fail
      refine (HN.out _).mono ?_
      rintro e w1 ⟨rfl, rfl⟩
      cases nameB ((gD l m).f 0).s
      · go_wp2
        go_ret
        exact ⟨_, rfl, Hb.out, fun h => by cases h⟩
      by_cases h17 : 16 < ((gD l m).f 1).l.length
      · have q : decide ((((gD l m).f 1).l.length : Int) > 16) = true := decide_eq_true (by omega)
        go_wp2
        go_ret
        exact ⟨_, rfl, Hb.out, fun h => by cases h⟩
      have q : decide ((((gD l m).f 1).l.length : Int) > 16) = false := decide_eq_false (by omega)
      obtain ⟨wo, rfl⟩ : ∃ wo : World, wo = wr := ⟨_, rfl⟩
      go_wp2
      clear q e0 e1
      go_loopg [4] ((gD l m).f 1).l.length (fun j i wi => ∃ k : Nat, k + j = ((gD l m).f 1).l.length ∧ i = .int .i64 k ∧ Below w.heap.size w wi ∧ ∀ j, j < k → goodF (K + 1) ((gD ((gD l m).f 1).l j).f 1))
      case atStart => exact ⟨0, by omega, rfl, Hb.out, fun j hj => by omega⟩
      case round =>
        obtain ⟨k, hkj, rfl, hb, hgi⟩ := hrel
        have Hbi := Lib.hid hb; have HGi := Lib.hid hgi
        have Hkj := Lib.hid hkj; have hkn : k ≤ ((gD l m).f 1).l.length := by omega
        clear hkj hb hgi
        have hB := H0.out.trans (Hbi.out.mono H0.out.size)
        have g1 := (hB.cell (p := ⟨b, _, none⟩) hI).trans G1.out
        by_cases hlk : k < ((gD l m).f 1).l.length
        · obtain ⟨ba, offa, rfl, hIa, hata⟩ := atK103 S1.out (by omega)
          obtain ⟨A4, c4, A5, c5, e0, e1, e2, e3, e4, e5, r0, r1, r2, r3, r4, r5, y⟩ := hata k hlk
          have R := Lib.hid (partK103_1 y)
          have HN := Lib.hid (fun w => nameR (((gD ((gD l m).f 1).l k).f 0).s) w (by unfold maxLen at r0; omega))
          clear hata y r0 r1 r2 r3 r4 r5
          replace e0 := (hB.cell (p := ⟨ba, _, none⟩) hIa).trans e0
          replace e1 := (hB.cell (p := ⟨ba, _, none⟩) hIa).trans e1
          replace e2 := (hB.cell (p := ⟨ba, _, none⟩) hIa).trans e2
          replace e3 := (hB.cell (p := ⟨ba, _, none⟩) hIa).trans e3
          replace e4 := (hB.cell (p := ⟨ba, _, none⟩) hIa).trans e4
          replace e5 := (hB.cell (p := ⟨ba, _, none⟩) hIa).trans e5
          clear hB
          have HW1 := Lib.hid (fun o => Hbi.out.alloc Hbi.out.size o)
          have X1 := Lib.hid (heap_at (w := wr) (o := (.cells #[.string ((gD ((gD l m).f 1).l k).f 0).s, .int .i64 (((gD ((gD l m).f 1).l k).f 1).f 0).n, .int .i64 (((gD ((gD l m).f 1).l k).f 1).f 1).n, .string (((gD ((gD l m).f 1).l k).f 1).f 2).s, .slice A4 (((gD ((gD l m).f 1).l k).f 1).f 3).l.length c4, .slice A5 (((gD ((gD l m).f 1).l k).f 1).f 4).l.length c5] 103)) rfl)
          go_wp2_with fail
          refine (HN.out _).mono ?_
          rintro e w1 ⟨rfl, rfl⟩
          cases nameB ((gD ((gD l m).f 1).l k).f 0).s
          · go_wp2
            go_ret
            exact ⟨_, rfl, HW1.out _, fun h => by cases h⟩
          go_wp2_with fail
          refine (literalR K #[.int .i64 (((gD ((gD l m).f 1).l k).f 1).f 0).n, .int .i64 (((gD ((gD l m).f 1).l k).f 1).f 1).n, .string (((gD ((gD l m).f 1).l k).f 1).f 2).s, .slice A4 (((gD ((gD l m).f 1).l k).f 1).f 3).l.length c4, .slice A5 (((gD ((gD l m).f 1).l k).f 1).f 4).l.length c5] ((gD ((gD l m).f 1).l k).f 1) w0 _ ⟨H0.out.trans ((HW1.out _).mono H0.out.size), R.out⟩).mono ?_
          rintro e w2 ⟨b2, rfl, bb, hg2⟩
          have HW2 := Lib.hid ((HW1.out _).trans (bb.mono (HW1.out _).size))
          have X2 := Lib.hid ((bb.block _ (heap_lt X1.out)).trans X1.out)
          have HG2 := Lib.hid hg2
          clear bb hg2 e0 e1 e2 e3 e4 e5 g1
          cases b2
          · go_wp2
            go_ret
            exact ⟨_, rfl, HW2.out, fun h => by cases h⟩
          have k0 := cell_heap (o := 0) X2.out rfl
          have k1 := cell_heap (o := 1) X2.out rfl
          have k2 := cell_heap (o := 2) X2.out rfl
          have k3 := cell_heap (o := 3) X2.out rfl
          have k4 := cell_heap (o := 4) X2.out rfl
          have k5 := cell_heap (o := 5) X2.out rfl
          go_wp2_with fail
          refine (closedR (K + 1) #[.int .i64 (((gD ((gD l m).f 1).l k).f 1).f 0).n, .int .i64 (((gD ((gD l m).f 1).l k).f 1).f 1).n, .string (((gD ((gD l m).f 1).l k).f 1).f 2).s, .slice A4 (((gD ((gD l m).f 1).l k).f 1).f 3).l.length c4, .slice A5 (((gD ((gD l m).f 1).l k).f 1).f 4).l.length c5] ((gD ((gD l m).f 1).l k).f 1) w0 _ ⟨H0.out.trans (HW2.out.mono H0.out.size), R.out⟩).mono ?_
          rintro e w3 ⟨b3, rfl, bb⟩
          have HW3 := Lib.hid (HW2.out.trans (bb.mono HW2.out.size))
          clear bb k0 k1 k2 k3 k4 k5
          cases b3
          · go_wp2
            go_ret
            exact ⟨_, rfl, HW3.out, fun h => by cases h⟩
          · have HGn := Lib.hid (show ∀ j, j < k + 1 → goodF (K + 1) ((gD ((gD l m).f 1).l j).f 1) from fun j hj => (Nat.lt_succ_iff_lt_or_eq.1 hj).elim (fun h' => HGi.out j h') (fun h' => by rw [h']; exact HG2.out (by first | rfl | trivial)))
            go_wp2
            go_roundg (((gD l m).f 1).l.length - k - 1)
            case measure => have := Hkj.out; omega
            case rel => exact ⟨k + 1, by have := Hkj.out; omega, by go_num, HW3.out, HGn.out⟩
        · have HGn := Lib.hid (show ∀ i, i < m + 1 → ∀ j, j < ((gD l i).f 1).l.length → goodF (K + 1) ((gD ((gD l i).f 1).l j).f 1) from fun i hi => (Nat.lt_succ_iff_lt_or_eq.1 hi).elim (fun h' => HG.out i h') (fun h' => by rw [h']; exact fun j hj => HGi.out j (by omega)))
          clear hB
          go_wp2
          go_roundg (l.length - m - 1)
          case measure => have := Hmj.out; omega
          case rel => exact ⟨m + 1, by have := Hmj.out; omega, by go_num, Hbi.out, HGn.out⟩
    · have HGn := Lib.hid (show goodDirs K l from fun i hi => HG.out i (by omega))
      go_wp2
      go_ret
      exact ⟨_, rfl, Hb.out, fun _ => HGn.out⟩
end Go.Proofs.YtohneabalakmeaaDoor
namespace Go.Proofs.YtohneabalakmeaaDoor
open Go.RowKit
attribute [local irreducible] wpList Calls Code.wp
def goodIn (K : Nat) (x : D) : Prop := goodDirs K (x.f 4).l ∧ ((x.f 2).b = true → goodF (K + 1) (x.f 3))
def goodIns (K : Nat) (l : List D) : Prop := ∀ i, i < l.length → goodIn K (gD l i)
set_option maxRecDepth 100000 in
set_option maxHeartbeats 16000000 in
theorem inputsRightR (K : Nat) (A : Option Addr) (l : List D) (c : Nat) (w0 w : World) (h0 : Below w0.heap.size w0 w) (h : Sl Tryd.prog w0 (fun b => b < w0.heap.size) (K + 1) 132 A l) (hl : l.length ≤ 9223372036854775807) :
    Calls Tryd.prog 114 #[.slice A l.length c] w (Gd (goodIns K l) w) := by
  have H := Lib.hid h; have H0 := Lib.hid h0
  clear h h0
  by_cases h16 : 16 < l.length
  · have q : decide ((l.length : Int) > 16) = true := decide_eq_true (by omega)
    go_enter Tryd.func114, Tryd.ntmps114
    go_wp2
    go_ret
    exact ⟨_, rfl, Below.refl _ _, fun h => by cases h⟩
  have q : decide ((l.length : Int) > 16) = false := decide_eq_false (by omega)
  go_enter Tryd.func114, Tryd.ntmps114
  go_wp2
  clear q
  go_loopg [3] l.length (fun j i wr => ∃ m : Nat, m + j = l.length ∧ i = .int .i64 m ∧ Below w.heap.size w wr ∧ ∀ i, i < m → goodIn K (gD l i))
  case atStart => exact ⟨0, by omega, rfl, Below.refl _ _, fun i hi => by omega⟩
  case round =>
    obtain ⟨m, hmj, rfl, hb, hg⟩ := hrel
    have Hb := Lib.hid hb; have HG := Lib.hid hg
    have Hmj := Lib.hid hmj; have hmn : m ≤ l.length := by omega
    clear hmj hb hg
    by_cases hlt : m < l.length
    · obtain ⟨b, off, rfl, hI, hat⟩ := atK132 H.out (by omega)
      obtain ⟨A2, c2, A7, c7, A8, c8, A9, c9, e0, e1, e2, e3, e4, e5, e6, e7, e8, e9, r0, r1, r2, r4, r5, r6, r7, r8, r9, y⟩ := hat m hlt
      have HRf := Lib.hid (partK132_1 y); have HV := Lib.hid (partK132_3 y)
      have HN := Lib.hid (fun w => nameR (((gD l m).f 0).s) w (by unfold maxLen at r0; omega))
      have HQ := Lib.hid (fun w (h0 : Below w0.heap.size w0 w) => refRightR (((gD l m).f 1).f 0).s A2 (((gD l m).f 1).f 1).l c2 w0 w h0 ⟨_, r2.2.2.2⟩ (by have := r2.1; have := r2.2.1; unfold maxLen at this; omega) (by unfold maxLen at r1; omega))
      have HD := Lib.hid (fun w (h0 : Below w0.heap.size w0 w) => dirsRightR K A9 ((gD l m).f 4).l c9 w0 w h0 r9.2.2.2 (by have := r9.1; have := r9.2.1; unfold maxLen at this; omega))
      have HL := Lib.hid (fun w (h0 : Below w0.heap.size w0 w) => literalR K #[.int .i64 (((gD l m).f 3).f 0).n, .int .i64 (((gD l m).f 3).f 1).n, .string (((gD l m).f 3).f 2).s, .slice A7 (((gD l m).f 3).f 3).l.length c7, .slice A8 (((gD l m).f 3).f 4).l.length c8] ((gD l m).f 3) w0 w ⟨h0, HV.out⟩)
      have HC := Lib.hid (fun w (h0 : Below w0.heap.size w0 w) => closedR (K + 1) #[.int .i64 (((gD l m).f 3).f 0).n, .int .i64 (((gD l m).f 3).f 1).n, .string (((gD l m).f 3).f 2).s, .slice A7 (((gD l m).f 3).f 3).l.length c7, .slice A8 (((gD l m).f 3).f 4).l.length c8] ((gD l m).f 3) w0 w ⟨h0, HV.out⟩)
      have HZ := Lib.hid (fun w (h0 : Below w0.heap.size w0 w) => nullR K #[.int .i64 (((gD l m).f 3).f 0).n, .int .i64 (((gD l m).f 3).f 1).n, .string (((gD l m).f 3).f 2).s, .slice A7 (((gD l m).f 3).f 3).l.length c7, .slice A8 (((gD l m).f 3).f 4).l.length c8] ((gD l m).f 3) w0 w ⟨h0, HV.out⟩)
      have hB := H0.out.trans (Hb.out.mono H0.out.size)
      replace e0 := (hB.cell (p := ⟨b, _, none⟩) hI).trans e0
      replace e1 := (hB.cell (p := ⟨b, _, none⟩) hI).trans e1
      replace e2 := (hB.cell (p := ⟨b, _, none⟩) hI).trans e2
      replace e3 := (hB.cell (p := ⟨b, _, none⟩) hI).trans e3
      replace e4 := (hB.cell (p := ⟨b, _, none⟩) hI).trans e4
      replace e5 := (hB.cell (p := ⟨b, _, none⟩) hI).trans e5
      replace e6 := (hB.cell (p := ⟨b, _, none⟩) hI).trans e6
      replace e7 := (hB.cell (p := ⟨b, _, none⟩) hI).trans e7
      replace e8 := (hB.cell (p := ⟨b, _, none⟩) hI).trans e8
      replace e9 := (hB.cell (p := ⟨b, _, none⟩) hI).trans e9
      clear hat y hB r0 r1 r2 r4 r5 r6 r7 r8 r9
      have B1 := Lib.hid (Hb.out.alloc Hb.out.size (.cells #[.string ((gD l m).f 0).s, .string (((gD l m).f 1).f 0).s, .slice A2 (((gD l m).f 1).f 1).l.length c2, .bool ((gD l m).f 2).b, .int .i64 (((gD l m).f 3).f 0).n, .int .i64 (((gD l m).f 3).f 1).n, .string (((gD l m).f 3).f 2).s, .slice A7 (((gD l m).f 3).f 3).l.length c7, .slice A8 (((gD l m).f 3).f 4).l.length c8, .slice A9 ((gD l m).f 4).l.length c9] 132))
      have X1 := Lib.hid (heap_at (w := wr) (o := (.cells #[.string ((gD l m).f 0).s, .string (((gD l m).f 1).f 0).s, .slice A2 (((gD l m).f 1).f 1).l.length c2, .bool ((gD l m).f 2).b, .int .i64 (((gD l m).f 3).f 0).n, .int .i64 (((gD l m).f 3).f 1).n, .string (((gD l m).f 3).f 2).s, .slice A7 (((gD l m).f 3).f 3).l.length c7, .slice A8 (((gD l m).f 3).f 4).l.length c8, .slice A9 ((gD l m).f 4).l.length c9] 132)) rfl)
      go_wp2_with fail
      refine (HN.out _).mono ?_
      rintro e w1 ⟨rfl, rfl⟩
      cases nameB ((gD l m).f 0).s
      · go_wp2
        go_ret
        exact ⟨_, rfl, B1.out, fun h => by cases h⟩
      go_wp2_with fail
      refine (HQ.out _ (H0.out.trans (B1.out.mono H0.out.size))).mono ?_
      rintro e w2 ⟨bw2, rfl, bb⟩
      have Bw2 := Lib.hid (B1.out.trans (bb.mono B1.out.size))
      have Xw2 := Lib.hid ((bb.block _ (heap_lt X1.out)).trans X1.out)
      clear bb
      cases bw2
      · go_wp2
        go_ret
        exact ⟨_, rfl, Bw2.out, fun h => by cases h⟩
      have k0 := cell_heap (o := 0) Xw2.out rfl
      have k1 := cell_heap (o := 1) Xw2.out rfl
      have k2 := cell_heap (o := 2) Xw2.out rfl
      have k3 := cell_heap (o := 3) Xw2.out rfl
      have k4 := cell_heap (o := 4) Xw2.out rfl
      have k5 := cell_heap (o := 5) Xw2.out rfl
      have k6 := cell_heap (o := 6) Xw2.out rfl
      have k7 := cell_heap (o := 7) Xw2.out rfl
      have k8 := cell_heap (o := 8) Xw2.out rfl
      have k9 := cell_heap (o := 9) Xw2.out rfl
      go_wp2_with fail
      refine (HD.out _ (H0.out.trans (Bw2.out.mono H0.out.size))).mono ?_
      rintro e w3 ⟨bw3, rfl, bb, hg⟩
      have Bw3 := Lib.hid (Bw2.out.trans (bb.mono Bw2.out.size))
      have Xw3 := Lib.hid ((bb.block _ (heap_lt Xw2.out)).trans Xw2.out)
      have G3 := Lib.hid hg
      clear bb hg k0 k1 k2 k3 k4 k5 k6 k7 k8 k9
      cases bw3
      · go_wp2
        go_ret
        exact ⟨_, rfl, Bw3.out, fun h => by cases h⟩
      have k0 := cell_heap (o := 0) Xw3.out rfl
      have k1 := cell_heap (o := 1) Xw3.out rfl
      have k2 := cell_heap (o := 2) Xw3.out rfl
      have k3 := cell_heap (o := 3) Xw3.out rfl
      have k4 := cell_heap (o := 4) Xw3.out rfl
      have k5 := cell_heap (o := 5) Xw3.out rfl
      have k6 := cell_heap (o := 6) Xw3.out rfl
      have k7 := cell_heap (o := 7) Xw3.out rfl
      have k8 := cell_heap (o := 8) Xw3.out rfl
      have k9 := cell_heap (o := 9) Xw3.out rfl
      cases hhas : ((gD l m).f 2).b
      · go_wp2_with fail
        refine (HZ.out _ (H0.out.trans (Bw3.out.mono H0.out.size))).mono ?_
        rintro e w4 ⟨b4, rfl, bb⟩
        have B4 := Lib.hid (Bw3.out.trans (bb.mono Bw3.out.size))
        clear bb k0 k1 k2 k3 k4 k5 k6 k7 k8 k9
        cases b4
        · go_wp2
          go_ret
          exact ⟨_, rfl, B4.out, fun h => by cases h⟩
        · have HGn := Lib.hid (show ∀ i, i < m + 1 → goodIn K (gD l i) from fun i hi => (Nat.lt_succ_iff_lt_or_eq.1 hi).elim (fun h' => HG.out i h') (fun h' => by rw [h']; exact ⟨G3.out (by first | rfl | trivial), fun h => by rw [hhas] at h; cases h⟩))
          go_wp2
          go_roundg (l.length - m - 1)
          case measure => have := Hmj.out; omega
          case rel => exact ⟨m + 1, by have := Hmj.out; omega, by go_num, B4.out, HGn.out⟩
      · go_wp2_with fail
        refine (HL.out _ (H0.out.trans (Bw3.out.mono H0.out.size))).mono ?_
        rintro e w4 ⟨b4, rfl, bb, hg4⟩
        have B4 := Lib.hid (Bw3.out.trans (bb.mono Bw3.out.size))
        have X4 := Lib.hid ((bb.block _ (heap_lt Xw3.out)).trans Xw3.out)
        have G4 := Lib.hid hg4
        clear bb hg4 k0 k1 k2 k3 k4 k5 k6 k7 k8 k9
        cases b4
        · go_wp2
          go_ret
          exact ⟨_, rfl, B4.out, fun h => by cases h⟩
        have k0 := cell_heap (o := 0) X4.out rfl
        have k1 := cell_heap (o := 1) X4.out rfl
        have k2 := cell_heap (o := 2) X4.out rfl
        have k3 := cell_heap (o := 3) X4.out rfl
        have k4 := cell_heap (o := 4) X4.out rfl
        have k5 := cell_heap (o := 5) X4.out rfl
        have k6 := cell_heap (o := 6) X4.out rfl
        have k7 := cell_heap (o := 7) X4.out rfl
        have k8 := cell_heap (o := 8) X4.out rfl
        have k9 := cell_heap (o := 9) X4.out rfl
        go_wp2_with fail
        refine (HC.out _ (H0.out.trans (B4.out.mono H0.out.size))).mono ?_
        rintro e w5 ⟨b5, rfl, bb⟩
        have B5 := Lib.hid (B4.out.trans (bb.mono B4.out.size))
        have X5 := Lib.hid ((bb.block _ (heap_lt X4.out)).trans X4.out)
        clear bb k0 k1 k2 k3 k4 k5 k6 k7 k8 k9
        cases b5
        · go_wp2
          go_ret
          exact ⟨_, rfl, B5.out, fun h => by cases h⟩
        · have HGn := Lib.hid (show ∀ i, i < m + 1 → goodIn K (gD l i) from fun i hi => (Nat.lt_succ_iff_lt_or_eq.1 hi).elim (fun h' => HG.out i h') (fun h' => by rw [h']; exact ⟨G3.out (by first | rfl | trivial), fun _ => G4.out (by first | rfl | trivial)⟩))
          have k0 := cell_heap (o := 0) X5.out rfl
          have k1 := cell_heap (o := 1) X5.out rfl
          have k2 := cell_heap (o := 2) X5.out rfl
          have k3 := cell_heap (o := 3) X5.out rfl
          have k4 := cell_heap (o := 4) X5.out rfl
          have k5 := cell_heap (o := 5) X5.out rfl
          have k6 := cell_heap (o := 6) X5.out rfl
          have k7 := cell_heap (o := 7) X5.out rfl
          have k8 := cell_heap (o := 8) X5.out rfl
          have k9 := cell_heap (o := 9) X5.out rfl
          go_wp2
          go_roundg (l.length - m - 1)
          case measure => have := Hmj.out; omega
          case rel => exact ⟨m + 1, by have := Hmj.out; omega, by go_num, B5.out, HGn.out⟩
    · have HGn := Lib.hid (show goodIns K l from fun i hi => HG.out i (by omega))
      go_wp2
      go_ret
      exact ⟨_, rfl, Hb.out, fun _ => HGn.out⟩
end Go.Proofs.YtohneabalakmeaaDoor
namespace Go.Proofs.YtohneabalakmeaaDoor
open Go.RowKit
attribute [local irreducible] wpList Calls Code.wp
def goodField (K : Nat) (x : D) : Prop := goodIns K (x.f 1).l ∧ goodDirs K (x.f 3).l
def goodFields (K : Nat) (l : List D) : Prop := ∀ i, i < l.length → goodField K (gD l i)
def goodMem (K : Nat) (x : D) : Prop := goodDirs K (x.f 1).l
def goodMems (K : Nat) (l : List D) : Prop := ∀ i, i < l.length → goodMem K (gD l i)
set_option maxRecDepth 100000 in
set_option maxHeartbeats 16000000 in
theorem fieldsRightR (K : Nat) (A : Option Addr) (l : List D) (c : Nat) (w0 w : World) (h0 : Below w0.heap.size w0 w) (h : Sl Tryd.prog w0 (fun b => b < w0.heap.size) (K + 1) 64 A l) (hl : l.length ≤ 9223372036854775807) :
    Calls Tryd.prog 112 #[.slice A l.length c] w (Gd (goodFields K l) w) := by
  have H := Lib.hid h; have H0 := Lib.hid h0
  clear h h0
  by_cases h1 : l.length < 1
  · have q : decide ((l.length : Int) < 1) = true := decide_eq_true (by omega)
    go_enter Tryd.func112, Tryd.ntmps112
    go_wp2
    go_ret
    exact ⟨_, rfl, Below.refl _ _, fun h => by cases h⟩
  have q1 : decide ((l.length : Int) < 1) = false := decide_eq_false (by omega)
  by_cases h64 : 64 < l.length
  · have q : decide ((l.length : Int) > 64) = true := decide_eq_true (by omega)
    go_enter Tryd.func112, Tryd.ntmps112
    go_wp2
    go_ret
    exact ⟨_, rfl, Below.refl _ _, fun h => by cases h⟩
  have q : decide ((l.length : Int) > 64) = false := decide_eq_false (by omega)
  go_enter Tryd.func112, Tryd.ntmps112
  go_wp2
  clear q q1
  go_loopg [3] l.length (fun j i wr => ∃ m : Nat, m + j = l.length ∧ i = .int .i64 m ∧ Below w.heap.size w wr ∧ ∀ i, i < m → goodField K (gD l i))
  case atStart => exact ⟨0, by omega, rfl, Below.refl _ _, fun i hi => by omega⟩
  case round =>
    obtain ⟨m, hmj, rfl, hb, hg⟩ := hrel
    have Hb := Lib.hid hb; have HG := Lib.hid hg
    have Hmj := Lib.hid hmj; have hmn : m ≤ l.length := by omega
    clear hmj hb hg
    by_cases hlt : m < l.length
    · obtain ⟨b, off, rfl, hI, hat⟩ := atK64 H.out (by omega)
      obtain ⟨A1, c1, A3, c3, A4, c4, z0, z1, z2, z3, z4, r0, r1, r2, r3, r4, y⟩ := hat m hlt
      have HN := Lib.hid (fun w => nameR (((gD l m).f 0).s) w (by unfold maxLen at r0; omega))
      have HI := Lib.hid (fun w (h0 : Below w0.heap.size w0 w) => inputsRightR K A1 ((gD l m).f 1).l c1 w0 w h0 r1.2.2.2 (by have := r1.1; have := r1.2.1; unfold maxLen at this; omega))
      have HQ := Lib.hid (fun w (h0 : Below w0.heap.size w0 w) => refRightR (((gD l m).f 2).f 0).s A3 (((gD l m).f 2).f 1).l c3 w0 w h0 ⟨_, r3.2.2.2⟩ (by have := r3.1; have := r3.2.1; unfold maxLen at this; omega) (by unfold maxLen at r2; omega))
      have HD := Lib.hid (fun w (h0 : Below w0.heap.size w0 w) => dirsRightR K A4 ((gD l m).f 3).l c4 w0 w h0 r4.2.2.2 (by have := r4.1; have := r4.2.1; unfold maxLen at this; omega))
      have G0 := Lib.hid z0
      have G1 := Lib.hid z1
      have G2 := Lib.hid z2
      have G3 := Lib.hid z3
      have G4 := Lib.hid z4
      clear hat y z0 z1 z2 z3 z4 r0 r1 r2 r3 r4
      have e0 := ((H0.out.trans (Hb.out.mono H0.out.size)).cell (p := ⟨b, _, none⟩) hI).trans G0.out
      have e1 := ((H0.out.trans (Hb.out.mono H0.out.size)).cell (p := ⟨b, _, none⟩) hI).trans G1.out
      have e2 := ((H0.out.trans (Hb.out.mono H0.out.size)).cell (p := ⟨b, _, none⟩) hI).trans G2.out
      have e3 := ((H0.out.trans (Hb.out.mono H0.out.size)).cell (p := ⟨b, _, none⟩) hI).trans G3.out
      have e4 := ((H0.out.trans (Hb.out.mono H0.out.size)).cell (p := ⟨b, _, none⟩) hI).trans G4.out
      have HN2 := HN.out wr
      go_wp2_with fail
      refine HN2.mono ?_
      rintro e w1 ⟨rfl, rfl⟩
      cases nameB ((gD l m).f 0).s
      · go_wp2
        go_ret
        exact ⟨_, rfl, Hb.out, fun h => by cases h⟩
      go_wp2_with fail
      refine (HI.out _ (H0.out.trans (Hb.out.mono H0.out.size))).mono ?_
      rintro e w2 ⟨bw2, rfl, bb, hg⟩
      have Bw2 := Lib.hid (Hb.out.trans (bb.mono Hb.out.size))
      have GI := Lib.hid hg
      clear bb hg e0 e1 e2 e3 e4
      cases bw2
      · go_wp2
        go_ret
        exact ⟨_, rfl, Bw2.out, fun h => by cases h⟩
      have e0 := ((H0.out.trans (Bw2.out.mono H0.out.size)).cell (p := ⟨b, _, none⟩) hI).trans G0.out
      have e1 := ((H0.out.trans (Bw2.out.mono H0.out.size)).cell (p := ⟨b, _, none⟩) hI).trans G1.out
      have e2 := ((H0.out.trans (Bw2.out.mono H0.out.size)).cell (p := ⟨b, _, none⟩) hI).trans G2.out
      have e3 := ((H0.out.trans (Bw2.out.mono H0.out.size)).cell (p := ⟨b, _, none⟩) hI).trans G3.out
      have e4 := ((H0.out.trans (Bw2.out.mono H0.out.size)).cell (p := ⟨b, _, none⟩) hI).trans G4.out
      go_wp2_with fail
      refine (HQ.out _ (H0.out.trans (Bw2.out.mono H0.out.size))).mono ?_
      rintro e w3 ⟨bw3, rfl, bb⟩
      have Bw3 := Lib.hid (Bw2.out.trans (bb.mono Bw2.out.size))
      clear bb e0 e1 e2 e3 e4
      cases bw3
      · go_wp2
        go_ret
        exact ⟨_, rfl, Bw3.out, fun h => by cases h⟩
      have e0 := ((H0.out.trans (Bw3.out.mono H0.out.size)).cell (p := ⟨b, _, none⟩) hI).trans G0.out
      have e1 := ((H0.out.trans (Bw3.out.mono H0.out.size)).cell (p := ⟨b, _, none⟩) hI).trans G1.out
      have e2 := ((H0.out.trans (Bw3.out.mono H0.out.size)).cell (p := ⟨b, _, none⟩) hI).trans G2.out
      have e3 := ((H0.out.trans (Bw3.out.mono H0.out.size)).cell (p := ⟨b, _, none⟩) hI).trans G3.out
      have e4 := ((H0.out.trans (Bw3.out.mono H0.out.size)).cell (p := ⟨b, _, none⟩) hI).trans G4.out
      go_wp2_with fail
      refine (HD.out _ (H0.out.trans (Bw3.out.mono H0.out.size))).mono ?_
      rintro e w4 ⟨bw4, rfl, bb, hg⟩
      have Bw4 := Lib.hid (Bw3.out.trans (bb.mono Bw3.out.size))
      have GD := Lib.hid hg
      clear bb hg e0 e1 e2 e3 e4
      cases bw4
      · go_wp2
        go_ret
        exact ⟨_, rfl, Bw4.out, fun h => by cases h⟩
      have e0 := ((H0.out.trans (Bw4.out.mono H0.out.size)).cell (p := ⟨b, _, none⟩) hI).trans G0.out
      have e1 := ((H0.out.trans (Bw4.out.mono H0.out.size)).cell (p := ⟨b, _, none⟩) hI).trans G1.out
      have e2 := ((H0.out.trans (Bw4.out.mono H0.out.size)).cell (p := ⟨b, _, none⟩) hI).trans G2.out
      have e3 := ((H0.out.trans (Bw4.out.mono H0.out.size)).cell (p := ⟨b, _, none⟩) hI).trans G3.out
      have e4 := ((H0.out.trans (Bw4.out.mono H0.out.size)).cell (p := ⟨b, _, none⟩) hI).trans G4.out
      have HGn := Lib.hid (show ∀ i, i < m + 1 → goodField K (gD l i) from fun i hi => (Nat.lt_succ_iff_lt_or_eq.1 hi).elim (fun h' => HG.out i h') (fun h' => by rw [h']; exact ⟨GI.out (by first | rfl | trivial), GD.out (by first | rfl | trivial)⟩))
      go_wp2
      go_roundg (l.length - m - 1)
      case measure => have := Hmj.out; omega
      case rel => exact ⟨m + 1, by have := Hmj.out; omega, by go_num, Bw4.out, HGn.out⟩
    · have HGn := Lib.hid (show goodFields K l from fun i hi => HG.out i (by omega))
      go_wp2
      go_ret
      exact ⟨_, rfl, Hb.out, fun _ => HGn.out⟩
set_option maxRecDepth 100000 in
set_option maxHeartbeats 16000000 in
theorem membersRightR (K : Nat) (A : Option Addr) (l : List D) (c : Nat) (pl : Bool) (w0 w : World) (h0 : Below w0.heap.size w0 w) (h : Sl Tryd.prog w0 (fun b => b < w0.heap.size) (K + 1) 112 A l) (hl : l.length ≤ 9223372036854775807) :
    Calls Tryd.prog 113 #[.slice A l.length c, .bool pl] w (Gd (goodMems K l) w) := by
  have H := Lib.hid h; have H0 := Lib.hid h0
  clear h h0
  by_cases h1 : l.length < 1
  · have q : decide ((l.length : Int) < 1) = true := decide_eq_true (by omega)
    go_enter Tryd.func113, Tryd.ntmps113
    go_wp2
    go_ret
    exact ⟨_, rfl, Below.refl _ _, fun h => by cases h⟩
  have q1 : decide ((l.length : Int) < 1) = false := decide_eq_false (by omega)
  by_cases h64 : 64 < l.length
  · have q : decide ((l.length : Int) > 64) = true := decide_eq_true (by omega)
    go_enter Tryd.func113, Tryd.ntmps113
    go_wp2
    go_ret
    exact ⟨_, rfl, Below.refl _ _, fun h => by cases h⟩
  have q : decide ((l.length : Int) > 64) = false := decide_eq_false (by omega)
  go_enter Tryd.func113, Tryd.ntmps113
  go_wp2
  clear q q1
  go_loopg [5] l.length (fun j i wr => ∃ m : Nat, m + j = l.length ∧ i = .int .i64 m ∧ Below w.heap.size w wr ∧ ∀ i, i < m → goodMem K (gD l i))
  case atStart => exact ⟨0, by omega, rfl, Below.refl _ _, fun i hi => by omega⟩
  case round =>
    obtain ⟨m, hmj, rfl, hb, hg⟩ := hrel
    have Hb := Lib.hid hb; have HG := Lib.hid hg
    have Hmj := Lib.hid hmj; have hmn : m ≤ l.length := by omega
    clear hmj hb hg
    by_cases hlt : m < l.length
    · obtain ⟨b, off, rfl, hI, hat⟩ := atK112 H.out (by omega)
      obtain ⟨A1, c1, z0, z1, r0, r1, y⟩ := hat m hlt
      have HN := Lib.hid (fun w => nameR (((gD l m).f 0).s) w (by unfold maxLen at r0; omega))
      have HD := Lib.hid (fun w (h0 : Below w0.heap.size w0 w) => dirsRightR K A1 ((gD l m).f 1).l c1 w0 w h0 r1.2.2.2 (by have := r1.1; have := r1.2.1; unfold maxLen at this; omega))
      have hdl : ((gD l m).f 1).l.length ≤ 9223372036854775807 := by have := r1.1; have := r1.2.1; unfold maxLen at this; omega
      have G0 := Lib.hid z0
      have G1 := Lib.hid z1
      clear hat y z0 z1 r0 r1
      have e0 := ((H0.out.trans (Hb.out.mono H0.out.size)).cell (p := ⟨b, _, none⟩) hI).trans G0.out
      have e1 := ((H0.out.trans (Hb.out.mono H0.out.size)).cell (p := ⟨b, _, none⟩) hI).trans G1.out
      have HN2 := HN.out wr
      go_wp2_with fail
      refine HN2.mono ?_
      rintro e w1 ⟨rfl, rfl⟩
      cases nameB ((gD l m).f 0).s
      · go_wp2
        go_ret
        exact ⟨_, rfl, Hb.out, fun h => by cases h⟩
      go_wp2_with fail
      refine (HD.out _ (H0.out.trans (Hb.out.mono H0.out.size))).mono ?_
      rintro e w2 ⟨bw2, rfl, bb, hg⟩
      have Bw2 := Lib.hid (Hb.out.trans (bb.mono Hb.out.size))
      have GD := Lib.hid hg
      clear bb hg e0 e1
      cases bw2
      · go_wp2
        go_ret
        exact ⟨_, rfl, Bw2.out, fun h => by cases h⟩
      have e0 := ((H0.out.trans (Bw2.out.mono H0.out.size)).cell (p := ⟨b, _, none⟩) hI).trans G0.out
      have e1 := ((H0.out.trans (Bw2.out.mono H0.out.size)).cell (p := ⟨b, _, none⟩) hI).trans G1.out
      cases pl
      · have HGn := Lib.hid (show ∀ i, i < m + 1 → goodMem K (gD l i) from fun i hi => (Nat.lt_succ_iff_lt_or_eq.1 hi).elim (fun h' => HG.out i h') (fun h' => by rw [h']; exact GD.out (by first | rfl | trivial)))
        go_wp2
        go_roundg (l.length - m - 1)
        case measure => have := Hmj.out; omega
        case rel => exact ⟨m + 1, by have := Hmj.out; omega, by go_num, Bw2.out, HGn.out⟩
      by_cases hz : 0 < ((gD l m).f 1).l.length
      · have q : decide ((((gD l m).f 1).l.length : Int) > 0) = true := decide_eq_true (by omega)
        go_wp2
        go_ret
        exact ⟨_, rfl, Bw2.out, fun h => by cases h⟩
      · have q : decide ((((gD l m).f 1).l.length : Int) > 0) = false := decide_eq_false (by omega)
        have HGn := Lib.hid (show ∀ i, i < m + 1 → goodMem K (gD l i) from fun i hi => (Nat.lt_succ_iff_lt_or_eq.1 hi).elim (fun h' => HG.out i h') (fun h' => by rw [h']; exact GD.out (by first | rfl | trivial)))
        go_wp2
        go_roundg (l.length - m - 1)
        case measure => have := Hmj.out; omega
        case rel => exact ⟨m + 1, by have := Hmj.out; omega, by go_num, Bw2.out, HGn.out⟩
    · have HGn := Lib.hid (show goodMems K l from fun i hi => HG.out i (by omega))
      go_wp2
      go_ret
      exact ⟨_, rfl, Hb.out, fun _ => HGn.out⟩
end Go.Proofs.YtohneabalakmeaaDoor
namespace Go.Proofs.YtohneabalakmeaaDoor
open Go.RowKit
attribute [local irreducible] wpList Calls Code.wp
def goodDef (K : Nat) (x : D) : Prop := (1 ≤ (x.f 0).n ∧ (x.f 0).n ≤ 5) ∧ goodDirs K (x.f 3).l ∧ goodFields K (x.f 4).l ∧ goodMems K (x.f 5).l ∧ goodIns K (x.f 6).l
theorem goodFields_nil {K : Nat} {l : List D} (h : l.length = 0) : goodFields K l := fun i hi => by omega
theorem goodMems_nil {K : Nat} {l : List D} (h : l.length = 0) : goodMems K l := fun i hi => by omega
theorem goodIns_nil {K : Nat} {l : List D} (h : l.length = 0) : goodIns K l := fun i hi => by omega
set_option maxRecDepth 100000 in
set_option maxHeartbeats 32000000 in
theorem defRightR (K : Nat) (cs : Array Value) (d : D) (w0 w : World) (h0 : Below w0.heap.size w0 w) (h : Rep Tryd.prog w0 (fun b => b < w0.heap.size) (K + 1) 58 cs.toList d) :
    Calls Tryd.prog 78 #[.agg cs] w (Gd (goodDef K d) w) := by
  obtain ⟨A2, c2, A3, c3, A4, c4, A5, c5, A6, c6, rfl, r0, r1, ⟨r2a, r2b, -, r2⟩, ⟨r3a, r3b, -, r3⟩, ⟨r4a, r4b, -, r4⟩, ⟨r5a, r5b, -, r5⟩, ⟨r6a, r6b, -, r6⟩⟩ := inK58 h
  unfold maxLen at r1 r2b r3b r4b r5b r6b
  have H0 := Lib.hid h0
  have HN := Lib.hid (fun w => nameR (d.f 1).s w (by omega))
  have HD := Lib.hid (fun w (h0 : Below w0.heap.size w0 w) => dirsRightR K A3 (d.f 3).l c3 w0 w h0 r3 (by omega))
  have HF := Lib.hid (fun w (h0 : Below w0.heap.size w0 w) => fieldsRightR K A4 (d.f 4).l c4 w0 w h0 r4 (by omega))
  have HM := Lib.hid (fun pl w (h0 : Below w0.heap.size w0 w) => membersRightR K A5 (d.f 5).l c5 pl w0 w h0 r5 (by omega))
  have HI := Lib.hid (fun w (h0 : Below w0.heap.size w0 w) => inputsRightR K A6 (d.f 6).l c6 w0 w h0 r6 (by omega))
  have S2 := Lib.hid r2
  have hl2 : (d.f 2).l.length ≤ 9223372036854775807 := by omega
  clear h h0 r0 r1 r2a r2b r2 r3a r3b r3 r4a r4b r4 r5a r5b r5 r6a r6b r6
  have B1 := Lib.hid ((Below.refl w.heap.size w).alloc (Nat.le_refl _) (.cells #[.int .i64 (d.f 0).n, .string (d.f 1).s, .slice A2 (d.f 2).l.length c2, .slice A3 (d.f 3).l.length c3, .slice A4 (d.f 4).l.length c4, .slice A5 (d.f 5).l.length c5, .slice A6 (d.f 6).l.length c6] 58))
  have X1 := Lib.hid (heap_at (w := w) (o := (.cells #[.int .i64 (d.f 0).n, .string (d.f 1).s, .slice A2 (d.f 2).l.length c2, .slice A3 (d.f 3).l.length c3, .slice A4 (d.f 4).l.length c4, .slice A5 (d.f 5).l.length c5, .slice A6 (d.f 6).l.length c6] 58)) rfl)
  go_enter Tryd.func78, Tryd.ntmps78
  go_wp2_with fail
  refine (HN.out _).mono ?_
  rintro e w1 ⟨rfl, rfl⟩
  cases nameB (d.f 1).s
  · go_wp2
    go_ret
    exact ⟨_, rfl, B1.out, fun h => by cases h⟩
  go_wp2_with fail
  refine (HD.out _ (H0.out.trans (B1.out.mono H0.out.size))).mono ?_
  rintro e w2 ⟨bd, rfl, bb, hg⟩
  have B2 := Lib.hid (B1.out.trans (bb.mono B1.out.size))
  have X2 := Lib.hid ((bb.block _ (heap_lt X1.out)).trans X1.out)
  have GD := Lib.hid hg
  clear bb hg
  cases bd
  · go_wp2
    go_ret
    exact ⟨_, rfl, B2.out, fun h => by cases h⟩
  have k0 := cell_heap (o := 0) X2.out rfl
  have k1 := cell_heap (o := 1) X2.out rfl
  have k2 := cell_heap (o := 2) X2.out rfl
  have k3 := cell_heap (o := 3) X2.out rfl
  have k4 := cell_heap (o := 4) X2.out rfl
  have k5 := cell_heap (o := 5) X2.out rfl
  have k6 := cell_heap (o := 6) X2.out rfl
  by_cases h64 : 64 < (d.f 2).l.length
  · have q : decide (((d.f 2).l.length : Int) > 64) = true := decide_eq_true (by omega)
    go_wp2
    go_ret
    exact ⟨_, rfl, B2.out, fun h => by cases h⟩
  have q : decide (((d.f 2).l.length : Int) > 64) = false := decide_eq_false (by omega)
  go_wp2
  clear q k0 k1 k2 k3 k4 k5 k6
  go_loopg [3] (d.f 2).l.length (fun j i wr => ∃ m : Nat, m + j = (d.f 2).l.length ∧ i = .int .i64 m ∧ Below w.heap.size w wr ∧ wr.heap[w.heap.size]? = some (.cells #[.int .i64 (d.f 0).n, .string (d.f 1).s, .slice A2 (d.f 2).l.length c2, .slice A3 (d.f 3).l.length c3, .slice A4 (d.f 4).l.length c4, .slice A5 (d.f 5).l.length c5, .slice A6 (d.f 6).l.length c6] 58 (0, 0)))
  case atStart => exact ⟨0, by omega, rfl, B2.out, X2.out⟩
  case round =>
    obtain ⟨m, hmj, rfl, hb, hx⟩ := hrel
    have Hb := Lib.hid hb; have Hx := Lib.hid hx
    have Hmj := Lib.hid hmj; have hmn : m ≤ (d.f 2).l.length := by omega
    clear hmj hb hx
    have k0 := cell_heap (o := 0) Hx.out rfl
    have k1 := cell_heap (o := 1) Hx.out rfl
    have k2 := cell_heap (o := 2) Hx.out rfl
    have k3 := cell_heap (o := 3) Hx.out rfl
    have k4 := cell_heap (o := 4) Hx.out rfl
    have k5 := cell_heap (o := 5) Hx.out rfl
    have k6 := cell_heap (o := 6) Hx.out rfl
    have l0 := heap_lt Hx.out
    by_cases hlt : m < (d.f 2).l.length
    · obtain ⟨b, off, rfl, hI, hat⟩ := at_str ⟨_, S2.out⟩ (by omega)
      obtain ⟨e0, es⟩ := hat m hlt
      clear hat
      unfold maxLen at es
      replace e0 := ((H0.out.trans (Hb.out.mono H0.out.size)).cell (p := ⟨b, _, none⟩) hI).trans e0
      go_wp2_with fail
      refine (nameR (gD (d.f 2).l m).s wr (by omega)).mono ?_
      rintro e w2 ⟨rfl, rfl⟩
      cases nameB (gD (d.f 2).l m).s
      · go_wp2
        go_ret
        exact ⟨_, rfl, Hb.out, fun h => by cases h⟩
      · go_wp2
        go_roundg ((d.f 2).l.length - m - 1)
        case measure => have := Hmj.out; omega
        case rel => exact ⟨m + 1, by have := Hmj.out; omega, by go_num, Hb.out, Hx.out⟩
    · by_cases q1 : (d.f 0).n = 1
      · by_cases z5 : (d.f 5).l = []
        · by_cases z6 : (d.f 6).l = []
          · go_wp2
            go_quiet (fail)
            go_wp2_with fail
            refine (HF.out _ (H0.out.trans ((below_draws Hb.out _).mono H0.out.size))).mono ?_
            rintro e w4 ⟨bf, rfl, bb, hg⟩
            have B4 := Lib.hid ((below_draws Hb.out _).trans (bb.mono (below_draws Hb.out _).size))
            have G4 := Lib.hid hg
            clear bb hg
            cases bf
            · go_wp2
              go_ret
              exact ⟨_, rfl, B4.out, fun h => by cases h⟩
            · go_wp2
              go_ret
              exact ⟨_, rfl, B4.out, fun _ => ⟨by omega, GD.out (by first | rfl | trivial), G4.out (by first | rfl | trivial), goodMems_nil (by first | (rw [z5]; rfl) | assumption), goodIns_nil (by first | (rw [z6]; rfl) | assumption)⟩⟩
          · go_wp2
            go_quiet (fail)
            go_wp2_with fail
            refine (HF.out _ (H0.out.trans ((below_draws Hb.out _).mono H0.out.size))).mono ?_
            rintro e w4 ⟨bf, rfl, bb, hg⟩
            have B4 := Lib.hid ((below_draws Hb.out _).trans (bb.mono (below_draws Hb.out _).size))
            have G4 := Lib.hid hg
            clear bb hg
            cases bf
            · go_wp2
              go_ret
              exact ⟨_, rfl, B4.out, fun h => by cases h⟩
            · go_wp2
              go_ret
              exact ⟨_, rfl, B4.out, fun h => by first | (simp at h; done) | (simp at h; contradiction) | simp_all⟩
        · by_cases z6 : (d.f 6).l = []
          · go_wp2
            go_quiet (fail)
            go_wp2_with fail
            refine (HF.out _ (H0.out.trans ((below_draws Hb.out _).mono H0.out.size))).mono ?_
            rintro e w4 ⟨bf, rfl, bb, hg⟩
            have B4 := Lib.hid ((below_draws Hb.out _).trans (bb.mono (below_draws Hb.out _).size))
            have G4 := Lib.hid hg
            clear bb hg
            cases bf
            · go_wp2
              go_ret
              exact ⟨_, rfl, B4.out, fun h => by cases h⟩
            · go_wp2
              go_ret
              exact ⟨_, rfl, B4.out, fun h => by first | (simp at h; done) | (simp at h; contradiction) | simp_all⟩
          · go_wp2
            go_quiet (fail)
            go_wp2_with fail
            refine (HF.out _ (H0.out.trans ((below_draws Hb.out _).mono H0.out.size))).mono ?_
            rintro e w4 ⟨bf, rfl, bb, hg⟩
            have B4 := Lib.hid ((below_draws Hb.out _).trans (bb.mono (below_draws Hb.out _).size))
            have G4 := Lib.hid hg
            clear bb hg
            cases bf
            · go_wp2
              go_ret
              exact ⟨_, rfl, B4.out, fun h => by cases h⟩
            · go_wp2
              go_ret
              exact ⟨_, rfl, B4.out, fun h => by first | (simp at h; done) | (simp at h; contradiction) | simp_all⟩
      by_cases q2 : (d.f 0).n = 2
      · by_cases z2 : (d.f 2).l = []
        · by_cases z5 : (d.f 5).l = []
          · by_cases z6 : (d.f 6).l = []
            · go_wp2
              go_quiet (fail)
              go_wp2_with fail
              refine (HF.out _ (H0.out.trans ((below_draws Hb.out _).mono H0.out.size))).mono ?_
              rintro e w4 ⟨bf, rfl, bb, hg⟩
              have B4 := Lib.hid ((below_draws Hb.out _).trans (bb.mono (below_draws Hb.out _).size))
              have G4 := Lib.hid hg
              clear bb hg
              cases bf
              · go_wp2
                go_ret
                exact ⟨_, rfl, B4.out, fun h => by cases h⟩
              · go_wp2
                go_ret
                exact ⟨_, rfl, B4.out, fun _ => ⟨by omega, GD.out (by first | rfl | trivial), G4.out (by first | rfl | trivial), goodMems_nil (by first | (rw [z5]; rfl) | assumption), goodIns_nil (by first | (rw [z6]; rfl) | assumption)⟩⟩
            · go_wp2
              go_quiet (fail)
              go_wp2_with fail
              refine (HF.out _ (H0.out.trans ((below_draws Hb.out _).mono H0.out.size))).mono ?_
              rintro e w4 ⟨bf, rfl, bb, hg⟩
              have B4 := Lib.hid ((below_draws Hb.out _).trans (bb.mono (below_draws Hb.out _).size))
              have G4 := Lib.hid hg
              clear bb hg
              cases bf
              · go_wp2
                go_ret
                exact ⟨_, rfl, B4.out, fun h => by cases h⟩
              · go_wp2
                go_ret
                exact ⟨_, rfl, B4.out, fun h => by first | (simp at h; done) | (simp at h; contradiction) | simp_all⟩
          · by_cases z6 : (d.f 6).l = []
            · go_wp2
              go_quiet (fail)
              go_wp2_with fail
              refine (HF.out _ (H0.out.trans ((below_draws Hb.out _).mono H0.out.size))).mono ?_
              rintro e w4 ⟨bf, rfl, bb, hg⟩
              have B4 := Lib.hid ((below_draws Hb.out _).trans (bb.mono (below_draws Hb.out _).size))
              have G4 := Lib.hid hg
              clear bb hg
              cases bf
              · go_wp2
                go_ret
                exact ⟨_, rfl, B4.out, fun h => by cases h⟩
              · go_wp2
                go_ret
                exact ⟨_, rfl, B4.out, fun h => by first | (simp at h; done) | (simp at h; contradiction) | simp_all⟩
            · go_wp2
              go_quiet (fail)
              go_wp2_with fail
              refine (HF.out _ (H0.out.trans ((below_draws Hb.out _).mono H0.out.size))).mono ?_
              rintro e w4 ⟨bf, rfl, bb, hg⟩
              have B4 := Lib.hid ((below_draws Hb.out _).trans (bb.mono (below_draws Hb.out _).size))
              have G4 := Lib.hid hg
              clear bb hg
              cases bf
              · go_wp2
                go_ret
                exact ⟨_, rfl, B4.out, fun h => by cases h⟩
              · go_wp2
                go_ret
                exact ⟨_, rfl, B4.out, fun h => by first | (simp at h; done) | (simp at h; contradiction) | simp_all⟩
        · by_cases z5 : (d.f 5).l = []
          · by_cases z6 : (d.f 6).l = []
            · go_wp2
              go_quiet (fail)
              go_wp2
              go_ret
              exact ⟨_, rfl, below_draws Hb.out _, fun h => by first | (simp at h; done) | (simp at h; contradiction) | simp_all⟩
            · go_wp2
              go_quiet (fail)
              go_wp2
              go_ret
              exact ⟨_, rfl, below_draws Hb.out _, fun h => by first | (simp at h; done) | (simp at h; contradiction) | simp_all⟩
          · by_cases z6 : (d.f 6).l = []
            · go_wp2
              go_quiet (fail)
              go_wp2
              go_ret
              exact ⟨_, rfl, below_draws Hb.out _, fun h => by first | (simp at h; done) | (simp at h; contradiction) | simp_all⟩
            · go_wp2
              go_quiet (fail)
              go_wp2
              go_ret
              exact ⟨_, rfl, below_draws Hb.out _, fun h => by first | (simp at h; done) | (simp at h; contradiction) | simp_all⟩
      by_cases q3 : (d.f 0).n = 3
      · by_cases z2 : (d.f 2).l = []
        · by_cases z4 : (d.f 4).l = []
          · by_cases z6 : (d.f 6).l = []
            · go_wp2
              go_quiet (fail)
              go_wp2_with fail
              refine (HM.out true _ (H0.out.trans ((below_draws Hb.out _).mono H0.out.size))).mono ?_
              rintro e w4 ⟨bf, rfl, bb, hg⟩
              have B4 := Lib.hid ((below_draws Hb.out _).trans (bb.mono (below_draws Hb.out _).size))
              have G4 := Lib.hid hg
              clear bb hg
              cases bf
              · go_wp2
                go_ret
                exact ⟨_, rfl, B4.out, fun h => by cases h⟩
              · go_wp2
                go_ret
                exact ⟨_, rfl, B4.out, fun _ => ⟨by omega, GD.out (by first | rfl | trivial), goodFields_nil (by first | (rw [z4]; rfl) | assumption), G4.out (by first | rfl | trivial), goodIns_nil (by first | (rw [z6]; rfl) | assumption)⟩⟩
            · go_wp2
              go_quiet (fail)
              go_wp2_with fail
              refine (HM.out true _ (H0.out.trans ((below_draws Hb.out _).mono H0.out.size))).mono ?_
              rintro e w4 ⟨bf, rfl, bb, hg⟩
              have B4 := Lib.hid ((below_draws Hb.out _).trans (bb.mono (below_draws Hb.out _).size))
              have G4 := Lib.hid hg
              clear bb hg
              cases bf
              · go_wp2
                go_ret
                exact ⟨_, rfl, B4.out, fun h => by cases h⟩
              · go_wp2
                go_ret
                exact ⟨_, rfl, B4.out, fun h => by first | (simp at h; done) | (simp at h; contradiction) | simp_all⟩
          · by_cases z6 : (d.f 6).l = []
            · go_wp2
              go_quiet (fail)
              go_wp2
              go_ret
              exact ⟨_, rfl, below_draws Hb.out _, fun h => by first | (simp at h; done) | (simp at h; contradiction) | simp_all⟩
            · go_wp2
              go_quiet (fail)
              go_wp2
              go_ret
              exact ⟨_, rfl, below_draws Hb.out _, fun h => by first | (simp at h; done) | (simp at h; contradiction) | simp_all⟩
        · by_cases z4 : (d.f 4).l = []
          · by_cases z6 : (d.f 6).l = []
            · go_wp2
              go_quiet (fail)
              go_wp2
              go_ret
              exact ⟨_, rfl, below_draws Hb.out _, fun h => by first | (simp at h; done) | (simp at h; contradiction) | simp_all⟩
            · go_wp2
              go_quiet (fail)
              go_wp2
              go_ret
              exact ⟨_, rfl, below_draws Hb.out _, fun h => by first | (simp at h; done) | (simp at h; contradiction) | simp_all⟩
          · by_cases z6 : (d.f 6).l = []
            · go_wp2
              go_quiet (fail)
              go_wp2
              go_ret
              exact ⟨_, rfl, below_draws Hb.out _, fun h => by first | (simp at h; done) | (simp at h; contradiction) | simp_all⟩
            · go_wp2
              go_quiet (fail)
              go_wp2
              go_ret
              exact ⟨_, rfl, below_draws Hb.out _, fun h => by first | (simp at h; done) | (simp at h; contradiction) | simp_all⟩
      by_cases q4 : (d.f 0).n = 4
      · by_cases z2 : (d.f 2).l = []
        · by_cases z4 : (d.f 4).l = []
          · by_cases z6 : (d.f 6).l = []
            · go_wp2
              go_quiet (fail)
              go_wp2_with fail
              refine (HM.out false _ (H0.out.trans ((below_draws Hb.out _).mono H0.out.size))).mono ?_
              rintro e w4 ⟨bf, rfl, bb, hg⟩
              have B4 := Lib.hid ((below_draws Hb.out _).trans (bb.mono (below_draws Hb.out _).size))
              have G4 := Lib.hid hg
              clear bb hg
              cases bf
              · go_wp2
                go_ret
                exact ⟨_, rfl, B4.out, fun h => by cases h⟩
              · go_wp2
                go_ret
                exact ⟨_, rfl, B4.out, fun _ => ⟨by omega, GD.out (by first | rfl | trivial), goodFields_nil (by first | (rw [z4]; rfl) | assumption), G4.out (by first | rfl | trivial), goodIns_nil (by first | (rw [z6]; rfl) | assumption)⟩⟩
            · go_wp2
              go_quiet (fail)
              go_wp2_with fail
              refine (HM.out false _ (H0.out.trans ((below_draws Hb.out _).mono H0.out.size))).mono ?_
              rintro e w4 ⟨bf, rfl, bb, hg⟩
              have B4 := Lib.hid ((below_draws Hb.out _).trans (bb.mono (below_draws Hb.out _).size))
              have G4 := Lib.hid hg
              clear bb hg
              cases bf
              · go_wp2
                go_ret
                exact ⟨_, rfl, B4.out, fun h => by cases h⟩
              · go_wp2
                go_ret
                exact ⟨_, rfl, B4.out, fun h => by first | (simp at h; done) | (simp at h; contradiction) | simp_all⟩
          · by_cases z6 : (d.f 6).l = []
            · go_wp2
              go_quiet (fail)
              go_wp2
              go_ret
              exact ⟨_, rfl, below_draws Hb.out _, fun h => by first | (simp at h; done) | (simp at h; contradiction) | simp_all⟩
            · go_wp2
              go_quiet (fail)
              go_wp2
              go_ret
              exact ⟨_, rfl, below_draws Hb.out _, fun h => by first | (simp at h; done) | (simp at h; contradiction) | simp_all⟩
        · by_cases z4 : (d.f 4).l = []
          · by_cases z6 : (d.f 6).l = []
            · go_wp2
              go_quiet (fail)
              go_wp2
              go_ret
              exact ⟨_, rfl, below_draws Hb.out _, fun h => by first | (simp at h; done) | (simp at h; contradiction) | simp_all⟩
            · go_wp2
              go_quiet (fail)
              go_wp2
              go_ret
              exact ⟨_, rfl, below_draws Hb.out _, fun h => by first | (simp at h; done) | (simp at h; contradiction) | simp_all⟩
          · by_cases z6 : (d.f 6).l = []
            · go_wp2
              go_quiet (fail)
              go_wp2
              go_ret
              exact ⟨_, rfl, below_draws Hb.out _, fun h => by first | (simp at h; done) | (simp at h; contradiction) | simp_all⟩
            · go_wp2
              go_quiet (fail)
              go_wp2
              go_ret
              exact ⟨_, rfl, below_draws Hb.out _, fun h => by first | (simp at h; done) | (simp at h; contradiction) | simp_all⟩
      by_cases q5 : (d.f 0).n = 5
      · by_cases z2 : (d.f 2).l = []
        · by_cases z4 : (d.f 4).l = []
          · by_cases z5 : (d.f 5).l = []
            · by_cases z6 : (d.f 6).l = []
              · go_wp2
                go_quiet (fail)
                go_wp2
                go_ret
                exact ⟨_, rfl, below_draws Hb.out _, fun h => by first | (simp at h; done) | (simp at h; contradiction) | simp_all⟩
              · have hzp : 0 < (d.f 6).l.length := List.length_pos_iff.2 z6
                have hp : decide (((d.f 6).l.length : Int) > 0) = true := decide_eq_true (by omega)
                go_wp2
                go_quiet (fail)
                go_wp2_with fail
                refine (HI.out _ (H0.out.trans ((below_draws Hb.out _).mono H0.out.size))).mono ?_
                rintro e w4 ⟨bf, rfl, bb, hg⟩
                have B4 := Lib.hid ((below_draws Hb.out _).trans (bb.mono (below_draws Hb.out _).size))
                have G4 := Lib.hid hg
                clear bb hg
                cases bf
                · go_wp2
                  go_ret
                  exact ⟨_, rfl, B4.out, fun h => by cases h⟩
                · go_wp2
                  go_ret
                  exact ⟨_, rfl, B4.out, fun _ => ⟨by omega, GD.out (by first | rfl | trivial), goodFields_nil (by first | (rw [z4]; rfl) | assumption), goodMems_nil (by first | (rw [z5]; rfl) | assumption), G4.out (by first | rfl | trivial)⟩⟩
            · by_cases z6 : (d.f 6).l = []
              · go_wp2
                go_quiet (fail)
                go_wp2
                go_ret
                exact ⟨_, rfl, below_draws Hb.out _, fun h => by first | (simp at h; done) | (simp at h; contradiction) | simp_all⟩
              · go_wp2
                go_quiet (fail)
                go_wp2
                go_ret
                exact ⟨_, rfl, below_draws Hb.out _, fun h => by first | (simp at h; done) | (simp at h; contradiction) | simp_all⟩
          · by_cases z5 : (d.f 5).l = []
            · by_cases z6 : (d.f 6).l = []
              · go_wp2
                go_quiet (fail)
                go_wp2
                go_ret
                exact ⟨_, rfl, below_draws Hb.out _, fun h => by first | (simp at h; done) | (simp at h; contradiction) | simp_all⟩
              · go_wp2
                go_quiet (fail)
                go_wp2
                go_ret
                exact ⟨_, rfl, below_draws Hb.out _, fun h => by first | (simp at h; done) | (simp at h; contradiction) | simp_all⟩
            · by_cases z6 : (d.f 6).l = []
              · go_wp2
                go_quiet (fail)
                go_wp2
                go_ret
                exact ⟨_, rfl, below_draws Hb.out _, fun h => by first | (simp at h; done) | (simp at h; contradiction) | simp_all⟩
              · go_wp2
                go_quiet (fail)
                go_wp2
                go_ret
                exact ⟨_, rfl, below_draws Hb.out _, fun h => by first | (simp at h; done) | (simp at h; contradiction) | simp_all⟩
        · by_cases z4 : (d.f 4).l = []
          · by_cases z5 : (d.f 5).l = []
            · by_cases z6 : (d.f 6).l = []
              · go_wp2
                go_quiet (fail)
                go_wp2
                go_ret
                exact ⟨_, rfl, below_draws Hb.out _, fun h => by first | (simp at h; done) | (simp at h; contradiction) | simp_all⟩
              · go_wp2
                go_quiet (fail)
                go_wp2
                go_ret
                exact ⟨_, rfl, below_draws Hb.out _, fun h => by first | (simp at h; done) | (simp at h; contradiction) | simp_all⟩
            · by_cases z6 : (d.f 6).l = []
              · go_wp2
                go_quiet (fail)
                go_wp2
                go_ret
                exact ⟨_, rfl, below_draws Hb.out _, fun h => by first | (simp at h; done) | (simp at h; contradiction) | simp_all⟩
              · go_wp2
                go_quiet (fail)
                go_wp2
                go_ret
                exact ⟨_, rfl, below_draws Hb.out _, fun h => by first | (simp at h; done) | (simp at h; contradiction) | simp_all⟩
          · by_cases z5 : (d.f 5).l = []
            · by_cases z6 : (d.f 6).l = []
              · go_wp2
                go_quiet (fail)
                go_wp2
                go_ret
                exact ⟨_, rfl, below_draws Hb.out _, fun h => by first | (simp at h; done) | (simp at h; contradiction) | simp_all⟩
              · go_wp2
                go_quiet (fail)
                go_wp2
                go_ret
                exact ⟨_, rfl, below_draws Hb.out _, fun h => by first | (simp at h; done) | (simp at h; contradiction) | simp_all⟩
            · by_cases z6 : (d.f 6).l = []
              · go_wp2
                go_quiet (fail)
                go_wp2
                go_ret
                exact ⟨_, rfl, below_draws Hb.out _, fun h => by first | (simp at h; done) | (simp at h; contradiction) | simp_all⟩
              · go_wp2
                go_quiet (fail)
                go_wp2
                go_ret
                exact ⟨_, rfl, below_draws Hb.out _, fun h => by first | (simp at h; done) | (simp at h; contradiction) | simp_all⟩
      go_wp2
      go_quiet (fail)
      go_wp2
      go_ret
      exact ⟨_, rfl, below_draws Hb.out _, fun h => by cases h⟩
end Go.Proofs.YtohneabalakmeaaDoor
namespace Go.Proofs.YtohneabalakmeaaDoor
open Go.RowKit
attribute [local irreducible] wpList Calls Code.wp
def goodDoc (K : Nat) (l : List D) : Prop := ∀ i, i < l.length → goodDef K (gD l i)
set_option maxRecDepth 100000 in
set_option maxHeartbeats 8000000 in
theorem rightR (K : Nat) (A : Option Addr) (l : List D) (c : Nat) (w0 w : World) (h0 : Below w0.heap.size w0 w) (h : Sl Tryd.prog w0 (fun b => b < w0.heap.size) (K + 1) 58 A l) (hl : l.length ≤ 9223372036854775807) :
    Calls Tryd.prog 45 #[.agg #[.slice A l.length c]] w (Gd (goodDoc K l) w) := by
  have H := Lib.hid h; have H0 := Lib.hid h0
  have HB := Lib.hid ((Below.refl w.heap.size w).alloc (Nat.le_refl _) (.cells #[.slice A l.length c] 42))
  clear h h0
  by_cases h1 : l.length < 1
  · have q : decide ((l.length : Int) < 1) = true := decide_eq_true (by omega)
    go_enter Tryd.func45, Tryd.ntmps45
    go_wp2
    go_ret
    exact ⟨_, rfl, HB.out, fun h => by cases h⟩
  have q1 : decide ((l.length : Int) < 1) = false := decide_eq_false (by omega)
  by_cases h64 : 64 < l.length
  · have q : decide ((l.length : Int) > 64) = true := decide_eq_true (by omega)
    go_enter Tryd.func45, Tryd.ntmps45
    go_wp2
    go_ret
    exact ⟨_, rfl, HB.out, fun h => by cases h⟩
  have q : decide ((l.length : Int) > 64) = false := decide_eq_false (by omega)
  go_enter Tryd.func45, Tryd.ntmps45
  go_wp2
  clear q q1
  go_loopg [3] l.length (fun j i wr => ∃ m : Nat, m + j = l.length ∧ i = .int .i64 m ∧ Below w.heap.size w wr ∧ wr.heap[w.heap.size]? = some (.cells #[.slice A l.length c] 42 (0, 0)) ∧ ∀ i, i < m → goodDef K (gD l i))
  case atStart => exact ⟨0, by omega, rfl, HB.out, heap_at rfl, fun i hi => by omega⟩
  case round =>
    obtain ⟨m, hmj, rfl, hb, hx, hg⟩ := hrel
    have k0 : wr.cell? ⟨w.heap.size, 0, none⟩ = some (.slice A l.length c) := cell_heap hx rfl
    have l0 := heap_lt hx
    have Hb := Lib.hid hb; have Hx := Lib.hid hx; have HG := Lib.hid hg
    have Hmj := Lib.hid hmj; have hmn : m ≤ l.length := by omega
    clear hmj hb hx hg
    by_cases hlt : m < l.length
    · obtain ⟨b, off, rfl, hI, hat⟩ := atK58 H.out (by omega)
      obtain ⟨A2, c2, A3, c3, A4, c4, A5, c5, A6, c6, e0, e1, e2, e3, e4, e5, e6, -, -, -, -, -, -, -, y⟩ := hat m hlt
      have Hy := Lib.hid y
      clear hat y
      have hB := H0.out.trans (Hb.out.mono H0.out.size)
      replace e0 := (hB.cell (p := ⟨b, _, none⟩) hI).trans e0
      replace e1 := (hB.cell (p := ⟨b, _, none⟩) hI).trans e1
      replace e2 := (hB.cell (p := ⟨b, _, none⟩) hI).trans e2
      replace e3 := (hB.cell (p := ⟨b, _, none⟩) hI).trans e3
      replace e4 := (hB.cell (p := ⟨b, _, none⟩) hI).trans e4
      replace e5 := (hB.cell (p := ⟨b, _, none⟩) hI).trans e5
      replace e6 := (hB.cell (p := ⟨b, _, none⟩) hI).trans e6
      clear hB
      go_wp2_with fail
      refine (defRightR K _ (gD l m) w0 wr (H0.out.trans (Hb.out.mono H0.out.size)) Hy.out).mono ?_
      rintro e w2 ⟨b2, rfl, bb, hg2⟩
      have Hb2 := Lib.hid (Hb.out.trans (bb.mono Hb.out.size))
      have Hx2 := Lib.hid ((bb.block _ l0).trans Hx.out)
      have HG2 := Lib.hid hg2
      clear bb hg2 e0 e1 e2 e3 e4 e5 e6 k0
      cases b2
      · go_wp2
        go_ret
        exact ⟨_, rfl, Hb2.out, fun h => by cases h⟩
      · have HGn := Lib.hid (show ∀ i, i < m + 1 → goodDef K (gD l i) from fun i hi => (Nat.lt_succ_iff_lt_or_eq.1 hi).elim (fun h' => HG.out i h') (fun h' => by rw [h']; exact HG2.out (by first | rfl | trivial)))
        go_wp2
        go_roundg (l.length - m - 1)
        case measure => have := Hmj.out; omega
        case rel => exact ⟨m + 1, by have := Hmj.out; omega, by go_num, Hb2.out, Hx2.out, HGn.out⟩
    · have HGn := Lib.hid (show goodDoc K l from fun i hi => HG.out i (by omega))
      go_wp2
      go_ret
      exact ⟨_, rfl, Hb.out, fun _ => HGn.out⟩
end Go.Proofs.YtohneabalakmeaaDoor
