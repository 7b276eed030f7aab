/- How large a document is; the law of fields' hints. -/
import Derived.Test.YtohneabalakmeaaDoorZK
namespace Go.Proofs.YtohneabalakmeaaDoor
open Go.RowKit
attribute [local irreducible] wpList Calls Code.wp
/-- some bool comes back -/
def Sb (w : World) (e : Ending) (w' : World) : Prop := ∃ b, e = .returned (.bool b) ∧ Below w.heap.size w w'
set_option maxRecDepth 100000 in
set_option maxHeartbeats 4000000 in
theorem largeR (A : Option Addr) (l : List D) (c : Nat) (w0 w : World) (h0 : Below w0.heap.size w0 w) (h : Rs w0 58 A l) (hl : l.length ≤ c) (hc : c ≤ maxLen) :
    Calls Tryd.prog 36 #[.agg #[.slice A l.length c]] w (Sb w) := by
  have H := Lib.hid h; have H0 := Lib.hid h0
  unfold maxLen at hc
  have hlc : l.length ≤ 9223372036854775807 := by omega
  clear h h0 hl hc
  by_cases hbig : 70 < l.length
  · have q : decide ((l.length : Int) > 70) = true := decide_eq_true (by omega)
    go_enter Tryd.func36, Tryd.ntmps36
    go_wp2
    go_ret
    exact ⟨_, rfl, (Below.refl _ _).alloc (Nat.le_refl _) _⟩
  have q : decide ((l.length : Int) > 70) = false := decide_eq_false (by omega)
  go_enter Tryd.func36, Tryd.ntmps36
  go_wp2
  go_loopg [3, 4] l.length (fun j x i wr => ∃ (m : Nat) (y : Int), m + j = l.length ∧ i = .int .i64 m ∧ x = .int .i64 y ∧ Below w.heap.size w wr ∧ wr.heap[w.heap.size]? = some (.cells #[.slice A l.length c] 42 (0, 0)))
  case atStart => exact ⟨0, 0, by omega, rfl, rfl, (Below.refl _ _).alloc (Nat.le_refl _) _, heap_at rfl⟩
  case round =>
    obtain ⟨m, y, hmj, rfl, rfl, hb, hx⟩ := hrel
    have k0 : wr.cell? ⟨w.heap.size, 0, none⟩ = some (.slice A l.length c) := cell_heap hx rfl
    have l0 := heap_lt hx
    have Hb := Lib.hid hb; have Hx := Lib.hid hx
    have Hmj := Lib.hid hmj; have hmn : m ≤ l.length := by omega
    clear hmj hb hx
    by_cases hlt : m < l.length
    · obtain ⟨b, off, rfl, hI, hat⟩ := at58 H.out (by omega)
      obtain ⟨A2, c2, A3, c3, A4, c4, A5, c5, A6, c6, e0, e1, e2, e3, e4, e5, e6, r0, r1, r2, r3, r4, r5, r6, y0⟩ := hat m hlt
      have F1 := Lib.hid r4.1; have F2 := Lib.hid r4.2.1; have F3 := Lib.hid r4.2.2.2
      clear hat y0 r0 r1 r2 r3 r4 r5 r6
      replace e0 := ((H0.out.trans (Hb.out.mono H0.out.size)).cell (p := ⟨b, _, none⟩) hI).trans e0
      replace e1 := ((H0.out.trans (Hb.out.mono H0.out.size)).cell (p := ⟨b, _, none⟩) hI).trans e1
      replace e2 := ((H0.out.trans (Hb.out.mono H0.out.size)).cell (p := ⟨b, _, none⟩) hI).trans e2
      replace e3 := ((H0.out.trans (Hb.out.mono H0.out.size)).cell (p := ⟨b, _, none⟩) hI).trans e3
      replace e4 := ((H0.out.trans (Hb.out.mono H0.out.size)).cell (p := ⟨b, _, none⟩) hI).trans e4
      replace e5 := ((H0.out.trans (Hb.out.mono H0.out.size)).cell (p := ⟨b, _, none⟩) hI).trans e5
      replace e6 := ((H0.out.trans (Hb.out.mono H0.out.size)).cell (p := ⟨b, _, none⟩) hI).trans e6
      have hfl : ((gD l m).f 4).l.length ≤ 9223372036854775807 := by have h1 := F1.out; have h2 := F2.out; unfold maxLen at h2; omega
      go_wp2
      obtain ⟨y2, hy2⟩ : ∃ y2, y2 = wrap64 (y + wrap64 (wrap64 (wrap64 (wrap64 (wrap64 (1 + ↑((gD l m).f 4).l.length) + ↑((gD l m).f 5).l.length) + ↑((gD l m).f 6).l.length) + ↑((gD l m).f 3).l.length) + ↑((gD l m).f 2).l.length)) := ⟨_, rfl⟩
      rw [← hy2]
      clear hy2
      have hba : Below w.heap.size w (wr.alloc (.cells #[.int .i64 ((gD l m).f 0).n, .string ((gD l m).f 1).s, .slice A2 ((gD l m).f 2).l.length c2, .slice A3 ((gD l m).f 3).l.length c3, .slice A4 ((gD l m).f 4).l.length c4, .slice A5 ((gD l m).f 5).l.length c5, .slice A6 ((gD l m).f 6).l.length c6] 58)) := Hb.out.alloc Hb.out.size _
      have hxa : (wr.alloc (.cells #[.int .i64 ((gD l m).f 0).n, .string ((gD l m).f 1).s, .slice A2 ((gD l m).f 2).l.length c2, .slice A3 ((gD l m).f 3).l.length c3, .slice A4 ((gD l m).f 4).l.length c4, .slice A5 ((gD l m).f 5).l.length c5, .slice A6 ((gD l m).f 6).l.length c6] 58)).heap[wr.heap.size]? = some (.cells #[.int .i64 ((gD l m).f 0).n, .string ((gD l m).f 1).s, .slice A2 ((gD l m).f 2).l.length c2, .slice A3 ((gD l m).f 3).l.length c3, .slice A4 ((gD l m).f 4).l.length c4, .slice A5 ((gD l m).f 5).l.length c5, .slice A6 ((gD l m).f 6).l.length c6] 58 (0, 0)) := heap_at rfl
      have hxd : (wr.alloc (.cells #[.int .i64 ((gD l m).f 0).n, .string ((gD l m).f 1).s, .slice A2 ((gD l m).f 2).l.length c2, .slice A3 ((gD l m).f 3).l.length c3, .slice A4 ((gD l m).f 4).l.length c4, .slice A5 ((gD l m).f 5).l.length c5, .slice A6 ((gD l m).f 6).l.length c6] 58)).heap[w.heap.size]? = some (.cells #[.slice (some ⟨b, off, none⟩) l.length c] 42 (0, 0)) := heap_under Hx.out
      clear e0 e1 e2 e3 e4 e5 e6 k0 l0
      generalize wr.alloc (.cells #[.int .i64 ((gD l m).f 0).n, .string ((gD l m).f 1).s, .slice A2 ((gD l m).f 2).l.length c2, .slice A3 ((gD l m).f 3).l.length c3, .slice A4 ((gD l m).f 4).l.length c4, .slice A5 ((gD l m).f 5).l.length c5, .slice A6 ((gD l m).f 6).l.length c6] 58) = wa at *
      generalize wr.heap.size = ba at *
      obtain ⟨wo, rfl⟩ : ∃ wo : World, wo = wr := ⟨_, rfl⟩
      go_loopg [3, 6] ((gD l m).f 4).l.length (fun j x i wi => ∃ (k : Nat) (y : Int), k + j = ((gD l m).f 4).l.length ∧ i = .int .i64 k ∧ x = .int .i64 y ∧ Below w.heap.size w wi ∧ wi.heap[ba]? = some (.cells #[.int .i64 ((gD l m).f 0).n, .string ((gD l m).f 1).s, .slice A2 ((gD l m).f 2).l.length c2, .slice A3 ((gD l m).f 3).l.length c3, .slice A4 ((gD l m).f 4).l.length c4, .slice A5 ((gD l m).f 5).l.length c5, .slice A6 ((gD l m).f 6).l.length c6] 58 (0, 0)) ∧ wi.heap[w.heap.size]? = some (.cells #[.slice (some ⟨b, off, none⟩) l.length c] 42 (0, 0)))
      case atStart => exact ⟨0, y2, by omega, rfl, rfl, hba, hxa, hxd⟩
      case round =>
        obtain ⟨k, y3, hkj, rfl, rfl, hb, hx, hd⟩ := hrel
        clear hba hxa hxd
        have q4 : wr.cell? ⟨ba, 4, none⟩ = some (.slice A4 ((gD l m).f 4).l.length c4) := cell_heap hx rfl
        have l0 := heap_lt hx
        have Hbi := Lib.hid hb; have Hxi := Lib.hid hx; have Hdi := Lib.hid hd
        have Hkj := Lib.hid hkj; have hkn : k ≤ ((gD l m).f 4).l.length := by omega
        clear hkj hb hx hd
        by_cases hlk : k < ((gD l m).f 4).l.length
        · obtain ⟨bf, offf, rfl, hIf, hatf⟩ := at64 F3.out (by omega)
          obtain ⟨A1, c1, A3, c3, A4, c4, u0, u1, u2, u3, u4, -, -, -, -, -, -⟩ := hatf k hlk
          clear hatf
          replace u0 := ((H0.out.trans (Hbi.out.mono H0.out.size)).cell (p := ⟨bf, _, none⟩) hIf).trans u0
          replace u1 := ((H0.out.trans (Hbi.out.mono H0.out.size)).cell (p := ⟨bf, _, none⟩) hIf).trans u1
          replace u2 := ((H0.out.trans (Hbi.out.mono H0.out.size)).cell (p := ⟨bf, _, none⟩) hIf).trans u2
          replace u3 := ((H0.out.trans (Hbi.out.mono H0.out.size)).cell (p := ⟨bf, _, none⟩) hIf).trans u3
          replace u4 := ((H0.out.trans (Hbi.out.mono H0.out.size)).cell (p := ⟨bf, _, none⟩) hIf).trans u4
          have hk2 : (k : Int) < (((gD l m).f 4).l.length : Int) := by omega
          go_wp2
          go_quiet (fail)
          go_wp2
          go_roundg (((gD l m).f 4).l.length - k - 1)
          case measure => have := Hkj.out; omega
          case rel => exact ⟨k + 1, _, by have := Hkj.out; omega, by go_num, rfl, below_draws Hbi.out _, Hxi.out, Hdi.out⟩
        · go_wp2
          go_roundg (l.length - m - 1)
          case measure => have := Hmj.out; omega
          case rel => exact ⟨m + 1, _, by have := Hmj.out; omega, by go_num, rfl, Hbi.out, Hdi.out⟩
    · go_wp2
      go_ret
      exact ⟨_, rfl, Hb.out⟩
set_option maxRecDepth 100000 in
set_option maxHeartbeats 4000000 in
theorem lawFields (A : Option Addr) (l : List D) (c : Nat) (on fd : ByteArray) (w : World) (he : Env w) (h : Rs w 58 A l) (hl : l.length ≤ c) (hc : c ≤ maxLen) :
    Calls Tryd.prog 10 #[.agg #[.slice A l.length c], .string on, .string fd] w (Tt w) := by
  have HE := Lib.hid he
  have HL := Lib.hid (fun w' (h0 : Below w.heap.size w w') => largeR A l c w w' h0 h hl hc)
  have HP := Lib.hid (fun w' (h0 : Below w.heap.size w w') => hintP A l c on fd w w' h0 h hl hc)
  have HR := Lib.hid (fun w' (h0 : Below w.heap.size w w') => hintR A l c on fd w w' h0 h hl hc)
  clear he h hl hc
  have HX := Lib.hid exam44
  generalize fieldV l on fd = r at *
  obtain ⟨r1, r2⟩ := r
  unfold Hi at HP HR
  have HB := Lib.hid ((Below.refl w.heap.size w).alloc (Nat.le_refl _) (.cells #[.slice A l.length c] 42))
  have XD := Lib.hid (heap_at (w := w) (o := .cells #[.slice A l.length c] 42) rfl)
  go_enter Tryd.func10, Tryd.ntmps10
  go_wp2_with fail
  refine (HL.out _ HB.out).mono ?_
  rintro e w1 ⟨b, rfl, b1⟩
  have B1 := Lib.hid (HB.out.trans (b1.mono HB.out.size))
  have X1 := Lib.hid ((b1.block _ (heap_lt XD.out)).trans XD.out)
  clear b1
  have kd : w1.cell? ⟨w.heap.size, 0, none⟩ = some (.slice A l.length c) := cell_heap X1.out rfl
  cases b
  · have l1 := heap_lt X1.out
    have HS := Lib.hid (fun w' (hb : Below w1.heap.size w1 w') => (⟨hb, (hb.cell (p := ⟨w.heap.size, 0, none⟩) l1).trans kd⟩ : Below w1.heap.size w1 w' ∧ w'.cell? ⟨w.heap.size, 0, none⟩ = some (.slice A l.length c)))
    have Hc := Lib.hid (Below.refl w1.heap.size w1)
    clear kd l1
    go_wp2_with fail
    go_region_held3 (fun w' => Below w1.heap.size w1 w' ∧ w'.cell? ⟨w.heap.size, 0, none⟩ = some (.slice A l.length c))
      (first | exact HS.out _ Hc.out.drew | exact HS.out _ Hc.out)
      (first
        | (go_at_call 37; (first | refine (HP.out _ (B1.out.trans (Hc.out.mono B1.out.size))).mono ?_ | refine (HP.out _ (B1.out.trans (Hc.out.drew.mono B1.out.size))).mono ?_); rintro e w2 ⟨rfl, b⟩; have Ho := Hc; clear Hc; (first | have Hc := Lib.hid (Ho.out.trans (b.mono Ho.out.size)) | have Hc := Lib.hid (Ho.out.drew.trans (b.mono Ho.out.drew.size))); clear b Ho)
        | (go_at_call 38; refine (HR.out _ (B1.out.trans (Hc.out.mono B1.out.size))).mono ?_; rintro e w2 ⟨rfl, b⟩; have Ho := Hc; clear Hc; have Hc := Lib.hid (Ho.out.trans (b.mono Ho.out.size)); clear b Ho)
        | (go_at_call 31; refine (HX.out _ (HE.out.below (B1.out.trans (Hc.out.mono B1.out.size)))).mono ?_; rintro e w2 ⟨rfl, b⟩; have Ho := Hc; clear Hc; have Hc := Lib.hid (Ho.out.trans (b.mono Ho.out.size)); clear b Ho))
    go_wp2
    go_ret
    exact ⟨rfl, B1.out.trans (Hc.out.mono B1.out.size)⟩
  · go_wp2_with fail
    refine (HX.out _ (HE.out.below B1.out)).mono ?_
    rintro e w2 ⟨rfl, b⟩
    have B2 := Lib.hid (B1.out.trans (b.mono B1.out.size)); clear b
    go_wp2
    go_ret
    exact ⟨rfl, B2.out⟩
end Go.Proofs.YtohneabalakmeaaDoor
