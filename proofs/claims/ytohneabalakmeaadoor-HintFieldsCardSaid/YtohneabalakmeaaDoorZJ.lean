/- The hint of a field, in the reference's text. By a program of this repo (mk_ZI.py). -/
import Derived.Test.YtohneabalakmeaaDoorZI
namespace Go.Proofs.YtohneabalakmeaaDoor
open Go.RowKit
attribute [local irreducible] wpList Calls Code.wp
def parts2 (l : List D) (on fd : ByteArray) : List D × List D := (partsV l on fd).getD ([], [])
/-- the hint of a field -/
def fieldV (l : List D) (on fd : ByteArray) : Int × Bool := (if (ageV (parts2 l on fd).1).2 = true then (ageV (parts2 l on fd).1).1 else (ageV (parts2 l on fd).2).1, privV (parts2 l on fd).1 || privV (parts2 l on fd).2)
theorem own_field (l : List D) (on fd : ByteArray) : ((ownV l on fd).1, (ownV l on fd).2.2) = fieldV l on fd := by
  unfold ownV fieldV parts2
  cases partsV l on fd with
  | none => rfl
  | some p =>
    obtain ⟨a, b⟩ := p
    simp only [Option.getD_some]
    split <;> rfl
/-- two lists of directives come back -/
def Pt (p : List D × List D) (w0 w : World) (e : Ending) (w' : World) : Prop := ∃ (A1 : Option Addr) (c1 : Nat) (A2 : Option Addr) (c2 : Nat), e = .returned (.tuple #[.slice A1 p.1.length c1, .slice A2 p.2.length c2]) ∧ Below w.heap.size w w' ∧ Rs w0 101 A1 p.1 ∧ p.1.length ≤ c1 ∧ c1 ≤ maxLen ∧ Rs w0 101 A2 p.2 ∧ p.2.length ≤ c2 ∧ c2 ≤ maxLen
set_option maxRecDepth 100000 in
set_option maxHeartbeats 16000000 in
theorem partsR (A : Option Addr) (l : List D) (c : Nat) (on fd : ByteArray) (w0 w : World) (h0 : Below w0.heap.size w0 w) (h : Rs w0 58 A l) (hl : l.length ≤ c) (hc : c ≤ maxLen) :
    Calls Tryd.prog 70 #[.agg #[.slice A l.length c], .string on, .string fd] w (Pt (parts2 l on fd) w0 w) := by
  obtain ⟨x, hx⟩ : ∃ x, x = parts2 l on fd := ⟨_, rfl⟩
  rw [← hx]
  have HX := Lib.hid hx; clear hx
  have HF := Lib.hid (fun s w (h0 : Below w0.heap.size w0 w) => findR A l c s w0 w h0 h hl hc)
  have H0 := Lib.hid h0
  clear h h0 hl hc
  go_enter Tryd.func70, Tryd.ntmps70
  go_wp2_with fail
  have b := (Below.refl w.heap.size w).alloc (Nat.le_refl _) (.cells #[.slice A l.length c] 42)
  have XD := Lib.hid (heap_at (w := w) (o := (.cells #[.slice A l.length c] 42)) rfl)
  have B0 := Lib.hid b; clear b
  generalize w.alloc (.cells #[.slice A l.length c] 42) = wa at *
  refine (HF.out on wa (H0.out.trans (B0.out.mono H0.out.size))).mono ?_
  rintro e w1 ⟨cs, rfl, b1, rv1⟩
  obtain ⟨A2t, c2t, A3t, c3t, A4t, c4t, A5t, c5t, A6t, c6t, rfl, -, -, -, -, ⟨s4a, s4b, -, s4⟩, -⟩ := in58 rv1
  have S4 := Lib.hid s4; have S4a := Lib.hid s4a; have S4b := Lib.hid s4b
  have B1 := Lib.hid (B0.out.trans (b1.mono B0.out.size))
  have XD1 := Lib.hid ((b1.block _ (heap_lt XD.out)).trans XD.out)
  clear b1 rv1 s4 s4a s4b XD B0
  generalize hT : (findD l 1 on).getD default = t at *
  have HT := Lib.hid hT; clear hT
  generalize (findD l 1 on).isSome = bt at *
  go_wp2_with fail
  have b := B1.out.alloc B1.out.size (.cells #[.int .i64 (t.f 0).n, .string (t.f 1).s, .slice A2t (t.f 2).l.length c2t, .slice A3t (t.f 3).l.length c3t, .slice A4t (t.f 4).l.length c4t, .slice A5t (t.f 5).l.length c5t, .slice A6t (t.f 6).l.length c6t] 58)
  have XD := Lib.hid (heap_under (o := (.cells #[.int .i64 (t.f 0).n, .string (t.f 1).s, .slice A2t (t.f 2).l.length c2t, .slice A3t (t.f 3).l.length c3t, .slice A4t (t.f 4).l.length c4t, .slice A5t (t.f 5).l.length c5t, .slice A6t (t.f 6).l.length c6t] 58)) XD1.out)
  have B0 := Lib.hid b; clear b XD1 B1
  generalize w1.alloc (.cells #[.int .i64 (t.f 0).n, .string (t.f 1).s, .slice A2t (t.f 2).l.length c2t, .slice A3t (t.f 3).l.length c3t, .slice A4t (t.f 4).l.length c4t, .slice A5t (t.f 5).l.length c5t, .slice A6t (t.f 6).l.length c6t] 58) = wb at *
  refine (fieldR (t.f 0).n (t.f 1).s _ _ _ _ _ _ _ _ _ _ _ _ _ _ _ fd w0 wb (H0.out.trans (B0.out.mono H0.out.size)) S4.out S4a.out S4b.out).mono ?_
  rintro e w2 ⟨cs, rfl, b1, rv1⟩
  have B1 := Lib.hid (B0.out.trans (b1.mono B0.out.size))
  have XD1 := Lib.hid ((b1.block _ (heap_lt XD.out)).trans XD.out)
  clear b1 XD B0 S4 S4a S4b
  obtain ⟨A1f, c1f, A3f, c3f, A4f, c4f, rfl, -, -, -, -, ⟨s4a, s4b, -, s4⟩⟩ := in64 rv1
  have S4 := Lib.hid s4; have S4a := Lib.hid s4a; have S4b := Lib.hid s4b
  clear rv1 s4 s4a s4b
  cases ho : findD (t.f 4).l 0 fd with
  | none =>
    have Ho := Lib.hid ho; clear ho
    simp only [Option.isSome_none, Option.getD_none]
    go_wp2
    go_ret2
    exact ⟨none, 0, none, 0, by rw [HX.out]; unfold parts2; rw [parts_none HT.out Ho.out]; rfl, B1.out.alloc B1.out.size _, by rw [HX.out]; unfold parts2; rw [parts_none HT.out Ho.out]; exact Rs.nil _ _ _, by rw [HX.out]; unfold parts2; rw [parts_none HT.out Ho.out]; exact Nat.le_refl _, by decide, by rw [HX.out]; unfold parts2; rw [parts_none HT.out Ho.out]; exact Rs.nil _ _ _, by rw [HX.out]; unfold parts2; rw [parts_none HT.out Ho.out]; exact Nat.le_refl _, by decide⟩
  | some f =>
    have Ho := Lib.hid ho
    simp only [ho, Option.isSome_some, Option.getD_some] at S4 S4a S4b ⊢
    clear ho
    have kd : w2.cell? ⟨w.heap.size, 0, none⟩ = some (.slice A l.length c) := cell_heap XD1.out rfl
    have ld := heap_lt XD1.out
    go_wp2_with fail
    clear kd ld
    have b := B1.out.alloc B1.out.size (.cells #[.string (f.f 0).s, .slice A1f (f.f 1).l.length c1f, .string ((f.f 2).f 0).s, .slice A3f ((f.f 2).f 1).l.length c3f, .slice A4f (f.f 3).l.length c4f] 64)
    have XD := Lib.hid (heap_under (o := (.cells #[.string (f.f 0).s, .slice A1f (f.f 1).l.length c1f, .string ((f.f 2).f 0).s, .slice A3f ((f.f 2).f 1).l.length c3f, .slice A4f (f.f 3).l.length c4f] 64)) XD1.out)
    have XF := Lib.hid (heap_at (w := w2) (o := (.cells #[.string (f.f 0).s, .slice A1f (f.f 1).l.length c1f, .string ((f.f 2).f 0).s, .slice A3f ((f.f 2).f 1).l.length c3f, .slice A4f (f.f 3).l.length c4f] 64)) rfl)
    have B0 := Lib.hid b; clear b XD1 B1
    generalize w2.alloc (.cells #[.string (f.f 0).s, .slice A1f (f.f 1).l.length c1f, .string ((f.f 2).f 0).s, .slice A3f ((f.f 2).f 1).l.length c3f, .slice A4f (f.f 3).l.length c4f] 64) = wc at *
    refine (HF.out (((f.f 2).f 0).s) wc (H0.out.trans (B0.out.mono H0.out.size))).mono ?_
    rintro e w3 ⟨cs, rfl, b1, rv1⟩
    have B1 := Lib.hid (B0.out.trans (b1.mono B0.out.size))
    have XF1 := Lib.hid ((b1.block _ (heap_lt XF.out)).trans XF.out)
    clear b1 XD XF B0
    obtain ⟨A2n, c2n, A3n, c3n, A4n, c4n, A5n, c5n, A6n, c6n, rfl, -, -, -, ⟨s5a, s5b, -, s5⟩, -⟩ := in58 rv1
    have S5 := Lib.hid s5; have S5a := Lib.hid s5a; have S5b := Lib.hid s5b
    clear rv1 s5 s5a s5b
    generalize hN : (findD l 1 ((f.f 2).f 0).s).getD default = n at *
    have HN := Lib.hid hN; clear hN
    generalize (findD l 1 ((f.f 2).f 0).s).isSome = bn at *
    have kf : w3.cell? ⟨w2.heap.size, 4, none⟩ = some (.slice A4f (f.f 3).l.length c4f) := cell_heap XF1.out rfl
    have lf := heap_lt XF1.out
    go_wp2_with fail
    clear kf lf
    have b := B1.out.alloc B1.out.size (.cells #[.int .i64 (n.f 0).n, .string (n.f 1).s, .slice A2n (n.f 2).l.length c2n, .slice A3n (n.f 3).l.length c3n, .slice A4n (n.f 4).l.length c4n, .slice A5n (n.f 5).l.length c5n, .slice A6n (n.f 6).l.length c6n] 58)
    have XF := Lib.hid (heap_under (o := (.cells #[.int .i64 (n.f 0).n, .string (n.f 1).s, .slice A2n (n.f 2).l.length c2n, .slice A3n (n.f 3).l.length c3n, .slice A4n (n.f 4).l.length c4n, .slice A5n (n.f 5).l.length c5n, .slice A6n (n.f 6).l.length c6n] 58)) XF1.out)
    have XN := Lib.hid (heap_at (w := w3) (o := (.cells #[.int .i64 (n.f 0).n, .string (n.f 1).s, .slice A2n (n.f 2).l.length c2n, .slice A3n (n.f 3).l.length c3n, .slice A4n (n.f 4).l.length c4n, .slice A5n (n.f 5).l.length c5n, .slice A6n (n.f 6).l.length c6n] 58)) rfl)
    have B0 := Lib.hid b; clear b XF1 B1
    generalize w3.alloc (.cells #[.int .i64 (n.f 0).n, .string (n.f 1).s, .slice A2n (n.f 2).l.length c2n, .slice A3n (n.f 3).l.length c3n, .slice A4n (n.f 4).l.length c4n, .slice A5n (n.f 5).l.length c5n, .slice A6n (n.f 6).l.length c6n] 58) = wd at *
    have HP := Lib.hid (parts_some HT.out Ho.out HN.out)
    have HQ := Lib.hid (show x = ((f.f 3).l, (n.f 3).l) by rw [HX.out]; unfold parts2; rw [HP.out]; rfl)
    have kf := cell_heap (o := 4) XF.out rfl
    have kn := cell_heap (o := 3) XN.out rfl
    have lf := heap_lt XF.out
    have ln := heap_lt XN.out
    go_quiet (fail)
    go_wp2
    go_ret2
    exact ⟨A4f, c4f, A3n, c3n, by rw [HQ.out]; rfl, below_draws B0.out _, by rw [HQ.out]; exact S4.out, by rw [HQ.out]; exact S4a.out, S4b.out, by rw [HQ.out]; exact S5.out, by rw [HQ.out]; exact S5a.out, S5b.out⟩
set_option maxRecDepth 100000 in
set_option maxHeartbeats 4000000 in
theorem hintP (A : Option Addr) (l : List D) (c : Nat) (on fd : ByteArray) (w0 w : World) (h0 : Below w0.heap.size w0 w) (h : Rs w0 58 A l) (hl : l.length ≤ c) (hc : c ≤ maxLen) :
    Calls Tryd.prog 37 #[.agg #[.slice A l.length c], .string on, .string fd] w (Hi (fieldV l on fd).1 (fieldV l on fd).2 w) := by
  have HO := Lib.hid (fun w (h0 : Below w0.heap.size w0 w) => ownP A l c on fd w0 w h0 h hl hc)
  rw [← own_field]
  have HB := Lib.hid (((Below.refl w.heap.size w).alloc (Nat.le_refl _) (.cells #[.slice A l.length c] 42)).alloc (by simp) (.cells #[.int .i64 0, .bool false] 33))
  have H0 := Lib.hid h0
  clear h0 h hl hc
  generalize ownV l on fd = r at *
  obtain ⟨a, b, d⟩ := r
  unfold Ibb at HO
  go_enter Tryd.func37, Tryd.ntmps37
  go_wp2_with fail
  refine (HO.out _ (H0.out.trans (HB.out.mono H0.out.size))).mono ?_
  rintro e w2 ⟨rfl, b2⟩
  have X := Lib.hid ((b2.block (w.heap.size + 1) (by simp)).trans (heap_at (w := w.alloc (.cells #[.slice A l.length c] 42)) (o := .cells #[.int .i64 0, .bool false] 33) (by simp)))
  have B2 := Lib.hid (HB.out.trans (b2.mono HB.out.size)); clear b2
  have k0 : w2.cell? ⟨w.heap.size + 1, 0, none⟩ = some (.int .i64 0) := cell_heap X.out rfl
  have k1 : w2.cell? ⟨w.heap.size + 1, 1, none⟩ = some (.bool false) := cell_heap X.out rfl
  have f0 := frozen_heap (o := 0) X.out
  have f1 := frozen_heap (o := 1) X.out
  have lx := heap_lt X.out
  go_wp2
  exact bodyPost_ret (v := .agg #[.int .i64 a, .bool d]) (by simp [results, Tryd.results37, go_sem, k0, k1, lx]) rfl ⟨rfl, (B2.out.setCell (p := ⟨w.heap.size + 1, 0, none⟩) (Nat.le_succ _) _).setCell (p := ⟨w.heap.size + 1, 1, none⟩) (Nat.le_succ _) _⟩
end Go.Proofs.YtohneabalakmeaaDoor
