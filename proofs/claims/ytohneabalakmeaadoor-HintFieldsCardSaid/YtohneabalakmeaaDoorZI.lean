/- The hint of a field. By a program of this repo (mk_ZI.py). -/
import Derived.Test.YtohneabalakmeaaDoorZH
namespace Go.Proofs.YtohneabalakmeaaDoor
open Go.RowKit
attribute [local irreducible] wpList Calls Code.wp
/-- the directives of a field and of its named type -/
def partsV (l : List D) (on fd : ByteArray) : Option (List D × List D) :=
  (findD (((findD l 1 on).getD default).f 4).l 0 fd).map fun f => ((f.f 3).l, (((findD l 1 ((f.f 2).f 0).s).getD default).f 3).l)
def ownV (l : List D) (on fd : ByteArray) : Int × Bool × Bool :=
  match partsV l on fd with
  | none => (0, false, false)
  | some (a, b) => if (ageV a).2 = true then ((ageV a).1, true, privV a || privV b) else ((ageV b).1, (ageV b).2, privV a || privV b)
theorem parts_none {l : List D} {on fd : ByteArray} {t : D} (ht : (findD l 1 on).getD default = t) (h : findD (t.f 4).l 0 fd = none) : partsV l on fd = none := by unfold partsV; rw [ht, h]; rfl
theorem parts_some {l : List D} {on fd : ByteArray} {t f n : D} (ht : (findD l 1 on).getD default = t) (h : findD (t.f 4).l 0 fd = some f) (hn : (findD l 1 ((f.f 2).f 0).s).getD default = n) : partsV l on fd = some ((f.f 3).l, (n.f 3).l) := by
  unfold partsV; rw [ht, h, Option.map_some, hn]
/-- a number and two bools come back -/
def Ibb (r : Int × Bool × Bool) (w : World) (e : Ending) (w' : World) : Prop := e = .returned (.tuple #[.int .i64 r.1, .bool r.2.1, .bool r.2.2]) ∧ Below w.heap.size w w'
set_option maxRecDepth 100000 in
set_option maxHeartbeats 16000000 in
theorem ownP (A : Option Addr) (l : List D) (c : Nat) (on fd : ByteArray) (w0 w : World) (h0 : Below w0.heap.size w0 w) (h : Rs w0 58 A l) (hl : l.length ≤ c) (hc : c ≤ maxLen) :
    Calls Tryd.prog 69 #[.agg #[.slice A l.length c], .string on, .string fd] w (Ibb (ownV l on fd) w) := by
  obtain ⟨x, hx⟩ : ∃ x, x = ownV l on fd := ⟨_, rfl⟩
  rw [← hx]
  have HX := Lib.hid hx; clear hx
  have HF := Lib.hid (fun s w (h0 : Below w0.heap.size w0 w) => findP A l c s w0 w h0 h hl hc)
  have H0 := Lib.hid h0
  clear h h0 hl hc
  go_enter Tryd.func69, Tryd.ntmps69
  go_wp2_with fail
  have b := (Below.refl w.heap.size w).alloc (Nat.le_refl _) (.cells #[.slice A l.length c] 42)
  have XD := Lib.hid (heap_at (w := w) (o := (.cells #[.slice A l.length c] 42)) rfl)
  have B0 := Lib.hid b; clear b
  generalize w.alloc (.cells #[.slice A l.length c] 42) = wa at *
  refine (HF.out on wa (H0.out.trans (B0.out.mono H0.out.size))).mono ?_
  rintro e w1 ⟨cs, rfl, b1, rv1⟩
  obtain ⟨A2t, c2t, A3t, c3t, A4t, c4t, A5t, c5t, A6t, c6t, rfl, -, -, -, -, ⟨s4a, s4b, -, s4⟩, -⟩ := in58 rv1
  have S4 := Lib.hid s4; have S4a := Lib.hid s4a; have S4b := Lib.hid s4b
  have B1 := Lib.hid (B0.out.trans (b1.mono B0.out.size))
  have XD1 := Lib.hid ((b1.block _ (heap_lt XD.out)).trans XD.out)
  clear b1 rv1 s4 s4a s4b XD B0
  generalize hT : (findD l 1 on).getD default = t at *
  have HT := Lib.hid hT; clear hT
  generalize (findD l 1 on).isSome = bt at *
  go_wp2_with fail
  have b := B1.out.alloc B1.out.size (.cells #[.int .i64 (t.f 0).n, .string (t.f 1).s, .slice A2t (t.f 2).l.length c2t, .slice A3t (t.f 3).l.length c3t, .slice A4t (t.f 4).l.length c4t, .slice A5t (t.f 5).l.length c5t, .slice A6t (t.f 6).l.length c6t] 58)
  have XD := Lib.hid (heap_under (o := (.cells #[.int .i64 (t.f 0).n, .string (t.f 1).s, .slice A2t (t.f 2).l.length c2t, .slice A3t (t.f 3).l.length c3t, .slice A4t (t.f 4).l.length c4t, .slice A5t (t.f 5).l.length c5t, .slice A6t (t.f 6).l.length c6t] 58)) XD1.out)
  have B0 := Lib.hid b; clear b XD1 B1
  generalize w1.alloc (.cells #[.int .i64 (t.f 0).n, .string (t.f 1).s, .slice A2t (t.f 2).l.length c2t, .slice A3t (t.f 3).l.length c3t, .slice A4t (t.f 4).l.length c4t, .slice A5t (t.f 5).l.length c5t, .slice A6t (t.f 6).l.length c6t] 58) = wb at *
  refine (fieldP (t.f 0).n (t.f 1).s _ _ _ _ _ _ _ _ _ _ _ _ _ _ _ fd w0 wb (H0.out.trans (B0.out.mono H0.out.size)) S4.out S4a.out S4b.out).mono ?_
  rintro e w2 ⟨cs, rfl, b1, rv1⟩
  have B1 := Lib.hid (B0.out.trans (b1.mono B0.out.size))
  have XD1 := Lib.hid ((b1.block _ (heap_lt XD.out)).trans XD.out)
  clear b1 XD B0 S4 S4a S4b
  obtain ⟨A1f, c1f, A3f, c3f, A4f, c4f, rfl, -, -, -, -, ⟨s4a, s4b, -, s4⟩⟩ := in64 rv1
  have S4 := Lib.hid s4; have S4a := Lib.hid s4a; have S4b := Lib.hid s4b
  clear rv1 s4 s4a s4b
  cases ho : findD (t.f 4).l 0 fd with
  | none =>
    have Ho := Lib.hid ho; clear ho
    simp only [Option.isSome_none, Option.getD_none]
    go_wp2
    go_ret3
    exact ⟨by rw [HX.out]; unfold ownV; rw [parts_none HT.out Ho.out]; rfl, B1.out.alloc B1.out.size _⟩
  | some f =>
    have Ho := Lib.hid ho
    simp only [ho, Option.isSome_some, Option.getD_some] at S4 S4a S4b ⊢
    clear ho
    have kd : w2.cell? ⟨w.heap.size, 0, none⟩ = some (.slice A l.length c) := cell_heap XD1.out rfl
    have ld := heap_lt XD1.out
    go_wp2_with fail
    clear kd ld
    have b := B1.out.alloc B1.out.size (.cells #[.string (f.f 0).s, .slice A1f (f.f 1).l.length c1f, .string ((f.f 2).f 0).s, .slice A3f ((f.f 2).f 1).l.length c3f, .slice A4f (f.f 3).l.length c4f] 64)
    have XD := Lib.hid (heap_under (o := (.cells #[.string (f.f 0).s, .slice A1f (f.f 1).l.length c1f, .string ((f.f 2).f 0).s, .slice A3f ((f.f 2).f 1).l.length c3f, .slice A4f (f.f 3).l.length c4f] 64)) XD1.out)
    have XF := Lib.hid (heap_at (w := w2) (o := (.cells #[.string (f.f 0).s, .slice A1f (f.f 1).l.length c1f, .string ((f.f 2).f 0).s, .slice A3f ((f.f 2).f 1).l.length c3f, .slice A4f (f.f 3).l.length c4f] 64)) rfl)
    have B0 := Lib.hid b; clear b XD1 B1
    generalize w2.alloc (.cells #[.string (f.f 0).s, .slice A1f (f.f 1).l.length c1f, .string ((f.f 2).f 0).s, .slice A3f ((f.f 2).f 1).l.length c3f, .slice A4f (f.f 3).l.length c4f] 64) = wc at *
    refine (HF.out (((f.f 2).f 0).s) wc (H0.out.trans (B0.out.mono H0.out.size))).mono ?_
    rintro e w3 ⟨cs, rfl, b1, rv1⟩
    have B1 := Lib.hid (B0.out.trans (b1.mono B0.out.size))
    have XF1 := Lib.hid ((b1.block _ (heap_lt XF.out)).trans XF.out)
    clear b1 XD XF B0
    obtain ⟨A2n, c2n, A3n, c3n, A4n, c4n, A5n, c5n, A6n, c6n, rfl, -, -, -, ⟨s5a, s5b, -, s5⟩, -⟩ := in58 rv1
    have S5 := Lib.hid s5; have S5a := Lib.hid s5a; have S5b := Lib.hid s5b
    clear rv1 s5 s5a s5b
    generalize hN : (findD l 1 ((f.f 2).f 0).s).getD default = n at *
    have HN := Lib.hid hN; clear hN
    generalize (findD l 1 ((f.f 2).f 0).s).isSome = bn at *
    have kf : w3.cell? ⟨w2.heap.size, 4, none⟩ = some (.slice A4f (f.f 3).l.length c4f) := cell_heap XF1.out rfl
    have lf := heap_lt XF1.out
    go_wp2_with fail
    clear kf lf
    have b := B1.out.alloc B1.out.size (.cells #[.int .i64 (n.f 0).n, .string (n.f 1).s, .slice A2n (n.f 2).l.length c2n, .slice A3n (n.f 3).l.length c3n, .slice A4n (n.f 4).l.length c4n, .slice A5n (n.f 5).l.length c5n, .slice A6n (n.f 6).l.length c6n] 58)
    have XF := Lib.hid (heap_under (o := (.cells #[.int .i64 (n.f 0).n, .string (n.f 1).s, .slice A2n (n.f 2).l.length c2n, .slice A3n (n.f 3).l.length c3n, .slice A4n (n.f 4).l.length c4n, .slice A5n (n.f 5).l.length c5n, .slice A6n (n.f 6).l.length c6n] 58)) XF1.out)
    have XN := Lib.hid (heap_at (w := w3) (o := (.cells #[.int .i64 (n.f 0).n, .string (n.f 1).s, .slice A2n (n.f 2).l.length c2n, .slice A3n (n.f 3).l.length c3n, .slice A4n (n.f 4).l.length c4n, .slice A5n (n.f 5).l.length c5n, .slice A6n (n.f 6).l.length c6n] 58)) rfl)
    have B0 := Lib.hid b; clear b XF1 B1
    generalize w3.alloc (.cells #[.int .i64 (n.f 0).n, .string (n.f 1).s, .slice A2n (n.f 2).l.length c2n, .slice A3n (n.f 3).l.length c3n, .slice A4n (n.f 4).l.length c4n, .slice A5n (n.f 5).l.length c5n, .slice A6n (n.f 6).l.length c6n] 58) = wd at *
    have HP := Lib.hid (parts_some HT.out Ho.out HN.out)
    refine (ageP A4f (f.f 3).l c4f w0 wd (H0.out.trans (B0.out.mono H0.out.size)) S4.out S4a.out S4b.out).mono ?_
    rintro e w4 ⟨rfl, b1⟩
    have B1 := Lib.hid (B0.out.trans (b1.mono B0.out.size))
    have XF1 := Lib.hid ((b1.block _ (heap_lt XF.out)).trans XF.out)
    have XN1 := Lib.hid ((b1.block _ (heap_lt XN.out)).trans XN.out)
    clear b1 XF XN B0
    have B0 := B1; have XF := XF1; have XN := XN1; clear B1 XF1 XN1
    have kf : w4.cell? ⟨w2.heap.size, 4, none⟩ = some (.slice A4f (f.f 3).l.length c4f) := cell_heap XF.out rfl
    have kn : w4.cell? ⟨w3.heap.size, 3, none⟩ = some (.slice A3n (n.f 3).l.length c3n) := cell_heap XN.out rfl
    have lf := heap_lt XF.out
    have ln := heap_lt XN.out
    generalize hga : ageV (f.f 3).l = ga at *
    obtain ⟨g1, g2⟩ := ga
    simp only
    cases g2 with
    | false =>
      have Hga := Lib.hid hga; clear hga
      go_wp2_with fail
      refine (ageP A3n (n.f 3).l c3n w0 w4 (H0.out.trans (B0.out.mono H0.out.size)) S5.out S5a.out S5b.out).mono ?_
      rintro e w5 ⟨rfl, b1⟩
      clear kf kn lf ln
      have B1 := Lib.hid (B0.out.trans (b1.mono B0.out.size))
      have XF1 := Lib.hid ((b1.block _ (heap_lt XF.out)).trans XF.out)
      have XN1 := Lib.hid ((b1.block _ (heap_lt XN.out)).trans XN.out)
      clear b1 XF XN B0
      have B0 := B1; have XF := XF1; have XN := XN1; clear B1 XF1 XN1
      have kf : w5.cell? ⟨w2.heap.size, 4, none⟩ = some (.slice A4f (f.f 3).l.length c4f) := cell_heap XF.out rfl
      have kn : w5.cell? ⟨w3.heap.size, 3, none⟩ = some (.slice A3n (n.f 3).l.length c3n) := cell_heap XN.out rfl
      have lf := heap_lt XF.out
      have ln := heap_lt XN.out
      generalize hgb : ageV (n.f 3).l = gb at *
      obtain ⟨y1, y2⟩ := gb
      simp only
      have Hgb := Lib.hid hgb; clear hgb
      go_wp2_with fail
      refine (privP A4f (f.f 3).l c4f w0 w5 (H0.out.trans (B0.out.mono H0.out.size)) S4.out S4a.out S4b.out).mono ?_
      rintro e w6 ⟨rfl, b1⟩
      clear kf kn lf ln
      have B1 := Lib.hid (B0.out.trans (b1.mono B0.out.size))
      have XF1 := Lib.hid ((b1.block _ (heap_lt XF.out)).trans XF.out)
      have XN1 := Lib.hid ((b1.block _ (heap_lt XN.out)).trans XN.out)
      clear b1 XF XN B0
      have B0 := B1; have XF := XF1; have XN := XN1; clear B1 XF1 XN1
      have kf : w6.cell? ⟨w2.heap.size, 4, none⟩ = some (.slice A4f (f.f 3).l.length c4f) := cell_heap XF.out rfl
      have kn : w6.cell? ⟨w3.heap.size, 3, none⟩ = some (.slice A3n (n.f 3).l.length c3n) := cell_heap XN.out rfl
      have lf := heap_lt XF.out
      have ln := heap_lt XN.out
      cases hp : privV (f.f 3).l
      · go_wp2_with fail
        refine (privP A3n (n.f 3).l c3n w0 w6 (H0.out.trans (B0.out.mono H0.out.size)) S5.out S5a.out S5b.out).mono ?_
        rintro e w7 ⟨rfl, b1⟩
        generalize hq : privV (n.f 3).l = pq at *
        have Hq := Lib.hid hq; clear hq
        go_wp2
        go_ret3
        exact ⟨by rw [HX.out]; unfold ownV; rw [HP.out]; simp [Hga.out, Hgb.out, hp, Hq.out], B0.out.trans (b1.mono B0.out.size)⟩
      · go_wp2
        go_ret3
        exact ⟨by rw [HX.out]; unfold ownV; rw [HP.out]; simp [Hga.out, Hgb.out, hp], B0.out⟩
    | true =>
      have Hga := Lib.hid hga; clear hga
      go_wp2_with fail
      refine (privP A4f (f.f 3).l c4f w0 w4 (H0.out.trans (B0.out.mono H0.out.size)) S4.out S4a.out S4b.out).mono ?_
      rintro e w5 ⟨rfl, b1⟩
      clear kf kn lf ln
      have B1 := Lib.hid (B0.out.trans (b1.mono B0.out.size))
      have XF1 := Lib.hid ((b1.block _ (heap_lt XF.out)).trans XF.out)
      have XN1 := Lib.hid ((b1.block _ (heap_lt XN.out)).trans XN.out)
      clear b1 XF XN B0
      have B0 := B1; have XF := XF1; have XN := XN1; clear B1 XF1 XN1
      have kf : w5.cell? ⟨w2.heap.size, 4, none⟩ = some (.slice A4f (f.f 3).l.length c4f) := cell_heap XF.out rfl
      have kn : w5.cell? ⟨w3.heap.size, 3, none⟩ = some (.slice A3n (n.f 3).l.length c3n) := cell_heap XN.out rfl
      have lf := heap_lt XF.out
      have ln := heap_lt XN.out
      cases hp : privV (f.f 3).l
      · go_wp2_with fail
        refine (privP A3n (n.f 3).l c3n w0 w5 (H0.out.trans (B0.out.mono H0.out.size)) S5.out S5a.out S5b.out).mono ?_
        rintro e w6 ⟨rfl, b1⟩
        generalize hq : privV (n.f 3).l = pq at *
        have Hq := Lib.hid hq; clear hq
        go_wp2
        go_ret3
        exact ⟨by rw [HX.out]; unfold ownV; rw [HP.out]; simp [Hga.out, hp, Hq.out], B0.out.trans (b1.mono B0.out.size)⟩
      · go_wp2
        go_ret3
        exact ⟨by rw [HX.out]; unfold ownV; rw [HP.out]; simp [Hga.out, hp], B0.out⟩
end Go.Proofs.YtohneabalakmeaaDoor
