/- build: the walk. -/
import Derived.Test.YtkldeelhlbhlmaaX
import Derived.Deep.Cut
namespace Go.Proofs.Ytkldeelhlbhlmaa
open Go.RowKit
attribute [local irreducible] wpList Calls Code.wp kidsT
set_option maxRecDepth 100000 in
set_option maxHeartbeats 4000000 in
theorem build18_step (h : Nat) (g : Nat → Tree) (L : List (Int × Int)) (A : Option Addr) (c : Nat) (a : Nat) (w : World) (hL : L.length ≤ 100) (ha : a < L.length) (hS : Sp w (fun k => k < w.heap.size) A L) (hg : ∀ i, i < L.length → (g i).list.length ≤ 100)
    (ih : ∀ i, a < i → i < L.length → ∀ wr, Below w.heap.size w wr → Calls Try.prog 18 #[.slice A L.length c, .int .i64 i] wr (Bu h (g i) wr)) :
    Calls Try.prog 18 #[.slice A L.length c, .int .i64 a] w (Bu (h + 1) (.node (gS L a).1 a (kidsT L a g L.length)) w) := by
  have HS := Lib.hid hS; have IH := Lib.hid ih; clear hS ih
  have hlow := kidsT_low L a g (a + 1) (Nat.le_refl _)
  have Hlow := Lib.hid hlow; clear hlow
  have ha2 : (a : Int) < (L.length : Int) := by omega
  obtain ⟨b, off, rfl, hI, hc⟩ := HS.out (by omega)
  have e1 := (hc a ha).1
  have Hc := Lib.hid hc; clear hc
  go_enter Try.func18, Try.ntmps18
  go_wp2_with fail
  have hI2 : b < w.heap.size := hI
  obtain ⟨w0, hw0⟩ : ∃ w0, w0 = (w.alloc (.cells #[.int .i64 0, .int .i64 0, .slice none 0 0] 34)).alloc (.cells #[.int .i64 0, .int .i64 0, .slice none 0 0] 39) := ⟨_, rfl⟩
  have c0 : w0.cell? ⟨b, off + a * 2, none⟩ = some (.int .i64 (gS L a).1) := by rw [hw0, World.cell?_alloc_lt _ _ _ (by simp; omega), World.cell?_alloc_lt _ _ _ hI2]; exact e1
  have hs0 : w0.heap.size = w.heap.size + 2 := by rw [hw0]; simp
  have hb0 : Below w.heap.size w w0 := by rw [hw0]; exact ((Below.refl _ _).alloc (Nat.le_refl _) _).alloc (by simp) _
  have hr1 : w0.heap[w.heap.size]? = some (.cells #[.int .i64 0, .int .i64 0, .slice none 0 0] 34 (0, 0)) := by rw [hw0]; exact heap_under (heap_at rfl)
  have hr2 : w0.heap[w.heap.size + 1]? = some (.cells #[.int .i64 0, .int .i64 0, .slice none 0 0] 39 (0, 0)) := by rw [hw0]; exact heap_at (by simp)
  rw [← hw0]
  have Hs0 := Lib.hid hs0; have Hb0 := Lib.hid hb0; have Hr1 := Lib.hid hr1; have Hr2 := Lib.hid hr2
  have c1 : ∀ o, (w0.alloc o).cell? ⟨b, off + a * 2, none⟩ = some (.int .i64 (gS L a).1) := fun o => by rw [World.cell?_alloc_lt _ _ _ (show b < w0.heap.size by omega)]; exact c0
  have c2 : ∀ o o', ((w0.alloc o).alloc o').cell? ⟨b, off + a * 2, none⟩ = some (.int .i64 (gS L a).1) := fun o o' => by rw [World.cell?_alloc_lt _ _ _ (show b < (w0.alloc o).heap.size by simp; omega)]; exact c1 o
  clear hw0 hs0 hb0 hr1 hr2
  have hF : ∀ x y w1, (x = w0.heap.size ∧ y = w0.heap.size + 1 ∧ w1 = ((w0.alloc (.cells #[.int .i64 (gS L a).1, .int .i64 (a : Int), .slice none 0 0] 34)).alloc (.cells #[.int .i64 (gS L a).1, .int .i64 (a : Int), .slice none 0 0] 39)).drew) ∨
      (x = w0.heap.size + 1 ∧ y = w0.heap.size ∧ w1 = ((w0.alloc (.cells #[.int .i64 (gS L a).1, .int .i64 (a : Int), .slice none 0 0] 39)).alloc (.cells #[.int .i64 (gS L a).1, .int .i64 (a : Int), .slice none 0 0] 34)).drew) →
      (w.heap.size ≤ x ∧ w.heap.size ≤ y) ∧ Below w.heap.size w w1 ∧ Bs w1.heap.size x y w.heap.size (w.heap.size + 1) (gS L a).1 a h (.slice none 0 0) (.slice none 0 0) (.slice none 0 0) (.slice none 0 0) [] [] [] [] w1 := by
    rintro x y w1 (⟨rfl, rfl, rfl⟩ | ⟨rfl, rfl, rfl⟩)
    · have hs := Hs0.out
      refine ⟨⟨by omega, by omega⟩, ((Hb0.out.alloc (by omega) _).alloc (by simp; omega) _).drew, ?_⟩
      exact ⟨heap_under (heap_at rfl), heap_at (by simp), heap_under (heap_under Hr1.out), heap_under (heap_under Hr2.out), World.ownsRow_nil _ _ _ _, World.ownsRow_nil _ _ _ _, Nd.nil _ _ _, Nd.nil _ _ _, by simp [World.drew]; omega, by omega⟩
    · have hs := Hs0.out
      refine ⟨⟨by omega, by omega⟩, ((Hb0.out.alloc (by omega) _).alloc (by simp; omega) _).drew, ?_⟩
      exact ⟨heap_at (by simp), heap_under (heap_at rfl), heap_under (heap_under Hr1.out), heap_under (heap_under Hr2.out), World.ownsRow_nil _ _ _ _, World.ownsRow_nil _ _ _ _, Nd.nil _ _ _, Nd.nil _ _ _, by simp [World.drew]; omega, by omega⟩
  have HFF := Lib.hid hF; clear hF
  go_region
  rotate_left
  · have hq := HFF.out _ _ _ (.inr ⟨rfl, rfl, rfl⟩)
    clear HFF
    generalize hw1 : ((w0.alloc (.cells #[.int .i64 (gS L a).1, .int .i64 (a : Int), .slice none 0 0] 39)).alloc (.cells #[.int .i64 (gS L a).1, .int .i64 (a : Int), .slice none 0 0] 34)).drew = w1 at *
    generalize hba : w0.heap.size + 1 = ba at *
    generalize hbb : w0.heap.size = bb at *
    clear hw1 hba hbb
    have HB1 := Lib.hid hq.2.1; have HX := Lib.hid hq.2.2; have Hge := Lib.hid hq.1
    clear hq
    go_wp2
    go_loopg [8] (L.length - (a + 1)) (fun j i wr => ∃ m : Nat, m + j = L.length ∧ a + 1 ≤ m ∧ i = .int .i64 m ∧ Below w.heap.size w wr ∧ ∃ A1 c1 A2 c2 xs1 xs2, Bs w1.heap.size ba bb w.heap.size (w.heap.size + 1) (gS L a).1 a h (.slice A1 (kidsT L a g m).length c1) (.slice A2 (kidsT L a g m).length c2) (.slice A1 (kidsT L a g m).length c1) (.slice A2 (kidsT L a g m).length c2) xs1 xs2 (kidsT L a g m) (kidsT L a g m) wr)
    case atStart =>
      refine ⟨a + 1, by omega, Nat.le_refl _, by go_num, HB1.out, none, 0, none, 0, [], [], ?_⟩
      rw [Hlow.out]
      exact HX.out
    case round =>
      obtain ⟨m, hmj, ham, rfl, hb, A1, c1, A2, c2, xs1, xs2, hx⟩ := hrel
      have Hmj := Lib.hid hmj; have hmn : m ≤ L.length := by omega
      clear hmj
      have Hb := Lib.hid hb; have HY := Lib.hid hx
      clear hb hx
      have hkl := kidsT_length L a g m
      by_cases hlt : m < L.length
      · have hxi : (m : Int) < (L.length : Int) := by omega
        have ein := (Hb.out.cell (p := ⟨b, off + m * 2 + 1, none⟩) hI).trans (Hc.out m hlt).2
        have hkid : kidsT L a g (m + 1) = if a < m ∧ (gS L m).2 = (a : Int) then kidsT L a g m ++ [g m] else kidsT L a g m := by rw [kidsT]
        by_cases hin : (gS L m).2 = (a : Int)
        · rw [if_pos ⟨ham, hin⟩] at hkid
          have Hkid := Lib.hid hkid; clear hkid
          have hbeq : ((gS L m).2 == (a : Int)) = true := by simp [hin]
          have hgm := hg m hlt
          have Hin := Lib.hid hin; clear hin
          have HIH := Lib.hid (IH.out m ham hlt wr Hb.out)
          generalize kidsT L a g m = ts at *
          generalize g m = t at *
          obtain ⟨tk, tf, tl⟩ := t
          go_wp2_with fail
          refine HIH.out.mono ?_
          rintro e w2 ⟨A3, c3, A4, c4, rfl, hn3, hn4, hb2⟩
          unfold tree
          simp only [Tree.kind, Tree.fetch, Tree.list] at hn3 hn4 hgm ⊢
          go_upto_region 7 with (fail)
          obtain ⟨W3, hW3⟩ : ∃ W3, W3 = ((w2.alloc (.cells #[.int .i64 tk, .int .i64 tf, .slice A3 tl.length c3] 34)).alloc (.cells #[.int .i64 tk, .int .i64 tf, .slice A4 tl.length c4] 39)) := ⟨_, rfl⟩
          have hb3 : Below wr.heap.size wr W3 := by rw [hW3]; exact (hb2.alloc hb2.size _).alloc (by have := hb2.size; simp; omega) _
          have hb23 : Below w2.heap.size w2 W3 := by rw [hW3]; exact ((Below.refl _ _).alloc (Nat.le_refl _) _).alloc (by simp) _
          have hx3 : W3.heap[w2.heap.size]? = some (.cells #[.int .i64 tk, .int .i64 tf, .slice A3 tl.length c3] 34 (0, 0)) := by rw [hW3]; exact heap_under (heap_at rfl)
          have hy3 : W3.heap[w2.heap.size + 1]? = some (.cells #[.int .i64 tk, .int .i64 tf, .slice A4 tl.length c4] 39 (0, 0)) := by rw [hW3]; exact heap_at (by simp)
          have s3 := HY.out.below hb3
          have n3 : Ns W3 (Jx w1.heap.size (.slice A1 ts.length c1) (.slice A2 ts.length c2) W3) h A3 tl := hn3.turn fun k hk => ⟨hb23.block k hk.2, HY.out.fresh hk.1 (Nat.lt_of_lt_of_le hk.2 hb23.size)⟩
          have n4 : Ns W3 (Jx w1.heap.size (.slice A1 ts.length c1) (.slice A2 ts.length c2) W3) h A4 tl := hn4.turn fun k hk => ⟨hb23.block k hk.2, HY.out.fresh hk.1 (Nat.lt_of_lt_of_le hk.2 hb23.size)⟩
          rw [← hW3]
          clear hW3
          have a2 : W3.cell? ⟨ba, 2, none⟩ = some (.slice A1 ts.length c1) := cell_heap s3.xa rfl
          have x0 : W3.cell? ⟨w2.heap.size, 0, none⟩ = some (.int .i64 tk) := cell_heap hx3 rfl
          have x1 : W3.cell? ⟨w2.heap.size, 1, none⟩ = some (.int .i64 tf) := cell_heap hx3 rfl
          have x2 : W3.cell? ⟨w2.heap.size, 2, none⟩ = some (.slice A3 tl.length c3) := cell_heap hx3 rfl
          have Hlt1 := Lib.hid (show ∀ y, (Value.slice A1 ts.length c1).ownBlock = some y → y < w2.heap.size + 1 from fun y hy => by have := (HY.out.o1.lt y hy).2; have := hb2.size; omega)
          have Hz := Lib.hid (show w1.heap.size ≤ w2.heap.size + 1 from by have := HY.out.lt.2.2.2.2; have := hb2.size; omega)
          have HS3 := Lib.hid s3; have HN3 := Lib.hid n3; have HN4 := Lib.hid n4; have HY3 := Lib.hid hy3
          have HB3 := Lib.hid (Hb.out.trans (hb3.mono Hb.out.size))
          clear s3 n3 n4 hb3 hb23 hx3 hy3 hn3 hn4 hb2
          go_upto_region 8 with (at_builtin; refine append_new (o := ⟨some 50, _, _, _, _, _⟩) rfl (.tmp 47) (.tmp 49) 32 rfl w1.heap.size 34 _ 3 40 Try.underlying32 nodeinfo rfl (by decide) _ _ _ HS3.out.o1 #[.int .i64 tk, .int .i64 tf, .slice A3 tl.length c3] 1 rfl rfl rfl rfl (by simp only [maxLen]; omega) (by omega) HS3.out.lt.2.2.2.2 ?_; intro v' w4 hown' hg' hsz' hat' hsh'; obtain ⟨g', c'', rfl⟩ := hsh' (by omega); obtain ⟨b0, b1, b2, y0, y1, y2, HS5, HN5⟩ := mid1 HS3.out HN3.out HN4.out (by omega) HY3.out Hlt1.out Hz.out hown' hg' hat'; have HB4 := Lib.hid (HB3.out.grown hg' HB3.out.size (fun y hy => Nat.le_trans HB1.out.size (HS3.out.o1.lt y hy).1)); have HH5 := Lib.hid HS5; have HHN5 := Lib.hid HN5; clear HS5 HN5 hown' hg' hsz' hat' hsh')
          clear b0 b1 a2 x0 x1 x2
          generalize hW5 : w4.setCell ⟨ba, 2, none⟩ (.slice (some ⟨g', 0, none⟩) (ts.length + 1) c'') = W5 at *
          have HB5 : Hid (Below w.heap.size w W5) := by
            rw [← hW5]; exact HB4.out.setCell Hge.out.1 _
          clear hW5
          go_wp2_with (at_builtin; refine append_new (o := ⟨some 56, _, _, _, _, _⟩) rfl (.tmp 53) (.tmp 55) 37 rfl w1.heap.size 39 _ 3 40 Try.underlying37 rnodeinfo rfl (by decide) _ _ _ HH5.out.o2 #[.int .i64 tk, .int .i64 tf, .slice A4 tl.length c4] 1 rfl rfl rfl rfl (by simp only [maxLen]; omega) (by omega) HH5.out.lt.2.2.2.2 ?_; intro v2' w6 hown2' hg2' hsz2' hat2' hsh2'; obtain ⟨g2', c2'', rfl⟩ := hsh2' (by omega); obtain ⟨d0, d1, HS7⟩ := mid2 HH5.out HHN5.out (by omega) hown2' hg2' hat2'; have HB6 := Lib.hid (HB5.out.grown hg2' HB5.out.size (fun y hy => Nat.le_trans HB1.out.size (HH5.out.o2.lt y hy).1)); have HH7 := Lib.hid HS7; clear HS7 hown2' hg2' hsz2' hat2' hsh2')
          go_roundg (gk - 1)
          case measure => have := Hmj.out; omega
          case rel =>
            refine ⟨m + 1, by have := Hmj.out; omega, by omega, by go_num, HB6.out.setCell Hge.out.2 _, ?_⟩
            rw [Hkid.out, List.length_append]
            exact ⟨_, _, _, _, _, _, HH7.out⟩
        · rw [if_neg (fun h => hin h.2)] at hkid
          have Hkid := Lib.hid hkid; clear hkid
          have hbeq : ((gS L m).2 == (a : Int)) = false := by simp [hin]
          have Hin := Lib.hid hin; clear hin
          go_wp2
          go_roundg (gk - 1)
          case measure => have := Hmj.out; omega
          case rel =>
            refine ⟨m + 1, by have := Hmj.out; omega, by omega, by go_num, Hb.out, ?_⟩
            rw [Hkid.out]
            exact ⟨_, _, _, _, _, _, HY.out⟩
      · obtain rfl : m = L.length := by omega
        generalize kidsT L a g L.length = ts at *
        have s3 := HY.out
        have a0 : wr.cell? ⟨ba, 0, none⟩ = some (.int .i64 (gS L a).1) := cell_heap s3.xa rfl
        have a1 : wr.cell? ⟨ba, 1, none⟩ = some (.int .i64 (a : Int)) := cell_heap s3.xa rfl
        have a2 : wr.cell? ⟨ba, 2, none⟩ = some (.slice A1 ts.length c1) := cell_heap s3.xa rfl
        have b0 : wr.cell? ⟨bb, 0, none⟩ = some (.int .i64 (gS L a).1) := cell_heap s3.xb rfl
        have b1 : wr.cell? ⟨bb, 1, none⟩ = some (.int .i64 (a : Int)) := cell_heap s3.xb rfl
        have b2 : wr.cell? ⟨bb, 2, none⟩ = some (.slice A2 ts.length c2) := cell_heap s3.xb rfl
        have z00 : wr.cell? ⟨w.heap.size, 0, none⟩ = some (.int .i64 0) := cell_heap s3.z0 rfl
        have z01 : wr.cell? ⟨w.heap.size, 1, none⟩ = some (.int .i64 0) := cell_heap s3.z0 rfl
        have z02 : wr.cell? ⟨w.heap.size, 2, none⟩ = some (.slice none 0 0) := cell_heap s3.z0 rfl
        have z10 : wr.cell? ⟨w.heap.size + 1, 0, none⟩ = some (.int .i64 0) := cell_heap s3.z1 rfl
        have z11 : wr.cell? ⟨w.heap.size + 1, 1, none⟩ = some (.int .i64 0) := cell_heap s3.z1 rfl
        have z12 : wr.cell? ⟨w.heap.size + 1, 2, none⟩ = some (.slice none 0 0) := cell_heap s3.z1 rfl
        have f00 := frozen_heap (o := 0) s3.z0
        have f01 := frozen_heap (o := 1) s3.z0
        have f02 := frozen_heap (o := 2) s3.z0
        have f10 := frozen_heap (o := 0) s3.z1
        have f11 := frozen_heap (o := 1) s3.z1
        have f12 := frozen_heap (o := 2) s3.z1
        obtain ⟨n1, n2, n3, n4, n5, n6⟩ := s3.ne
        have n2' := Ne.symm n2; have n3' := Ne.symm n3; have n4' := Ne.symm n4; have n5' := Ne.symm n5; have n6' := Ne.symm n6
        clear s3
        go_wp2_with fail
        go_region
        have hgo : w.heap.size + 1 ≠ w.heap.size := by omega
        have hg1 := (set3 (w := ((wr.setCell ⟨w.heap.size, 0, none⟩ (.int .i64 (gS L a).1)).setCell ⟨w.heap.size, 1, none⟩ (.int .i64 (a : Int))).setCell ⟨w.heap.size, 2, none⟩ (.slice A1 ts.length c1)) (g := w.heap.size + 1) (k := w.heap.size) (x0 := .int .i64 (gS L a).1) (x1 := .int .i64 (a : Int)) (x2 := .slice A2 ts.length c2) (Ne.symm hgo)).trans (fin3 (x0 := .int .i64 (gS L a).1) (x1 := .int .i64 (a : Int)) (x2 := .slice A1 ts.length c1) HY.out.z0)
        have hg2 := fin3 (x0 := .int .i64 (gS L a).1) (x1 := .int .i64 (a : Int)) (x2 := .slice A2 ts.length c2) ((set3 (x0 := .int .i64 (gS L a).1) (x1 := .int .i64 (a : Int)) (x2 := .slice A1 ts.length c1) hgo).trans HY.out.z1)
        have Hg1 := Lib.hid hg1; have Hg2 := Lib.hid hg2
        clear a0 a1 a2 b0 b1 b2 z00 z01 z02 z10 z11 z12 f00 f01 f02 f10 f11 f12 n1 n2 n3 n4 n5 n6 n2' n3' n4' n5' n6' hg1 hg2 hgo
        go_wp2
        have hw : Below w.heap.size w (((((wr.setCell ⟨w.heap.size, 0, none⟩ (.int .i64 (gS L a).1)).setCell ⟨w.heap.size, 1, none⟩ (.int .i64 (a : Int))).setCell ⟨w.heap.size, 2, none⟩ (.slice A1 ts.length c1)).setCell ⟨w.heap.size + 1, 0, none⟩ (.int .i64 (gS L a).1)).setCell ⟨w.heap.size + 1, 1, none⟩ (.int .i64 (a : Int))) := ((((Hb.out.setCell (Nat.le_refl _) _).setCell (Nat.le_refl _) _).setCell (Nat.le_refl _) _).setCell (Nat.le_succ _) _).setCell (Nat.le_succ _) _
        have hv := ((((((Below.refl w.heap.size wr).setCell (p := ⟨w.heap.size, 0, none⟩) (Nat.le_refl _) (.int .i64 (gS L a).1)).setCell (p := ⟨w.heap.size, 1, none⟩) (Nat.le_refl _) (.int .i64 (a : Int))).setCell (p := ⟨w.heap.size, 2, none⟩) (Nat.le_refl _) (.slice A1 ts.length c1)).setCell (p := ⟨w.heap.size + 1, 0, none⟩) (Nat.le_succ _) (.int .i64 (gS L a).1)).setCell (p := ⟨w.heap.size + 1, 1, none⟩) (Nat.le_succ _) (.int .i64 (a : Int))).setCell (p := ⟨w.heap.size + 1, 2, none⟩) (Nat.le_succ _) (.slice A2 ts.length c2)
        have hsz := hv.size
        obtain ⟨_, _, l3, l4, _⟩ := HY.out.lt
        have hbw := HB1.out.size
        have hsix : ∀ k, w1.heap.size ≤ k → _ = wr.heap[k]? := fun k hk => six (w := wr) (k := k) (r0 := w.heap.size) (r1 := w.heap.size + 1) (x0 := .int .i64 (gS L a).1) (x1 := .int .i64 (a : Int)) (x2 := .slice A1 ts.length c1) (y0 := .int .i64 (gS L a).1) (y1 := .int .i64 (a : Int)) (y2 := .slice A2 ts.length c2) (by omega) (by omega)
        have hfin := (hw.setCell (p := ⟨w.heap.size + 1, 2, none⟩) (Nat.le_succ _) (.slice A2 ts.length c2))
        clear hv hw
        generalize (((((wr.setCell ⟨w.heap.size, 0, none⟩ (.int .i64 (gS L a).1)).setCell ⟨w.heap.size, 1, none⟩ (.int .i64 (a : Int))).setCell ⟨w.heap.size, 2, none⟩ (.slice A1 ts.length c1)).setCell ⟨w.heap.size + 1, 0, none⟩ (.int .i64 (gS L a).1)).setCell ⟨w.heap.size + 1, 1, none⟩ (.int .i64 (a : Int))).setCell ⟨w.heap.size + 1, 2, none⟩ (.slice A2 ts.length c2) = Wf at *
        refine bodyPost_end (results_cell_row2 rfl _ Wf.drew w.heap.size (w.heap.size + 1) 34 39 _ _ _ _ rfl rfl (show Wf.drew.heap[w.heap.size]? = _ from Hg1.out) (show Wf.drew.heap[w.heap.size + 1]? = _ from Hg2.out) Try.underlying34 Try.underlying39 rfl rfl (by kernel_rfl) (by kernel_rfl)) rfl ?_
        refine ⟨A1, c1, A2, c2, rfl, ?_, ?_, hfin.drew⟩
        · have hns := own_Ns HY.out.o1 rfl (J := fun k => w1.heap.size ≤ k ∧ k < wr.heap.size) (HY.out.d1.turn fun k hk => ⟨rfl, hk.1, hk.2.1⟩) (fun k hk hko => ⟨(HY.out.o1.lt k hko.symm).1, hk⟩)
          exact hns.turn fun k hk => ⟨hsix k hk.1, Nat.le_trans hbw hk.1, Nat.lt_of_lt_of_le hk.2 hsz⟩
        · have hns := own_Ns HY.out.o2 rfl (J := fun k => w1.heap.size ≤ k ∧ k < wr.heap.size) (HY.out.d2.turn fun k hk => ⟨rfl, hk.1, hk.2.1⟩) (fun k hk hko => ⟨(HY.out.o2.lt k hko.symm).1, hk⟩)
          exact hns.turn fun k hk => ⟨hsix k hk.1, Nat.le_trans hbw hk.1, Nat.lt_of_lt_of_le hk.2 hsz⟩
  · have hq := HFF.out _ _ _ (.inl ⟨rfl, rfl, rfl⟩)
    clear HFF
    generalize hw1 : ((w0.alloc (.cells #[.int .i64 (gS L a).1, .int .i64 (a : Int), .slice none 0 0] 34)).alloc (.cells #[.int .i64 (gS L a).1, .int .i64 (a : Int), .slice none 0 0] 39)).drew = w1 at *
    generalize hbb : w0.heap.size + 1 = bb at *
    generalize hba : w0.heap.size = ba at *
    clear hw1 hba hbb
    have HB1 := Lib.hid hq.2.1; have HX := Lib.hid hq.2.2; have Hge := Lib.hid hq.1
    clear hq
    go_wp2
    go_loopg [8] (L.length - (a + 1)) (fun j i wr => ∃ m : Nat, m + j = L.length ∧ a + 1 ≤ m ∧ i = .int .i64 m ∧ Below w.heap.size w wr ∧ ∃ A1 c1 A2 c2 xs1 xs2, Bs w1.heap.size ba bb w.heap.size (w.heap.size + 1) (gS L a).1 a h (.slice A1 (kidsT L a g m).length c1) (.slice A2 (kidsT L a g m).length c2) (.slice A1 (kidsT L a g m).length c1) (.slice A2 (kidsT L a g m).length c2) xs1 xs2 (kidsT L a g m) (kidsT L a g m) wr)
    case atStart =>
      refine ⟨a + 1, by omega, Nat.le_refl _, by go_num, HB1.out, none, 0, none, 0, [], [], ?_⟩
      rw [Hlow.out]
      exact HX.out
    case round =>
      obtain ⟨m, hmj, ham, rfl, hb, A1, c1, A2, c2, xs1, xs2, hx⟩ := hrel
      have Hmj := Lib.hid hmj; have hmn : m ≤ L.length := by omega
      clear hmj
      have Hb := Lib.hid hb; have HY := Lib.hid hx
      clear hb hx
      have hkl := kidsT_length L a g m
      by_cases hlt : m < L.length
      · have hxi : (m : Int) < (L.length : Int) := by omega
        have ein := (Hb.out.cell (p := ⟨b, off + m * 2 + 1, none⟩) hI).trans (Hc.out m hlt).2
        have hkid : kidsT L a g (m + 1) = if a < m ∧ (gS L m).2 = (a : Int) then kidsT L a g m ++ [g m] else kidsT L a g m := by rw [kidsT]
        by_cases hin : (gS L m).2 = (a : Int)
        · rw [if_pos ⟨ham, hin⟩] at hkid
          have Hkid := Lib.hid hkid; clear hkid
          have hbeq : ((gS L m).2 == (a : Int)) = true := by simp [hin]
          have hgm := hg m hlt
          have Hin := Lib.hid hin; clear hin
          have HIH := Lib.hid (IH.out m ham hlt wr Hb.out)
          generalize kidsT L a g m = ts at *
          generalize g m = t at *
          obtain ⟨tk, tf, tl⟩ := t
          go_wp2_with fail
          refine HIH.out.mono ?_
          rintro e w2 ⟨A3, c3, A4, c4, rfl, hn3, hn4, hb2⟩
          unfold tree
          simp only [Tree.kind, Tree.fetch, Tree.list] at hn3 hn4 hgm ⊢
          go_upto_region 7 with (fail)
          obtain ⟨W3, hW3⟩ : ∃ W3, W3 = ((w2.alloc (.cells #[.int .i64 tk, .int .i64 tf, .slice A3 tl.length c3] 34)).alloc (.cells #[.int .i64 tk, .int .i64 tf, .slice A4 tl.length c4] 39)) := ⟨_, rfl⟩
          have hb3 : Below wr.heap.size wr W3 := by rw [hW3]; exact (hb2.alloc hb2.size _).alloc (by have := hb2.size; simp; omega) _
          have hb23 : Below w2.heap.size w2 W3 := by rw [hW3]; exact ((Below.refl _ _).alloc (Nat.le_refl _) _).alloc (by simp) _
          have hx3 : W3.heap[w2.heap.size]? = some (.cells #[.int .i64 tk, .int .i64 tf, .slice A3 tl.length c3] 34 (0, 0)) := by rw [hW3]; exact heap_under (heap_at rfl)
          have hy3 : W3.heap[w2.heap.size + 1]? = some (.cells #[.int .i64 tk, .int .i64 tf, .slice A4 tl.length c4] 39 (0, 0)) := by rw [hW3]; exact heap_at (by simp)
          have s3 := HY.out.below hb3
          have n3 : Ns W3 (Jx w1.heap.size (.slice A1 ts.length c1) (.slice A2 ts.length c2) W3) h A3 tl := hn3.turn fun k hk => ⟨hb23.block k hk.2, HY.out.fresh hk.1 (Nat.lt_of_lt_of_le hk.2 hb23.size)⟩
          have n4 : Ns W3 (Jx w1.heap.size (.slice A1 ts.length c1) (.slice A2 ts.length c2) W3) h A4 tl := hn4.turn fun k hk => ⟨hb23.block k hk.2, HY.out.fresh hk.1 (Nat.lt_of_lt_of_le hk.2 hb23.size)⟩
          rw [← hW3]
          clear hW3
          have a2 : W3.cell? ⟨ba, 2, none⟩ = some (.slice A1 ts.length c1) := cell_heap s3.xa rfl
          have x0 : W3.cell? ⟨w2.heap.size, 0, none⟩ = some (.int .i64 tk) := cell_heap hx3 rfl
          have x1 : W3.cell? ⟨w2.heap.size, 1, none⟩ = some (.int .i64 tf) := cell_heap hx3 rfl
          have x2 : W3.cell? ⟨w2.heap.size, 2, none⟩ = some (.slice A3 tl.length c3) := cell_heap hx3 rfl
          have Hlt1 := Lib.hid (show ∀ y, (Value.slice A1 ts.length c1).ownBlock = some y → y < w2.heap.size + 1 from fun y hy => by have := (HY.out.o1.lt y hy).2; have := hb2.size; omega)
          have Hz := Lib.hid (show w1.heap.size ≤ w2.heap.size + 1 from by have := HY.out.lt.2.2.2.2; have := hb2.size; omega)
          have HS3 := Lib.hid s3; have HN3 := Lib.hid n3; have HN4 := Lib.hid n4; have HY3 := Lib.hid hy3
          have HB3 := Lib.hid (Hb.out.trans (hb3.mono Hb.out.size))
          clear s3 n3 n4 hb3 hb23 hx3 hy3 hn3 hn4 hb2
          go_upto_region 8 with (at_builtin; refine append_new (o := ⟨some 50, _, _, _, _, _⟩) rfl (.tmp 47) (.tmp 49) 32 rfl w1.heap.size 34 _ 3 40 Try.underlying32 nodeinfo rfl (by decide) _ _ _ HS3.out.o1 #[.int .i64 tk, .int .i64 tf, .slice A3 tl.length c3] 1 rfl rfl rfl rfl (by simp only [maxLen]; omega) (by omega) HS3.out.lt.2.2.2.2 ?_; intro v' w4 hown' hg' hsz' hat' hsh'; obtain ⟨g', c'', rfl⟩ := hsh' (by omega); obtain ⟨b0, b1, b2, y0, y1, y2, HS5, HN5⟩ := mid1 HS3.out HN3.out HN4.out (by omega) HY3.out Hlt1.out Hz.out hown' hg' hat'; have HB4 := Lib.hid (HB3.out.grown hg' HB3.out.size (fun y hy => Nat.le_trans HB1.out.size (HS3.out.o1.lt y hy).1)); have HH5 := Lib.hid HS5; have HHN5 := Lib.hid HN5; clear HS5 HN5 hown' hg' hsz' hat' hsh')
          clear b0 b1 a2 x0 x1 x2
          generalize hW5 : w4.setCell ⟨ba, 2, none⟩ (.slice (some ⟨g', 0, none⟩) (ts.length + 1) c'') = W5 at *
          have HB5 : Hid (Below w.heap.size w W5) := by
            rw [← hW5]; exact HB4.out.setCell Hge.out.1 _
          clear hW5
          go_wp2_with (at_builtin; refine append_new (o := ⟨some 56, _, _, _, _, _⟩) rfl (.tmp 53) (.tmp 55) 37 rfl w1.heap.size 39 _ 3 40 Try.underlying37 rnodeinfo rfl (by decide) _ _ _ HH5.out.o2 #[.int .i64 tk, .int .i64 tf, .slice A4 tl.length c4] 1 rfl rfl rfl rfl (by simp only [maxLen]; omega) (by omega) HH5.out.lt.2.2.2.2 ?_; intro v2' w6 hown2' hg2' hsz2' hat2' hsh2'; obtain ⟨g2', c2'', rfl⟩ := hsh2' (by omega); obtain ⟨d0, d1, HS7⟩ := mid2 HH5.out HHN5.out (by omega) hown2' hg2' hat2'; have HB6 := Lib.hid (HB5.out.grown hg2' HB5.out.size (fun y hy => Nat.le_trans HB1.out.size (HH5.out.o2.lt y hy).1)); have HH7 := Lib.hid HS7; clear HS7 hown2' hg2' hsz2' hat2' hsh2')
          go_roundg (gk - 1)
          case measure => have := Hmj.out; omega
          case rel =>
            refine ⟨m + 1, by have := Hmj.out; omega, by omega, by go_num, HB6.out.setCell Hge.out.2 _, ?_⟩
            rw [Hkid.out, List.length_append]
            exact ⟨_, _, _, _, _, _, HH7.out⟩
        · rw [if_neg (fun h => hin h.2)] at hkid
          have Hkid := Lib.hid hkid; clear hkid
          have hbeq : ((gS L m).2 == (a : Int)) = false := by simp [hin]
          have Hin := Lib.hid hin; clear hin
          go_wp2
          go_roundg (gk - 1)
          case measure => have := Hmj.out; omega
          case rel =>
            refine ⟨m + 1, by have := Hmj.out; omega, by omega, by go_num, Hb.out, ?_⟩
            rw [Hkid.out]
            exact ⟨_, _, _, _, _, _, HY.out⟩
      · obtain rfl : m = L.length := by omega
        generalize kidsT L a g L.length = ts at *
        have s3 := HY.out
        have a0 : wr.cell? ⟨ba, 0, none⟩ = some (.int .i64 (gS L a).1) := cell_heap s3.xa rfl
        have a1 : wr.cell? ⟨ba, 1, none⟩ = some (.int .i64 (a : Int)) := cell_heap s3.xa rfl
        have a2 : wr.cell? ⟨ba, 2, none⟩ = some (.slice A1 ts.length c1) := cell_heap s3.xa rfl
        have b0 : wr.cell? ⟨bb, 0, none⟩ = some (.int .i64 (gS L a).1) := cell_heap s3.xb rfl
        have b1 : wr.cell? ⟨bb, 1, none⟩ = some (.int .i64 (a : Int)) := cell_heap s3.xb rfl
        have b2 : wr.cell? ⟨bb, 2, none⟩ = some (.slice A2 ts.length c2) := cell_heap s3.xb rfl
        have z00 : wr.cell? ⟨w.heap.size, 0, none⟩ = some (.int .i64 0) := cell_heap s3.z0 rfl
        have z01 : wr.cell? ⟨w.heap.size, 1, none⟩ = some (.int .i64 0) := cell_heap s3.z0 rfl
        have z02 : wr.cell? ⟨w.heap.size, 2, none⟩ = some (.slice none 0 0) := cell_heap s3.z0 rfl
        have z10 : wr.cell? ⟨w.heap.size + 1, 0, none⟩ = some (.int .i64 0) := cell_heap s3.z1 rfl
        have z11 : wr.cell? ⟨w.heap.size + 1, 1, none⟩ = some (.int .i64 0) := cell_heap s3.z1 rfl
        have z12 : wr.cell? ⟨w.heap.size + 1, 2, none⟩ = some (.slice none 0 0) := cell_heap s3.z1 rfl
        have f00 := frozen_heap (o := 0) s3.z0
        have f01 := frozen_heap (o := 1) s3.z0
        have f02 := frozen_heap (o := 2) s3.z0
        have f10 := frozen_heap (o := 0) s3.z1
        have f11 := frozen_heap (o := 1) s3.z1
        have f12 := frozen_heap (o := 2) s3.z1
        obtain ⟨n1, n2, n3, n4, n5, n6⟩ := s3.ne
        have n2' := Ne.symm n2; have n3' := Ne.symm n3; have n4' := Ne.symm n4; have n5' := Ne.symm n5; have n6' := Ne.symm n6
        clear s3
        go_wp2_with fail
        go_region
        have hgo : w.heap.size + 1 ≠ w.heap.size := by omega
        have hg1 := (set3 (w := ((wr.setCell ⟨w.heap.size, 0, none⟩ (.int .i64 (gS L a).1)).setCell ⟨w.heap.size, 1, none⟩ (.int .i64 (a : Int))).setCell ⟨w.heap.size, 2, none⟩ (.slice A1 ts.length c1)) (g := w.heap.size + 1) (k := w.heap.size) (x0 := .int .i64 (gS L a).1) (x1 := .int .i64 (a : Int)) (x2 := .slice A2 ts.length c2) (Ne.symm hgo)).trans (fin3 (x0 := .int .i64 (gS L a).1) (x1 := .int .i64 (a : Int)) (x2 := .slice A1 ts.length c1) HY.out.z0)
        have hg2 := fin3 (x0 := .int .i64 (gS L a).1) (x1 := .int .i64 (a : Int)) (x2 := .slice A2 ts.length c2) ((set3 (x0 := .int .i64 (gS L a).1) (x1 := .int .i64 (a : Int)) (x2 := .slice A1 ts.length c1) hgo).trans HY.out.z1)
        have Hg1 := Lib.hid hg1; have Hg2 := Lib.hid hg2
        clear a0 a1 a2 b0 b1 b2 z00 z01 z02 z10 z11 z12 f00 f01 f02 f10 f11 f12 n1 n2 n3 n4 n5 n6 n2' n3' n4' n5' n6' hg1 hg2 hgo
        go_wp2
        have hw : Below w.heap.size w (((((wr.setCell ⟨w.heap.size, 0, none⟩ (.int .i64 (gS L a).1)).setCell ⟨w.heap.size, 1, none⟩ (.int .i64 (a : Int))).setCell ⟨w.heap.size, 2, none⟩ (.slice A1 ts.length c1)).setCell ⟨w.heap.size + 1, 0, none⟩ (.int .i64 (gS L a).1)).setCell ⟨w.heap.size + 1, 1, none⟩ (.int .i64 (a : Int))) := ((((Hb.out.setCell (Nat.le_refl _) _).setCell (Nat.le_refl _) _).setCell (Nat.le_refl _) _).setCell (Nat.le_succ _) _).setCell (Nat.le_succ _) _
        have hv := ((((((Below.refl w.heap.size wr).setCell (p := ⟨w.heap.size, 0, none⟩) (Nat.le_refl _) (.int .i64 (gS L a).1)).setCell (p := ⟨w.heap.size, 1, none⟩) (Nat.le_refl _) (.int .i64 (a : Int))).setCell (p := ⟨w.heap.size, 2, none⟩) (Nat.le_refl _) (.slice A1 ts.length c1)).setCell (p := ⟨w.heap.size + 1, 0, none⟩) (Nat.le_succ _) (.int .i64 (gS L a).1)).setCell (p := ⟨w.heap.size + 1, 1, none⟩) (Nat.le_succ _) (.int .i64 (a : Int))).setCell (p := ⟨w.heap.size + 1, 2, none⟩) (Nat.le_succ _) (.slice A2 ts.length c2)
        have hsz := hv.size
        obtain ⟨_, _, l3, l4, _⟩ := HY.out.lt
        have hbw := HB1.out.size
        have hsix : ∀ k, w1.heap.size ≤ k → _ = wr.heap[k]? := fun k hk => six (w := wr) (k := k) (r0 := w.heap.size) (r1 := w.heap.size + 1) (x0 := .int .i64 (gS L a).1) (x1 := .int .i64 (a : Int)) (x2 := .slice A1 ts.length c1) (y0 := .int .i64 (gS L a).1) (y1 := .int .i64 (a : Int)) (y2 := .slice A2 ts.length c2) (by omega) (by omega)
        have hfin := (hw.setCell (p := ⟨w.heap.size + 1, 2, none⟩) (Nat.le_succ _) (.slice A2 ts.length c2))
        clear hv hw
        generalize (((((wr.setCell ⟨w.heap.size, 0, none⟩ (.int .i64 (gS L a).1)).setCell ⟨w.heap.size, 1, none⟩ (.int .i64 (a : Int))).setCell ⟨w.heap.size, 2, none⟩ (.slice A1 ts.length c1)).setCell ⟨w.heap.size + 1, 0, none⟩ (.int .i64 (gS L a).1)).setCell ⟨w.heap.size + 1, 1, none⟩ (.int .i64 (a : Int))).setCell ⟨w.heap.size + 1, 2, none⟩ (.slice A2 ts.length c2) = Wf at *
        refine bodyPost_end (results_cell_row2 rfl _ Wf.drew w.heap.size (w.heap.size + 1) 34 39 _ _ _ _ rfl rfl (show Wf.drew.heap[w.heap.size]? = _ from Hg1.out) (show Wf.drew.heap[w.heap.size + 1]? = _ from Hg2.out) Try.underlying34 Try.underlying39 rfl rfl (by kernel_rfl) (by kernel_rfl)) rfl ?_
        refine ⟨A1, c1, A2, c2, rfl, ?_, ?_, hfin.drew⟩
        · have hns := own_Ns HY.out.o1 rfl (J := fun k => w1.heap.size ≤ k ∧ k < wr.heap.size) (HY.out.d1.turn fun k hk => ⟨rfl, hk.1, hk.2.1⟩) (fun k hk hko => ⟨(HY.out.o1.lt k hko.symm).1, hk⟩)
          exact hns.turn fun k hk => ⟨hsix k hk.1, Nat.le_trans hbw hk.1, Nat.lt_of_lt_of_le hk.2 hsz⟩
        · have hns := own_Ns HY.out.o2 rfl (J := fun k => w1.heap.size ≤ k ∧ k < wr.heap.size) (HY.out.d2.turn fun k hk => ⟨rfl, hk.1, hk.2.1⟩) (fun k hk hko => ⟨(HY.out.o2.lt k hko.symm).1, hk⟩)
          exact hns.turn fun k hk => ⟨hsix k hk.1, Nat.le_trans hbw hk.1, Nat.lt_of_lt_of_le hk.2 hsz⟩
theorem build18 (L : List (Int × Int)) (A : Option Addr) (c : Nat) (hL : L.length ≤ 100) : ∀ (h a : Nat) (w : World), a < L.length → L.length - a ≤ h + 1 → Sp w (fun k => k < w.heap.size) A L →
    Calls Try.prog 18 #[.slice A L.length c, .int .i64 a] w (Bu (h + 1) (bT L (h + 1) a) w)
  | 0, a, w, ha, hh, hS => build18_step 0 (bT L 0) L A c a w hL ha hS (fun i _ => by simp [bT, Tree.list]) (fun i h1 h2 => by omega)
  | h + 1, a, w, ha, hh, hS => build18_step (h + 1) (bT L (h + 1)) L A c a w hL ha hS (fun i _ => by have := kidsT_length L i (bT L h) L.length; simp only [bT, Tree.list]; omega)
      (fun i h1 h2 wr hb => build18 L A c hL h i wr h2 (by omega) (hS.turn fun k hk => ⟨hb.block k hk, Nat.lt_of_lt_of_le hk hb.size⟩))
end Go.Proofs.Ytkldeelhlbhlmaa
