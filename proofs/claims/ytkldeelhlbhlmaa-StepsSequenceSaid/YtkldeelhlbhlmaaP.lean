/- The examples of the chapter hold. -/
import Derived.Test.YtkldeelhlbhlmaaO
namespace Go.Proofs.Ytkldeelhlbhlmaa
open Go.RowKit
theorem ws3 : wavesI fs3 = [[0, 2], [1]] := by decide +kernel
theorem tm3 : timeI fs3 [5, 2, 9] = [5, 7, 9] := by kernel_rfl
theorem tr3 : treeI (wavesI fs3) = .node 2 0 [.node 3 0 [leaf 0, leaf 2], leaf 1] := by rw [ws3]; rfl
theorem dp3 : depthI (treeI (wavesI fs3)) = 2 := by rw [tr3]; simp [depthI, sumF, maxF, leaf]; decide +kernel
theorem lit_is {w : World} {l : List Int} {cs : Array Value} {t : TypeId} (h : cs = (ints .i64 l).toArray) {g : Nat} (hg : w.heap.size = g) : Is (w.alloc (.cells cs t)) (fun k => k < (w.alloc (.cells cs t)).heap.size) (some ⟨g, 0, none⟩) l := by
  subst h; subst hg
  refine ⟨by simp [ints_length], fun _ => ⟨w.heap.size, 0, rfl, by simp, fun j u hu => ?_⟩⟩
  rw [Nat.zero_add]
  exact cell_heap (heap_at rfl) (by simpa using hu)
attribute [local irreducible] wpList Calls Code.wp wavesI timeI treeI depthI
set_option maxRecDepth 100000 in
set_option maxHeartbeats 2000000 in
theorem knows9 (w : World) : Calls Try.prog 9 #[] w (Bo true w) := by
  go_enter Try.func9, Try.ntmps9
  go_wp2_with fail
  refine (three22 _).mono ?_
  rintro e w1 ⟨A1, c1, rfl, hp1, hb1⟩
  go_wp2_with fail
  refine (waves10 0 none 0 0 A1 c1 fs3 w1 hp1 (by decide)).mono ?_
  rintro e w2 ⟨A2, c2, rfl, hll, hb2⟩
  have HB2 := Lib.hid (hb1.trans (hb2.mono hb1.size))
  clear hb1 hb2 hp1
  rw [ws3] at hll
  rw [ws3]
  go_wp2_with fail
  refine (three22 _).mono ?_
  rintro e w3 ⟨A3, c3, rfl, hp3, hb3⟩
  go_wp2_with fail
  refine (tree13 0 none 0 0 A3 c3 fs3 w3 hp3 (by decide)).mono ?_
  rintro e w4 ⟨A4, c4, rfl, hns, hb4⟩
  have hb24 : Below w2.heap.size w2 w4 := hb3.trans (hb4.mono hb3.size)
  have HB4 := Lib.hid (HB2.out.trans (hb24.mono HB2.out.size))
  have hdp := depth17 2 (treeI (wavesI fs3)) A4 c4
  rw [dp3] at hdp
  rw [tr3] at hns hdp
  rw [tr3]
  have Hdp := Lib.hid hdp
  obtain ⟨b2, off2, rfl, hI2, hc2⟩ := hll.at (by decide)
  obtain ⟨B5, c5, h5, hi5⟩ := hc2 0 (by decide)
  obtain ⟨B6, c6, h6, hi6⟩ := hc2 1 (by decide)
  have HI5 := Lib.hid (show Is w4 (fun k => k < w4.heap.size) B5 [0, 2] from hi5.under hb24)
  have HI6 := Lib.hid (show Is w4 (fun k => k < w4.heap.size) B6 [1] from hi6.under hb24)
  have k5 : w4.cell? ⟨b2, off2, none⟩ = some (.slice B5 2 c5) := (hb24.cell (p := ⟨b2, off2 + 0, none⟩) hI2).trans h5
  have k6 : w4.cell? ⟨b2, off2 + 1, none⟩ = some (.slice B6 1 c6) := (hb24.cell (p := ⟨b2, off2 + 1, none⟩) hI2).trans h6
  have HNS := Lib.hid hns
  obtain ⟨b4, off4, rfl, hI4, hc4⟩ := hns (by simp [Tree.list])
  obtain ⟨B7, c7, n1, n2, n3, _, _⟩ := hc4 0 (by simp [Tree.list])
  obtain ⟨B8, c8, m1, m2, m3, _, _⟩ := hc4 1 (by simp [Tree.list])
  have k7 : w4.cell? ⟨b4, off4, none⟩ = some (.int .i64 3) := n1
  have k8 : w4.cell? ⟨b4, off4 + 3 + 1, none⟩ = some (.int .i64 1) := m2
  have l2 : b2 < w4.heap.size := Nat.lt_of_lt_of_le hI2 hb24.size
  clear hc2 hc4 h5 h6 hi5 hi6 n1 n2 n3 m1 m2 m3 hns hdp hll hp3 hb3 hb4 hb24
  unfold tree
  simp only [Tree.kind, Tree.fetch, Tree.list, List.length_cons, List.length_nil] at *
  go_wp2_with fail
  have bel1 : Below w4.heap.size w4 ((w4.alloc (.cells #[.int .i64 2, .int .i64 0, .slice (some ⟨b4, off4, none⟩) 2 c4] 34)).alloc (.cells #[.int .i64 0, .int .i64 2] 3)) := ((Below.refl _ _).alloc (Nat.le_refl _) _).alloc (by simp) _
  refine (ints12 [0, 2] [0, 2] B5 (some ⟨w4.heap.size + 1, 0, none⟩) c5 2 _ (HI5.out.under bel1) (lit_is rfl (by simp)) (by decide) (by decide)).mono ?_
  rintro e w6 ⟨rfl, hb6⟩
  rw [show decide (([0, 2] : List Int) = [0, 2]) = true from by decide]
  have t6 : w6.heap[w4.heap.size]? = some (.cells #[.int .i64 2, .int .i64 0, .slice (some ⟨b4, off4, none⟩) 2 c4] 34 (0, 0)) := (hb6.block _ (by simp; omega)).trans (heap_under (heap_at rfl))
  have bel6 := bel1.trans (hb6.mono bel1.size)
  have s6 : w4.heap.size < w6.heap.size := heap_lt t6
  have j6 := (bel6.cell (p := ⟨b2, off2 + 1, none⟩) l2).trans k6
  clear bel1 hb6 k5 k6
  go_wp2_with fail
  have bel7 : Below w4.heap.size w4 (w6.alloc (.cells #[.int .i64 1] 3)) := bel6.alloc bel6.size _
  refine (ints12 [1] [1] B6 (some ⟨w6.heap.size, 0, none⟩) c6 1 _ (HI6.out.under bel7) (lit_is rfl rfl) (by decide) (by decide)).mono ?_
  rintro e w7 ⟨rfl, hb7⟩
  rw [show decide (([1] : List Int) = [1]) = true from by decide]
  have t7 : w7.heap[w4.heap.size]? = some (.cells #[.int .i64 2, .int .i64 0, .slice (some ⟨b4, off4, none⟩) 2 c4] 34 (0, 0)) := (hb7.block _ (by simp; omega)).trans (heap_under t6)
  have bel8 := bel7.trans (hb7.mono bel7.size)
  have x0 : w7.cell? ⟨w4.heap.size, 0, none⟩ = some (.int .i64 2) := cell_heap t7 rfl
  have x1 : w7.cell? ⟨w4.heap.size, 1, none⟩ = some (.int .i64 0) := cell_heap t7 rfl
  have x2 : w7.cell? ⟨w4.heap.size, 2, none⟩ = some (.slice (some ⟨b4, off4, none⟩) 2 c4) := cell_heap t7 rfl
  have x7 := (bel8.cell (p := ⟨b4, off4, none⟩) hI4).trans k7
  have x8 := (bel8.cell (p := ⟨b4, off4 + 3 + 1, none⟩) hI4).trans k8
  clear t6 bel6 bel7 hb7 j6 k7 k8
  have HB8 := Lib.hid (HB4.out.trans (bel8.mono HB4.out.size))
  have ns7 := (HNS.out.same (Same.below bel8 fun _ h => h)).mono (J := fun k => k < w7.heap.size) fun _ h => Nat.lt_of_lt_of_le h bel8.size
  have HN7 := Lib.hid ns7
  clear ns7 t7 bel8
  go_wp2_with fail
  refine (Hdp.out w7 HN7.out (by decide)).mono ?_
  rintro e w8 ⟨rfl, hb8⟩
  have HB9 := Lib.hid (HB8.out.trans (hb8.mono HB8.out.size))
  clear hb8 x0 x1 x2 x7 x8
  go_wp2_with fail
  refine (three22 _).mono ?_
  rintro e w9 ⟨A9, c9, rfl, hp9, hb9⟩
  have HBa := Lib.hid (HB9.out.trans (hb9.mono HB9.out.size))
  have HP9 := Lib.hid hp9
  clear hp9 hb9
  go_wp2_with fail
  have bela : Below w9.heap.size w9 (w9.alloc (.cells #[.int .i64 5, .int .i64 2, .int .i64 9] 3)) := (Below.refl _ _).alloc (Nat.le_refl _) _
  refine (time20 0 none 0 0 A9 c9 fs3 (some ⟨w9.heap.size, 0, none⟩) 3 [5, 2, 9] _ (HP9.out.under bela) (lit_is rfl rfl) (by decide) (by decide)).mono ?_
  rintro e wa ⟨Aa, ca, rfl, hia, hba⟩
  rw [tm3] at hia
  rw [tm3]
  have HBb := Lib.hid (HBa.out.trans ((bela.trans (hba.mono bela.size)).mono HBa.out.size))
  have HIa := Lib.hid hia
  clear bela hba hia
  go_wp2_with fail
  have belb : Below wa.heap.size wa (wa.alloc (.cells #[.int .i64 5, .int .i64 7, .int .i64 9] 3)) := (Below.refl _ _).alloc (Nat.le_refl _) _
  refine (ints12 [5, 7, 9] [5, 7, 9] Aa (some ⟨wa.heap.size, 0, none⟩) ca 3 _ (HIa.out.under belb) (lit_is rfl rfl) (by decide) (by decide)).mono ?_
  rintro e wb ⟨rfl, hbb⟩
  rw [show decide (([5, 7, 9] : List Int) = [5, 7, 9]) = true from by decide]
  have HBc := Lib.hid (HBb.out.trans ((belb.trans (hbb.mono belb.size)).mono HBb.out.size))
  clear belb hbb
  go_wp2
  go_ret
  exact ⟨rfl, HBc.out⟩
end Go.Proofs.Ytkldeelhlbhlmaa
