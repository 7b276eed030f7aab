/- StepsTime and StepsWaves, walked. -/
import Derived.Test.YtkldeelhlbhlmaaP
namespace Go.Proofs.Ytkldeelhlbhlmaa
open Go.RowKit
attribute [local irreducible] wpList Calls Code.wp wavesI timeI treeI depthI
theorem few_le {fs : List (Int × List Int)} (h : fewB fs = true) : fs.length ≤ 200 := by
  unfold fewB at h
  simp only [Bool.and_eq_true, decide_eq_true_eq] at h
  exact h.2
theorem ints12_same (L : List Int) (A A' : Option Addr) (c c' : Nat) (w : World) (h1 : Is w (fun k => k < w.heap.size) A L) (h2 : Is w (fun k => k < w.heap.size) A' L) (hL : L.length ≤ 9223372036854775807) :
    Calls Try.prog 12 #[.slice A L.length c, .slice A' L.length c'] w (Bo true w) := by
  have h := ints12 L L A A' c c' w h1 h2 hL hL
  rwa [decide_eq_true rfl] at h
set_option maxRecDepth 100000 in
set_option maxHeartbeats 2000000 in
theorem law6 (kd : Int) (B : Option Addr) (bn bc : Nat) (A : Option Addr) (c : Nat) (fs : List (Int × List Int)) (T : Option Addr) (tc : Nat) (takes : List Int) (w : World) (h : Pl w (fun k => k < w.heap.size) A fs) (ht : Is w (fun k => k < w.heap.size) T takes)
    (hn : fs.length ≤ 9223372036854775807) (htn : takes.length ≤ 9223372036854775807) :
    Calls Try.prog 6 #[plan kd B bn bc A fs.length c, .slice T takes.length tc] w (Bo true w) := by
  have h8 := fun w' (hb : Below w.heap.size w w') => few8 kd B bn bc A c fs w' (h.under hb) hn
  have H8 := Lib.hid h8; clear h8
  have HP := Lib.hid h; have HT := Lib.hid ht; clear h ht
  have Hle := Lib.hid (@few_le fs)
  unfold plan at *
  generalize fewB fs = fb at *
  have hb0 : Below w.heap.size w (w.alloc (.cells #[.int .i64 kd, .slice B bn bc, .slice A fs.length c] 25)) := (Below.refl _ _).alloc (Nat.le_refl _) _
  have Hb0 := Lib.hid hb0; clear hb0
  go_enter Try.func6, Try.ntmps6
  go_wp2_with fail
  refine (H8.out _ Hb0.out).mono ?_
  rintro e w1 ⟨rfl, hb1⟩
  have hx1 : w1.heap[w.heap.size]? = some (.cells #[.int .i64 kd, .slice B bn bc, .slice A fs.length c] 25 (0, 0)) := (hb1.block _ (by simp)).trans (heap_at rfl)
  have Hb1 := Lib.hid (Hb0.out.trans (hb1.mono (by simp)))
  have Hx1 := Lib.hid hx1
  clear hb1 hx1
  cases fb
  · go_wp2_with fail
    refine (knows9 _).mono ?_
    rintro e w2 ⟨rfl, hb2⟩
    have Hb2 := Lib.hid (Hb1.out.trans (hb2.mono Hb1.out.size))
    clear hb2
    go_wp2
    go_ret
    exact ⟨rfl, Hb2.out⟩
  · by_cases h4 : takes.length ≤ 400
    · have h4' : decide ((takes.length : Int) > 400) = false := decide_eq_false (by omega)
      have hn2 : fs.length ≤ 200 := Hle.out rfl
      have k0 : w1.cell? ⟨w.heap.size, 0, none⟩ = some (.int .i64 kd) := cell_heap Hx1.out rfl
      have k1 : w1.cell? ⟨w.heap.size, 1, none⟩ = some (.slice B bn bc) := cell_heap Hx1.out rfl
      have k2 : w1.cell? ⟨w.heap.size, 2, none⟩ = some (.slice A fs.length c) := cell_heap Hx1.out rfl
      have hl1 := heap_lt Hx1.out
      have HS := Lib.hid (fun w' (hb : Below w1.heap.size w1 w') => (⟨hb, (hb.cell (p := ⟨w.heap.size, 0, none⟩) hl1).trans k0, (hb.cell (p := ⟨w.heap.size, 1, none⟩) hl1).trans k1, (hb.cell (p := ⟨w.heap.size, 2, none⟩) hl1).trans k2⟩ : Below w1.heap.size w1 w' ∧ w'.cell? ⟨w.heap.size, 0, none⟩ = some (.int .i64 kd) ∧ w'.cell? ⟨w.heap.size, 1, none⟩ = some (.slice B bn bc) ∧ w'.cell? ⟨w.heap.size, 2, none⟩ = some (.slice A fs.length c)))
      have H20 := Lib.hid (fun w' (hb : Below w.heap.size w w') => time20 kd B bn bc A c fs T tc takes w' (HP.out.under hb) (HT.out.under hb) hn2 htn)
      have H21 := Lib.hid (fun w' (hb : Below w.heap.size w w') => time21 kd B bn bc A c fs T tc takes w' (HP.out.under hb) (HT.out.under hb) hn2 htn)
      unfold plan at H20 H21
      have hln : (timeI fs takes).length ≤ 9223372036854775807 := by
        have := timeT_length fs takes fs.length
        unfold timeI; omega
      generalize timeI fs takes = tl at *
      have hdt : decide (tl = tl) = true := decide_eq_true rfl
      go_wp2_with fail
      go_region_held3 (fun w' => Below w1.heap.size w1 w' ∧ w'.cell? ⟨w.heap.size, 0, none⟩ = some (.int .i64 kd) ∧ w'.cell? ⟨w.heap.size, 1, none⟩ = some (.slice B bn bc) ∧ w'.cell? ⟨w.heap.size, 2, none⟩ = some (.slice A fs.length c))
        (first | exact HS.out _ ((Below.refl _ _).drew) | exact HS.out _ Hc2.out | exact HS.out _ Hc3.out | exact HS.out _ Hc4.out | exact HS.out _ Hc5.out)
        (first
          | (go_at_call 20; refine (H20.out _ (Hb1.out.drew)).mono ?_; rintro e w2 ⟨A2, c2, rfl, hi2, hb2⟩; have Hc2 := Lib.hid (((Below.refl w1.heap.size w1).drew).trans hb2); have Hi2 := Lib.hid hi2; clear hi2 hb2)
          | (go_at_call 21; refine (H21.out _ (Hb1.out.trans (Hc2.out.mono Hb1.out.size))).mono ?_; rintro e w3 ⟨A3, c3, rfl, hi3, hb3⟩; have Hc3 := Lib.hid (Hc2.out.trans (hb3.mono Hc2.out.size)); have Hi2' := Lib.hid (Hi2.out.under hb3); have Hi3 := Lib.hid hi3; clear hi3 hb3)
          | (go_at_call 12; refine (ints12_same tl A2 A3 c2 c3 _ (by exact Hi2'.out) (by exact Hi3.out) hln).mono ?_; rintro e w4 ⟨rfl, hb4⟩; have Hc4 := Lib.hid (Hc3.out.trans (hb4.mono Hc3.out.size)); clear hb4)
          | (go_at_call 9; refine (knows9 _).mono ?_; rintro e w5 ⟨rfl, hb5⟩; have Hc5 := Lib.hid (Hc4.out.trans (hb5.mono Hc4.out.size)); clear hb5))
      go_wp2
      go_ret
      exact ⟨rfl, Hb1.out.trans (Hc5.out.mono Hb1.out.size)⟩
    · have h4' : decide ((takes.length : Int) > 400) = true := decide_eq_true (by omega)
      go_wp2_with fail
      refine (knows9 _).mono ?_
      rintro e w2 ⟨rfl, hb2⟩
      have Hb2 := Lib.hid (Hb1.out.trans (hb2.mono Hb1.out.size))
      clear hb2
      go_wp2
      go_ret
      exact ⟨rfl, Hb2.out⟩
end Go.Proofs.Ytkldeelhlbhlmaa
