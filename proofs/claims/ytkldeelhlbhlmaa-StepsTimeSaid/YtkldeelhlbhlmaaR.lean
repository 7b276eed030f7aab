/- StepsWaves, walked. -/
import Derived.Test.YtkldeelhlbhlmaaQ
namespace Go.Proofs.Ytkldeelhlbhlmaa
open Go.RowKit
attribute [local irreducible] wpList Calls Code.wp wavesI timeI treeI depthI
theorem LL.under {w w' : World} {A : Option Addr} {ws : List (List Int)} (h : LL w (fun k => k < w.heap.size) A ws) (hb : Below w.heap.size w w') : LL w' (fun k => k < w'.heap.size) A ws := by
  obtain ⟨xs, hr, hl⟩ := h
  exact ⟨xs, (Rd.same hr (Same.below hb fun _ h => h)).mono fun _ h => Nat.lt_of_lt_of_le h hb.size, hl.turn fun k hk => ⟨hb.block k hk, Nat.lt_of_lt_of_le hk hb.size⟩⟩
set_option maxRecDepth 100000 in
set_option maxHeartbeats 2000000 in
theorem law3 (kd : Int) (B : Option Addr) (bn bc : Nat) (A : Option Addr) (c : Nat) (fs : List (Int × List Int)) (w : World) (h : Pl w (fun k => k < w.heap.size) A fs) (hn : fs.length ≤ 9223372036854775807) :
    Calls Try.prog 3 #[plan kd B bn bc A fs.length c] w (Bo true w) := by
  have h8 := fun w' (hb : Below w.heap.size w w') => few8 kd B bn bc A c fs w' (h.under hb) hn
  have H8 := Lib.hid h8; clear h8
  have HP := Lib.hid h; clear h
  have Hle := Lib.hid (@few_le fs)
  unfold plan at *
  generalize fewB fs = fb at *
  have hb0 : Below w.heap.size w (w.alloc (.cells #[.int .i64 kd, .slice B bn bc, .slice A fs.length c] 25)) := (Below.refl _ _).alloc (Nat.le_refl _) _
  have Hb0 := Lib.hid hb0; clear hb0
  go_enter Try.func3, Try.ntmps3
  go_wp2_with fail
  refine (H8.out _ Hb0.out).mono ?_
  rintro e w1 ⟨rfl, hb1⟩
  have hx1 : w1.heap[w.heap.size]? = some (.cells #[.int .i64 kd, .slice B bn bc, .slice A fs.length c] 25 (0, 0)) := (hb1.block _ (by simp)).trans (heap_at rfl)
  have Hb1 := Lib.hid (Hb0.out.trans (hb1.mono (by simp)))
  have Hx1 := Lib.hid hx1
  clear hb1 hx1
  cases fb
  · go_wp2_with fail
    refine (knows9 _).mono ?_
    rintro e w2 ⟨rfl, hb2⟩
    have Hb2 := Lib.hid (Hb1.out.trans (hb2.mono Hb1.out.size))
    clear hb2
    go_wp2
    go_ret
    exact ⟨rfl, Hb2.out⟩
  · have hn2 : fs.length ≤ 200 := Hle.out rfl
    have k0 : w1.cell? ⟨w.heap.size, 0, none⟩ = some (.int .i64 kd) := cell_heap Hx1.out rfl
    have k1 : w1.cell? ⟨w.heap.size, 1, none⟩ = some (.slice B bn bc) := cell_heap Hx1.out rfl
    have k2 : w1.cell? ⟨w.heap.size, 2, none⟩ = some (.slice A fs.length c) := cell_heap Hx1.out rfl
    have hl1 := heap_lt Hx1.out
    have HS := Lib.hid (fun w' (hb : Below w1.heap.size w1 w') => (⟨hb, (hb.cell (p := ⟨w.heap.size, 0, none⟩) hl1).trans k0, (hb.cell (p := ⟨w.heap.size, 1, none⟩) hl1).trans k1, (hb.cell (p := ⟨w.heap.size, 2, none⟩) hl1).trans k2⟩ : Below w1.heap.size w1 w' ∧ w'.cell? ⟨w.heap.size, 0, none⟩ = some (.int .i64 kd) ∧ w'.cell? ⟨w.heap.size, 1, none⟩ = some (.slice B bn bc) ∧ w'.cell? ⟨w.heap.size, 2, none⟩ = some (.slice A fs.length c)))
    have H10 := Lib.hid (fun w' (hb : Below w.heap.size w w') => waves10 kd B bn bc A c fs w' (HP.out.under hb) hn2)
    have H11 := Lib.hid (fun w' (hb : Below w.heap.size w w') => waves11 kd B bn bc A c fs w' (HP.out.under hb) hn2)
    have HW := Lib.hid (waves_small fs hn2)
    unfold plan at H10 H11
    generalize wavesI fs = ws at *
    go_wp2_with fail
    go_region_held3 (fun w' => Below w1.heap.size w1 w' ∧ w'.cell? ⟨w.heap.size, 0, none⟩ = some (.int .i64 kd) ∧ w'.cell? ⟨w.heap.size, 1, none⟩ = some (.slice B bn bc) ∧ w'.cell? ⟨w.heap.size, 2, none⟩ = some (.slice A fs.length c))
      (first | exact HS.out _ ((Below.refl _ _).drew) | exact HS.out _ Hc2.out | exact HS.out _ Hc3.out)
      (first
        | (go_at_call 10; refine (H10.out _ (Hb1.out.drew)).mono ?_; rintro e w2 ⟨A2, c2, rfl, hi2, hb2⟩; have Hc2 := Lib.hid (((Below.refl w1.heap.size w1).drew).trans hb2); have Hi2 := Lib.hid hi2; clear hi2 hb2)
        | (go_at_call 11; refine (H11.out _ (Hb1.out.trans (Hc2.out.mono Hb1.out.size))).mono ?_; rintro e w3 ⟨A3, c3, rfl, hi3, hb3⟩; have Hc3 := Lib.hid (Hc2.out.trans (hb3.mono Hc2.out.size)); have Hi2' := Lib.hid (Hi2.out.under hb3); have Hi3 := Lib.hid hi3; clear hi3 hb3))
    clear k0 k1 k2 hl1 HS H10 H11 Hx1 H8 HP hn hn2
    have Hn1 := Lib.hid (show ∃ n, n = ws.length from ⟨_, rfl⟩)
    have Hb3 := Lib.hid (Hb1.out.trans (Hc3.out.mono Hb1.out.size))
    have hne : ((ws.length : Int) != (ws.length : Int)) = false := by simp
    have hsm : ws.length ≤ 200 := HW.out.1
    go_wp2
    go_loopg [5] ws.length (fun j i wr => ∃ m : Nat, m + j = ws.length ∧ i = .int .i64 m ∧ Below w3.heap.size w3 wr)
    case atStart => exact ⟨0, by omega, rfl, Below.refl _ _⟩
    case round =>
      obtain ⟨x, hmj, rfl, hb⟩ := hrel
      have Hmj := Lib.hid hmj; have hmn : x ≤ ws.length := by omega
      clear hmj
      by_cases hlt : x < ws.length
      · obtain ⟨b, off, rfl, hI, hc⟩ := Hi2'.out.at (by omega)
        obtain ⟨b', off', rfl, hI', hc'⟩ := Hi3.out.at (by omega)
        obtain ⟨B2, d2, k1, i1⟩ := hc x hlt
        obtain ⟨B3, d3, k2, i2⟩ := hc' x hlt
        have e1 := (hb.cell (p := ⟨b, off + x, none⟩) hI).trans k1
        have e2 := (hb.cell (p := ⟨b', off' + x, none⟩) hI').trans k2
        have I1 := Lib.hid i1; have I2 := Lib.hid i2
        have hgl : (gL ws x).length ≤ 200 := HW.out.2 x
        clear hc hc' k1 k2 i1 i2
        go_wp2_with fail
        go_still_tail 8, (by kernel_rfl)
        go_wp2_with fail
        refine (ints12_same (gL ws x) B2 B3 d2 d3 _ (I1.out.under hb.drew) (I2.out.under hb.drew) (by omega)).mono ?_
        rintro e w5 ⟨rfl, hb5⟩
        have Hb5 := Lib.hid (hb.trans ((((Below.refl wr.heap.size wr).drew).trans hb5).mono hb.size))
        clear hb5 e1 e2
        go_wp2
        go_roundg (gk - 1)
        case measure => have := Hmj.out; omega
        case rel => exact ⟨x + 1, by have := Hmj.out; omega, by go_num, Hb5.out⟩
      · have Hb := Lib.hid hb
        go_wp2_with fail
        refine (knows9 _).mono ?_
        rintro e w6 ⟨rfl, hb6⟩
        have Hb6 := Lib.hid (Hb.out.trans (hb6.mono Hb.out.size))
        clear hb6
        go_wp2
        go_ret
        exact ⟨rfl, Hb3.out.trans (Hb6.out.mono Hb3.out.size)⟩
end Go.Proofs.Ytkldeelhlbhlmaa
