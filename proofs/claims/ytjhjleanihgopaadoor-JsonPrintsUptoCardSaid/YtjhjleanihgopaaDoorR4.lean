/- Parts of a proof, merged by a program (shake.py). -/
import Derived.Lib.LaidTab
import Derived.Lib.SmallJoins
import Derived.Test.YtjhjleanihgopaaDoorR3
set_option linter.unusedVariables false
set_option linter.unusedSimpArgs false
namespace Go.Proofs.YtjhjleanihgopaaDoor
open Go.RowKit
attribute [local irreducible] wpList Calls Code.wp
set_option maxRecDepth 100000 in
set_option maxHeartbeats 2000000 in
theorem digits_step (u : Nat) (n : Int) (w : World) (hu : u ≤ 9223372036854775808) (hn : n = -(u : Int))
    (ih : ¬ u < 10 → ∀ w', Below w.heap.size w w' → Calls Tryd.prog 89 #[.int .i64 (n.tdiv 10)] w' (St (Lib.decDigits (u / 10)) w')) :
    Calls Tryd.prog 89 #[.int .i64 n] w (St (Lib.decDigits u) w) := by
  have ht : n.tmod 10 = -((u % 10 : Nat) : Int) := by rw [hn, Int.neg_tmod, Int.tmod_eq_emod_of_nonneg (by omega)]; omega
  have hn0 : n ≤ 0 := by omega
  have hn1 : -9223372036854775808 ≤ n := by omega
  have hd10 : u % 10 < 10 := Nat.mod_lt _ (by omega)
  have Hd := Lib.hid (show ∃ d, d = u % 10 from ⟨_, rfl⟩)
  by_cases hs : u < 10
  · have hcmp : decide (n > -10) = true := decide_eq_true (by omega)
    have hgt : -10 < n := by omega
    have Hds := Lib.hid (show bs (Lib.decDigits u) = bs [UInt8.ofNat (48 + u % 10)] by rw [dec_small hs]; congr 3; omega)
    have hcv := conv_new w #[.int .u8 (48 + ((u % 10 : Nat) : Int))] [UInt8.ofNat (48 + u % 10)] 1 rfl (by simp only [Lib.byteCells, List.map_cons, List.map_nil]; rw [ofNat_digit hd10]; simp)
    generalize bs [UInt8.ofNat (48 + u % 10)] = last at *
    generalize u % 10 = d at *
    clear ih hn Hd
    go_enter Tryd.func89, Tryd.ntmps89
    go_wp2
    go_ret
    exact ⟨by rw [Hds.out]; rfl, (Below.refl _ _).alloc (Nat.le_refl _) _⟩
  · have hcmp : decide (n > -10) = false := decide_eq_false (by omega)
    have hgt : ¬ -10 < n := by omega
    have Hds := Lib.hid (show bs (Lib.decDigits u) = bs (Lib.decDigits (u / 10)) ++ bs [UInt8.ofNat (48 + u % 10)] by rw [dec_big hs, bs_append])
    have hcv := conv_new w #[.int .u8 (48 + ((u % 10 : Nat) : Int))] [UInt8.ofNat (48 + u % 10)] 1 rfl (by simp only [Lib.byteCells, List.map_cons, List.map_nil]; rw [ofNat_digit hd10]; simp)
    have H := Lib.hid (ih hs _ ((Below.refl _ _).alloc (Nat.le_refl _) (.cells #[.int .u8 (48 + ((u % 10 : Nat) : Int))] 5)))
    have hz1 : (bs [UInt8.ofNat (48 + u % 10)]).size ≤ 1 := by rw [bs_size]; simp
    have hz2 : (bs (Lib.decDigits (u / 10))).size ≤ 20 := by rw [bs_size]; exact dec_len (by omega)
    unfold St at H
    generalize bs [UInt8.ofNat (48 + u % 10)] = last at *
    generalize bs (Lib.decDigits (u / 10)) = rest at *
    generalize u % 10 = d at *
    clear ih hn Hd
    go_enter Tryd.func89, Tryd.ntmps89
    go_wp2_with fail
    refine H.out.mono ?_
    rintro e w2 ⟨rfl, hb⟩
    have Hb := Lib.hid (((Below.refl w.heap.size w).alloc (Nat.le_refl _) (.cells #[.int .u8 (48 + (d : Int))] 5)).trans (hb.mono (by simp)))
    clear hb
    go_wp2
    go_ret
    exact ⟨by rw [Hds.out]; rfl, Hb.out⟩
theorem digitsR : ∀ (k u : Nat) (n : Int) (w : World), u < 10 ^ k → u ≤ 9223372036854775808 → n = -(u : Int) → Calls Tryd.prog 89 #[.int .i64 n] w (St (Lib.decDigits u) w)
  | 0, u, n, w, h, hu, hn => digits_step u n w hu hn (fun h' => absurd (show u < 10 by simp at h; omega) h')
  | k + 1, u, n, w, h, hu, hn => digits_step u n w hu hn (fun _ w' _ => digitsR k (u / 10) (n.tdiv 10) w' (by rw [Nat.pow_succ] at h; omega) (by omega) (by rw [hn, Int.neg_tdiv, Int.tdiv_eq_ediv_of_nonneg (by omega)]; omega))
set_option maxRecDepth 100000 in
set_option maxHeartbeats 2000000 in
theorem decimalR (n : Int) (h0 : -9223372036854775808 ≤ n) (h1 : n ≤ 9223372036854775807) (w : World) : Calls Tryd.prog 60 #[.int .i64 n] w (St (Lib.itoa n) w) := by
  by_cases hn : n < 0
  · have H := Lib.hid (digitsR 20 n.natAbs n w (by omega) (by omega) (by omega))
    have Hi := Lib.hid (show bs (Lib.itoa n) = bs [45] ++ bs (Lib.decDigits n.natAbs) by unfold Lib.itoa; rw [if_pos hn, bs_append]; rfl)
    have hz2 : (bs (Lib.decDigits n.natAbs)).size ≤ 20 := by rw [bs_size]; exact dec_len (by omega)
    unfold St at H
    generalize bs (Lib.decDigits n.natAbs) = rest at *
    go_enter Tryd.func60, Tryd.ntmps60
    go_wp2_with fail
    refine H.out.mono ?_
    rintro e w2 ⟨rfl, hb⟩
    have Hb := Lib.hid hb
    clear hb
    go_wp2
    go_ret
    exact ⟨by rw [Hi.out]; rfl, Hb.out⟩
  · have H := Lib.hid (digitsR 20 n.toNat (-n) w (by omega) (by omega) (by omega))
    have Hi := Lib.hid (show bs (Lib.itoa n) = bs (Lib.decDigits n.toNat) by unfold Lib.itoa; rw [if_neg hn])
    unfold St at H
    generalize bs (Lib.decDigits n.toNat) = rest at *
    go_enter Tryd.func60, Tryd.ntmps60
    go_wp2_with fail
    refine H.out.mono ?_
    rintro e w2 ⟨rfl, hb⟩
    have Hb := Lib.hid hb
    clear hb
    go_wp2
    go_ret
    exact ⟨by rw [Hi.out]; rfl, Hb.out⟩
end Go.Proofs.YtjhjleanihgopaaDoor
