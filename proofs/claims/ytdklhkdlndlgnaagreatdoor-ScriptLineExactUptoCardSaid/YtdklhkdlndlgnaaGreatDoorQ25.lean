/- Parts of a proof, merged by a program (shake.py). -/
import Derived.Lib.LaidTab
import Derived.Lib.SmallJoins
import Derived.Test.YtdklhkdlndlgnaaGreatDoorQ24
set_option linter.unusedVariables false
set_option linter.unusedSimpArgs false
namespace Go.Proofs.YtdklhkdlndlgnaaGreatDoor
open Go.RowKit
attribute [local irreducible] wpList Calls Code.wp
theorem var_below {P : Program} {w w' : World} {n : String} {cs : Array Value} (h : w.var? P n = some cs) (hb : Below w.heap.size w w') : w'.var? P n = some cs := by
  unfold World.var? at h ⊢
  cases hg : P.globalNamed n with
  | none => rw [hg] at h; cases h
  | some g =>
    rw [hg] at h
    simp only [Option.bind_some] at h ⊢
    have hl : g < w.heap.size := by
      rcases Nat.lt_or_ge g w.heap.size with h' | h'
      · exact h'
      · rw [Array.getElem?_eq_none h'] at h; cases h
    rw [hb.block g hl]; exact h
/-- what the rows list: the table of powers of ten, the two errors -/
def Env (w : World) : Prop := Lib.TabIs Tryz.prog w "internal/strconv.uint64pow10" .u64 Lib.pow10Tab ∧ (∃ tp p, w.var? Tryz.prog "strconv.ErrRange" = some #[.iface tp p]) ∧ (∃ tp p, w.var? Tryz.prog "strconv.ErrSyntax" = some #[.iface tp p])
theorem Env.below {w w' : World} (h : Env w) (hb : Below w.heap.size w w') : Env w' := by
  obtain ⟨h1, ⟨tp, p, h2⟩, ⟨tp', p', h3⟩⟩ := h
  exact ⟨var_below h1 hb, ⟨tp, p, var_below h2 hb⟩, ⟨tp', p', var_below h3 hb⟩⟩
theorem below_grow (w : World) (k : Nat) (os : Array Obj) : Below w.heap.size w (Go.«Sort».grow (w.drewN k) os) := by
  refine ⟨rfl, rfl, rfl, ?_, fun i hi => ?_⟩
  · rw [Go.«Sort».size_grow]; exact Nat.le_add_right _ _
  · show (w.heap ++ os)[i]? = w.heap[i]?
    rw [Array.getElem?_append_left hi]
theorem decimalP (n : Int) (h0 : -9223372036854775808 ≤ n) (h1 : n ≤ 9223372036854775807) (w : World) (he : Env w) : Calls Tryz.prog 13 #[.int .i64 n] w (St (Lib.itoa n) w) := by
  have H := Lib.hid (Tryz.strconv_Itoa n h0 h1 w he.1)
  clear he
  go_enter Tryz.func13, Tryz.ntmps13
  go_wp2_with fail
  refine H.out.mono ?_
  rintro e w2 ⟨rfl, k, os, rfl⟩
  have Hb := Lib.hid (below_grow w k os)
  generalize Go.«Sort».grow (w.drewN k) os = w2 at *
  go_wp2
  go_ret
  exact ⟨rfl, Hb.out⟩
set_option maxRecDepth 100000 in
set_option maxHeartbeats 2000000 in
theorem digits_step (u : Nat) (n : Int) (w : World) (hu : u ≤ 9223372036854775808) (hn : n = -(u : Int))
    (ih : ¬ u < 10 → ∀ w', Below w.heap.size w w' → Calls Tryz.prog 32 #[.int .i64 (n.tdiv 10)] w' (St (Lib.decDigits (u / 10)) w')) :
    Calls Tryz.prog 32 #[.int .i64 n] w (St (Lib.decDigits u) w) := by
  have ht : n.tmod 10 = -((u % 10 : Nat) : Int) := by rw [hn, Int.neg_tmod, Int.tmod_eq_emod_of_nonneg (by omega)]; omega
  have hn0 : n ≤ 0 := by omega
  have hn1 : -9223372036854775808 ≤ n := by omega
  have hd10 : u % 10 < 10 := Nat.mod_lt _ (by omega)
  have Hd := Lib.hid (show ∃ d, d = u % 10 from ⟨_, rfl⟩)
  by_cases hs : u < 10
  · have hcmp : decide (n > -10) = true := decide_eq_true (by omega)
    have hgt : -10 < n := by omega
    have Hds := Lib.hid (show bs (Lib.decDigits u) = bs [UInt8.ofNat (48 + u % 10)] by rw [dec_small hs]; congr 3; omega)
    have hcv := conv_new w #[.int .u8 (48 + ((u % 10 : Nat) : Int))] [UInt8.ofNat (48 + u % 10)] 1 rfl (by simp only [Lib.byteCells, List.map_cons, List.map_nil]; rw [ofNat_digit hd10]; simp)
    generalize bs [UInt8.ofNat (48 + u % 10)] = last at *
    generalize u % 10 = d at *
    clear ih hn Hd
    go_enter Tryz.func32, Tryz.ntmps32
    go_wp2
    go_ret
    exact ⟨by rw [Hds.out]; rfl, (Below.refl _ _).alloc (Nat.le_refl _) _⟩
  · have hcmp : decide (n > -10) = false := decide_eq_false (by omega)
    have hgt : ¬ -10 < n := by omega
    have Hds := Lib.hid (show bs (Lib.decDigits u) = bs (Lib.decDigits (u / 10)) ++ bs [UInt8.ofNat (48 + u % 10)] by rw [dec_big hs, bs_append])
    have hcv := conv_new w #[.int .u8 (48 + ((u % 10 : Nat) : Int))] [UInt8.ofNat (48 + u % 10)] 1 rfl (by simp only [Lib.byteCells, List.map_cons, List.map_nil]; rw [ofNat_digit hd10]; simp)
    have H := Lib.hid (ih hs _ ((Below.refl _ _).alloc (Nat.le_refl _) (.cells #[.int .u8 (48 + ((u % 10 : Nat) : Int))] 5)))
    have hz1 : (bs [UInt8.ofNat (48 + u % 10)]).size ≤ 1 := by rw [bs_size]; simp
    have hz2 : (bs (Lib.decDigits (u / 10))).size ≤ 20 := by rw [bs_size]; exact dec_len (by omega)
    unfold St at H
    generalize bs [UInt8.ofNat (48 + u % 10)] = last at *
    generalize bs (Lib.decDigits (u / 10)) = rest at *
    generalize u % 10 = d at *
    clear ih hn Hd
    go_enter Tryz.func32, Tryz.ntmps32
    go_wp2_with fail
    refine H.out.mono ?_
    rintro e w2 ⟨rfl, hb⟩
    have Hb := Lib.hid (((Below.refl w.heap.size w).alloc (Nat.le_refl _) (.cells #[.int .u8 (48 + (d : Int))] 5)).trans (hb.mono (by simp)))
    clear hb
    go_wp2
    go_ret
    exact ⟨by rw [Hds.out]; rfl, Hb.out⟩
theorem digitsR : ∀ (k u : Nat) (n : Int) (w : World), u < 10 ^ k → u ≤ 9223372036854775808 → n = -(u : Int) → Calls Tryz.prog 32 #[.int .i64 n] w (St (Lib.decDigits u) w)
  | 0, u, n, w, h, hu, hn => digits_step u n w hu hn (fun h' => absurd (show u < 10 by simp at h; omega) h')
  | k + 1, u, n, w, h, hu, hn => digits_step u n w hu hn (fun _ w' _ => digitsR k (u / 10) (n.tdiv 10) w' (by rw [Nat.pow_succ] at h; omega) (by omega) (by rw [hn, Int.neg_tdiv, Int.tdiv_eq_ediv_of_nonneg (by omega)]; omega))
set_option maxRecDepth 100000 in
set_option maxHeartbeats 2000000 in
theorem decimalR (n : Int) (h0 : -9223372036854775808 ≤ n) (h1 : n ≤ 9223372036854775807) (w : World) : Calls Tryz.prog 17 #[.int .i64 n] w (St (Lib.itoa n) w) := by
  by_cases hn : n < 0
  · have H := Lib.hid (digitsR 20 n.natAbs n w (by omega) (by omega) (by omega))
    have Hi := Lib.hid (show bs (Lib.itoa n) = bs [45] ++ bs (Lib.decDigits n.natAbs) by unfold Lib.itoa; rw [if_pos hn, bs_append]; rfl)
    have hz2 : (bs (Lib.decDigits n.natAbs)).size ≤ 20 := by rw [bs_size]; exact dec_len (by omega)
    unfold St at H
    generalize bs (Lib.decDigits n.natAbs) = rest at *
    go_enter Tryz.func17, Tryz.ntmps17
    go_wp2_with fail
    refine H.out.mono ?_
    rintro e w2 ⟨rfl, hb⟩
    have Hb := Lib.hid hb
    clear hb
    go_wp2
    go_ret
    exact ⟨by rw [Hi.out]; rfl, Hb.out⟩
  · have H := Lib.hid (digitsR 20 n.toNat (-n) w (by omega) (by omega) (by omega))
    have Hi := Lib.hid (show bs (Lib.itoa n) = bs (Lib.decDigits n.toNat) by unfold Lib.itoa; rw [if_neg hn])
    unfold St at H
    generalize bs (Lib.decDigits n.toNat) = rest at *
    go_enter Tryz.func17, Tryz.ntmps17
    go_wp2_with fail
    refine H.out.mono ?_
    rintro e w2 ⟨rfl, hb⟩
    have Hb := Lib.hid hb
    clear hb
    go_wp2
    go_ret
    exact ⟨by rw [Hi.out]; rfl, Hb.out⟩
end Go.Proofs.YtdklhkdlndlgnaaGreatDoor
namespace Go.Proofs.YtdklhkdlndlgnaaGreatDoor
open Go.RowKit
attribute [local irreducible] wpList Calls Code.wp
theorem esc_le (c : UInt8) : (escU c).length ≤ 6 := by
  have h : ∀ i : Fin 256, (escU (UInt8.ofNat i.val)).length ≤ 6 := by decide +kernel
  have := h ⟨c.toNat, c.toNat_lt⟩
  simpa using this
theorem escL_le : ∀ l : List UInt8, (escL l).length ≤ 6 * l.length
  | [] => by simp [escL]
  | c :: r => by
    have h1 := esc_le c
    have h2 := escL_le r
    unfold escL at h2 ⊢
    rw [List.flatMap_cons, List.length_append, List.length_cons]; omega
theorem quote_size (s : ByteArray) : (bs (quoteU s.data.toList)).size ≤ 6 * s.size + 2 := by
  have h1 := escL_le s.data.toList
  have h2 : s.data.toList.length = s.size := by simp
  rw [bs_size]; unfold quoteU; simp only [List.length_append, List.length_cons, List.length_nil]; omega
end Go.Proofs.YtdklhkdlndlgnaaGreatDoor
