/- A hint's header, in both texts. -/
import Derived.Test.YtohneabalakmeaaDoorR
namespace Go.Proofs.YtohneabalakmeaaDoor
open Go.RowKit
attribute [local irreducible] wpList Calls Code.wp
/-- a hint's header -/
def headU (n : Int) (p : Bool) : List UInt8 :=
  if n < 1 then [110, 111, 45, 115, 116, 111, 114, 101] else [109, 97, 120, 45, 97, 103, 101, 61] ++ Lib.itoa n ++ (if p = true then [44, 32, 112, 114, 105, 118, 97, 116, 101] else [44, 32, 112, 117, 98, 108, 105, 99])
set_option maxRecDepth 100000 in
set_option maxHeartbeats 2000000 in
theorem headerP (n : Int) (p : Bool) (w : World) (he : Env w) (h0 : -9223372036854775808 ≤ n) (h1 : n ≤ 9223372036854775807) : Calls Tryd.prog 32 #[.agg #[.int .i64 n, .bool p]] w (St (headU n p) w) := by
  have HE := Lib.hid he
  clear he
  by_cases hn : n < 1
  · have Hh := Lib.hid (show bs (headU n p) = ⟨#[110, 111, 45, 115, 116, 111, 114, 101]⟩ by unfold headU; rw [if_pos hn]; rfl)
    have q : decide (n < 1) = true := decide_eq_true hn
    go_enter Tryd.func32, Tryd.ntmps32
    go_wp2
    go_ret
    exact ⟨by rw [Hh.out]; rfl, (Below.refl _ _).alloc (Nat.le_refl _) _⟩
  · have q : decide (n < 1) = false := decide_eq_false hn
    have HD := Lib.hid (fun w he => decimalP n h0 h1 w he)
    have hz := itoa_size n h0 h1
    have Hh := Lib.hid (show bs (headU n p) = bs [109, 97, 120, 45, 97, 103, 101, 61] ++ bs (Lib.itoa n) ++ bs (if p = true then [44, 32, 112, 114, 105, 118, 97, 116, 101] else [44, 32, 112, 117, 98, 108, 105, 99]) by
      unfold headU; rw [if_neg hn, bs_append, bs_append])
    unfold St at HD
    generalize bs (Lib.itoa n) = t at *
    have hb : Below w.heap.size w (w.alloc (.cells #[.int .i64 n, .bool p] 33)) := (Below.refl _ _).alloc (Nat.le_refl _) _
    have Hb := Lib.hid hb
    clear hb
    cases p
    all_goals
      go_enter Tryd.func32, Tryd.ntmps32
      go_wp2_with fail
      refine (HD.out _ (HE.out.below Hb.out)).mono ?_
      rintro e w2 ⟨rfl, b⟩
      have B2 := Lib.hid (Hb.out.trans (b.mono Hb.out.size)); clear b
      go_wp2
      go_ret
      exact ⟨by rw [Hh.out]; rfl, B2.out⟩
set_option maxRecDepth 100000 in
set_option maxHeartbeats 2000000 in
theorem headerR (n : Int) (p : Bool) (w : World) (h0 : -9223372036854775808 ≤ n) (h1 : n ≤ 9223372036854775807) : Calls Tryd.prog 33 #[.agg #[.int .i64 n, .bool p]] w (St (headU n p) w) := by
  by_cases hn : n < 1
  · have Hh := Lib.hid (show bs (headU n p) = ⟨#[110, 111, 45, 115, 116, 111, 114, 101]⟩ by unfold headU; rw [if_pos hn]; rfl)
    have q : decide (n < 1) = true := decide_eq_true hn
    go_enter Tryd.func33, Tryd.ntmps33
    go_wp2
    go_ret
    exact ⟨by rw [Hh.out]; rfl, (Below.refl _ _).alloc (Nat.le_refl _) _⟩
  · have q : decide (n < 1) = false := decide_eq_false hn
    have HD := Lib.hid (fun w => decimalR n h0 h1 w)
    have hz := itoa_size n h0 h1
    have Hh := Lib.hid (show bs (headU n p) = bs [109, 97, 120, 45, 97, 103, 101, 61] ++ bs (Lib.itoa n) ++ bs (if p = true then [44, 32, 112, 114, 105, 118, 97, 116, 101] else [44, 32, 112, 117, 98, 108, 105, 99]) by
      unfold headU; rw [if_neg hn, bs_append, bs_append])
    unfold St at HD
    generalize bs (Lib.itoa n) = t at *
    have hb : Below w.heap.size w (w.alloc (.cells #[.int .i64 n, .bool p] 33)) := (Below.refl _ _).alloc (Nat.le_refl _) _
    have Hb := Lib.hid hb
    clear hb
    cases p
    all_goals
      go_enter Tryd.func33, Tryd.ntmps33
      go_wp2_with fail
      refine (HD.out _).mono ?_
      rintro e w2 ⟨rfl, b⟩
      have B2 := Lib.hid (Hb.out.trans (b.mono Hb.out.size)); clear b
      go_wp2
      go_ret
      exact ⟨by rw [Hh.out]; rfl, B2.out⟩
end Go.Proofs.YtohneabalakmeaaDoor
