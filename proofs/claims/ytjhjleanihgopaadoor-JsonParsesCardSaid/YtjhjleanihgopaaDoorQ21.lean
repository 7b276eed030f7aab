/- Parts of a proof, merged by a program (shake.py). -/
import Derived.Test.YtjhjleanihgopaaDoorQ20
set_option linter.unusedVariables false
set_option linter.unusedSimpArgs false
namespace Go.Proofs.YtjhjleanihgopaaDoor
open Go.RowKit
attribute [local irreducible] wpList Calls Code.wp
theorem ret_bool {a b : Bool} (h : a = b) : Ending.returned (.bool a) = .returned (.bool b) := by rw [h]
/-- a bool comes back, and nothing has turned -/
def Yn (b : Bool) (w : World) (e : Ending) (w' : World) : Prop := e = .returned (.bool b) ∧ w = w'
set_option maxHeartbeats 1000000 in
theorem digit (v : Int) (w : World) (h0 : 0 ≤ v) (h1 : v ≤ 255) : Calls Tryd.prog 123 #[.int .u8 v] w (Yn (digB v) w) := by
  have hc : v < 48 ∨ (48 ≤ v ∧ v ≤ 57) ∨ 58 ≤ v := by omega
  rcases hc with h | h | h
  all_goals first
    | rw [digB_true (by omega)]
    | rw [digB_false (by omega)]
  all_goals
    go_enter Tryd.func123, Tryd.ntmps123
    go_wp2
    go_ret
    exact ⟨ret_bool (by first | rfl | (simp; omega)), rfl⟩
theorem ne_empty {s : ByteArray} (h : 0 < s.size) : s.toList.isEmpty = false ∧ ¬ s.toList = [] := by
  have h1 : 0 < s.toList.length := by rw [Lib.toList_data]; simpa using h
  cases hq : s.toList with
  | nil => rw [hq] at h1; simp at h1
  | cons c r => simp
theorem eq_empty {s : ByteArray} (h : s.size = 0) : s.toList.isEmpty = true ∧ s.toList = [] := by
  have h1 : s.toList.length = 0 := by rw [Lib.toList_data]; simpa using h
  have := List.eq_nil_of_length_eq_zero h1
  rw [this]; exact ⟨rfl, rfl⟩
set_option maxRecDepth 100000 in
set_option maxHeartbeats 4000000 in
theorem nameP (s : ByteArray) (w : World) (hs : s.size ≤ 9223372036854775807) : Calls Tryd.prog 100 #[.string s] w (Yn (nameB s) w) := by
  by_cases h0 : 0 < s.size
  · obtain ⟨q0, q00⟩ := ne_empty h0
    have hi0 : (0 : Int) < (s.size : Int) := by omega
    by_cases h1 : s.size ≤ 64
    · have q2 : decide ((s.size : Int) > 64) = false := decide_eq_false (by omega)
      have hb0 := bV_at h0
      have hr0 := bV_range s 0
      by_cases hdig : 48 ≤ bV s 0 ∧ bV s 0 ≤ 57
      · have hno := nameB_dig (digB_true hdig)
        have Hno := Lib.hid hno
        clear hno
        obtain ⟨hd1, hd2⟩ := hdig
        generalize bV s 0 = v at *
        go_enter Tryd.func100, Tryd.ntmps100
        go_wp2
        go_ret
        exact ⟨ret_bool Hno.out.symm, rfl⟩
      · have Hd0 := Lib.hid (digB_false hdig)
        have hcs : bV s 0 < 48 ∨ 57 < bV s 0 := by omega
        clear hdig
        obtain ⟨v0, hv0⟩ : ∃ v0, v0 = bV s 0 := ⟨_, rfl⟩
        rw [← hv0] at hb0 hr0 hcs
        clear hv0
        rcases hcs with hcs | hcs
        all_goals
          go_enter Tryd.func100, Tryd.ntmps100
          go_wp2
          go_loop [24] (fun i => ∃ m : Nat, m ≤ s.size ∧ i = .int .i64 m ∧ ∀ k, k < m → (letB (bV s k) || digB (bV s k)) = true) (fun i => s.size - (intOf i).toNat)
          case atStart => exact ⟨0, by omega, rfl, fun k hk => by omega⟩
          case round =>
            clear hb0 hr0 hcs q0 q00 q2 hi0
            obtain ⟨x, hx, rfl, hall⟩ := hrel
            have Hall := Lib.hid hall
            clear hall
            by_cases hlt : x < s.size
            · have hb := bV_at hlt
              have hr := bV_range s x
              have Hat := Lib.hid (@nameB_at s x hlt)
              have Hstep := Lib.hid (show (letB (bV s x) || digB (bV s x)) = true → ∀ k, k < x + 1 → (letB (bV s k) || digB (bV s k)) = true from fun h k hk => by
                by_cases e : k = x
                · rw [e]; exact h
                · exact Hall.out k (by omega))
              have hc := nm_cases (bV s x)
              generalize bV s x = v at *
              rcases hc with h | h | h | h | h | h | h | h | h
              all_goals first
                | (subst h
                   have Hok := Lib.hid (Hstep.out (by rfl)); clear Hat
                   go_wp2
                   all_goals first
                     | (exfalso; omega)
                     | (go_round
                        case rel => exact ⟨x + 1, by omega, by go_num, Hok.out⟩
                        case measure => simp [intOf]; omega))
                | (subst h
                   have Hno := Lib.hid (Hat.out (by rfl)); clear Hstep
                   go_wp2
                   all_goals first
                     | (exfalso; omega)
                     | (go_ret
                        exact ⟨ret_bool Hno.out.symm, rfl⟩))
                | (have Hok := Lib.hid (Hstep.out (by first | (rw [letB_true (by omega)]; rfl) | (rw [digB_true (by omega), Bool.or_true]))); clear Hat
                   have q : (v == 95) = false := beq_false_of_ne (by omega)
                   first | have f57 : decide (v ≤ 57) = true := decide_eq_true (by omega) | have f57 : decide (v ≤ 57) = false := decide_eq_false (by omega)
                   first | have f90 : decide (v ≤ 90) = true := decide_eq_true (by omega) | have f90 : decide (v ≤ 90) = false := decide_eq_false (by omega)
                   first | have f122 : decide (v ≤ 122) = true := decide_eq_true (by omega) | have f122 : decide (v ≤ 122) = false := decide_eq_false (by omega)
                   go_wp2
                   all_goals first
                     | (exfalso; omega)
                     | (go_round
                        case rel => exact ⟨x + 1, by omega, by go_num, Hok.out⟩
                        case measure => simp [intOf]; omega))
                | (have Hno := Lib.hid (Hat.out (by rw [letB_false (by omega), digB_false (by omega)]; rfl)); clear Hstep
                   have q : (v == 95) = false := beq_false_of_ne (by omega)
                   first | have f57 : decide (v ≤ 57) = true := decide_eq_true (by omega) | have f57 : decide (v ≤ 57) = false := decide_eq_false (by omega)
                   first | have f90 : decide (v ≤ 90) = true := decide_eq_true (by omega) | have f90 : decide (v ≤ 90) = false := decide_eq_false (by omega)
                   first | have f122 : decide (v ≤ 122) = true := decide_eq_true (by omega) | have f122 : decide (v ≤ 122) = false := decide_eq_false (by omega)
                   go_wp2
                   all_goals first
                     | (exfalso; omega)
                     | (go_ret
                        exact ⟨ret_bool Hno.out.symm, rfl⟩))
            · obtain rfl : x = s.size := by omega
              have hyes := nameB_yes h0 h1 Hd0.out Hall.out
              have Hyes := Lib.hid hyes
              clear hyes
              go_wp2
              go_ret
              exact ⟨ret_bool Hyes.out.symm, rfl⟩
    · have hno := nameB_no (s := s) (by omega)
      have Hno := Lib.hid hno
      have q2 : decide ((s.size : Int) > 64) = true := decide_eq_true (by omega)
      clear hno
      go_enter Tryd.func100, Tryd.ntmps100
      go_wp2
      go_ret
      exact ⟨ret_bool Hno.out.symm, rfl⟩
  · have hno := nameB_no (s := s) (by omega)
    have Hno := Lib.hid hno
    obtain ⟨q0, q00⟩ := eq_empty (s := s) (by omega)
    clear hno
    go_enter Tryd.func100, Tryd.ntmps100
    go_wp2
    go_ret
    exact ⟨ret_bool Hno.out.symm, rfl⟩
end Go.Proofs.YtjhjleanihgopaaDoor
