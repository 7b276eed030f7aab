/- Parts of a proof, merged by a program (shake.py). -/
import Derived.Test.YtdklhkdlndlgnaaGreatDoorQ21
set_option linter.unusedVariables false
set_option linter.unusedSimpArgs false
namespace Go.Proofs.YtdklhkdlndlgnaaGreatDoor
open Go.RowKit
attribute [local irreducible] wpList Calls Code.wp
theorem ret_bool {a b : Bool} (h : a = b) : Ending.returned (.bool a) = .returned (.bool b) := by rw [h]
/-- a bool comes back, and nothing has turned -/
def Yn (b : Bool) (w : World) (e : Ending) (w' : World) : Prop := e = .returned (.bool b) ∧ w = w'
set_option maxHeartbeats 1000000 in
theorem letter (v : Int) (w : World) (h0 : 0 ≤ v) (h1 : v ≤ 255) : Calls Tryz.prog 38 #[.int .u8 v] w (Yn (letB v) w) := by
  have hc := nm_cases v
  rcases hc with h | h | h | h | h | h | h | h | h
  all_goals first
    | (subst h; rw [show letB _ = _ from rfl])
    | (rw [letB_true (by omega)]; have q : (v == 95) = false := beq_false_of_ne (by omega))
    | (rw [letB_false (by omega)]; have q : (v == 95) = false := beq_false_of_ne (by omega))
  all_goals
    go_enter Tryz.func38, Tryz.ntmps38
    go_wp2
    go_ret
    exact ⟨ret_bool (by first | rfl | (simp; omega)), rfl⟩
set_option maxHeartbeats 1000000 in
theorem digit (v : Int) (w : World) (h0 : 0 ≤ v) (h1 : v ≤ 255) : Calls Tryz.prog 39 #[.int .u8 v] w (Yn (digB v) w) := by
  have hc : v < 48 ∨ (48 ≤ v ∧ v ≤ 57) ∨ 58 ≤ v := by omega
  rcases hc with h | h | h
  all_goals first
    | rw [digB_true (by omega)]
    | rw [digB_false (by omega)]
  all_goals
    go_enter Tryz.func39, Tryz.ntmps39
    go_wp2
    go_ret
    exact ⟨ret_bool (by first | rfl | (simp; omega)), rfl⟩
set_option maxRecDepth 100000 in
set_option maxHeartbeats 2000000 in
theorem nameR (s : ByteArray) (w : World) (hs : s.size ≤ 9223372036854775807) : Calls Tryz.prog 23 #[.string s] w (Yn (nameB s) w) := by
  by_cases h0 : 0 < s.size
  · by_cases h1 : s.size ≤ 64
    · have q1 : ¬ (s.size : Int) < 1 := by omega
      have q2 : decide ((s.size : Int) > 64) = false := decide_eq_false (by omega)
      go_enter Tryz.func23, Tryz.ntmps23
      go_wp2
      go_loop [3] (fun i => ∃ m : Nat, m ≤ s.size ∧ i = .int .i64 m ∧ (0 < m → digB (bV s 0) = false) ∧ ∀ k, k < m → (letB (bV s k) || digB (bV s k)) = true) (fun i => s.size - (intOf i).toNat)
      case atStart => exact ⟨0, by omega, rfl, fun h => by omega, fun k hk => by omega⟩
      case round =>
        obtain ⟨x, hx, rfl, hd, hall⟩ := hrel
        have Hall := Lib.hid hall; have Hd := Lib.hid hd
        clear hall hd
        by_cases hlt : x < s.size
        · have hb := bV_at hlt
          have hr := bV_range s x
          have Hat := Lib.hid (@nameB_at s x hlt)
          have Hdg := Lib.hid (@nameB_dig s)
          have Hstep := Lib.hid (show (letB (bV s x) || digB (bV s x)) = true → ∀ k, k < x + 1 → (letB (bV s k) || digB (bV s k)) = true from fun h k hk => by
            by_cases e : k = x
            · rw [e]; exact h
            · exact Hall.out k (by omega))
          by_cases hl : letB (bV s x) = true
          · have hd0 : x = 0 → digB (bV s 0) = false := fun e => by
              subst e
              have hl := of_decide_eq_true hl
              exact digB_false (by omega)
            have Hd0 := Lib.hid hd0
            have Hl := Lib.hid hl
            generalize bV s x = v at *
            clear hd0
            go_wp2_with (go_at_call 38; refine (letter _ _ (by omega) (by omega)).mono ?_; rintro e w' ⟨rfl, rfl⟩)
            go_round
            case rel => exact ⟨x + 1, by omega, by go_num, fun _ => by
              by_cases e : x = 0
              · exact Hd0.out e
              · exact Hd.out (by omega), Hstep.out (by rw [Hl.out]; rfl)⟩
            case measure => simp [intOf]; omega
          · have hl2 : letB (bV s x) = false := by simpa using hl
            have Hl := Lib.hid hl2
            clear hl
            by_cases hdg : digB (bV s x) = true
            · have Hdt := Lib.hid hdg
              by_cases hx0 : x = 0
              · subst hx0
                have hno := Hdg.out hdg
                have Hno := Lib.hid hno
                clear hno
                generalize bV s 0 = v at *
                go_wp2_with (go_at_call 38; refine (letter _ _ (by omega) (by omega)).mono ?_; rintro e w' ⟨rfl, rfl⟩)
                go_ret
                exact ⟨ret_bool Hno.out.symm, rfl⟩
              · have q3 : ((x : Int) == 0) = false := beq_false_of_ne (by omega)
                generalize bV s x = v at *
                go_wp2_with (first | (go_at_call 38; refine (letter _ _ (by omega) (by omega)).mono ?_; rintro e w' ⟨rfl, rfl⟩) | (go_at_call 39; refine (digit _ _ (by omega) (by omega)).mono ?_; rintro e w' ⟨rfl, rfl⟩))
                go_round
                case rel => exact ⟨x + 1, by omega, by go_num, fun _ => Hd.out (by omega), Hstep.out (by rw [Hl.out, Hdt.out]; rfl)⟩
                case measure => simp [intOf]; omega
            · have hdg2 : digB (bV s x) = false := by simpa using hdg
              have hno := Hat.out (by rw [Hl.out, hdg2]; rfl)
              have Hno := Lib.hid hno
              clear hno hdg
              by_cases hx0 : x = 0
              · subst hx0
                generalize bV s 0 = v at *
                go_wp2_with (first | (go_at_call 38; refine (letter _ _ (by omega) (by omega)).mono ?_; rintro e w' ⟨rfl, rfl⟩) | (go_at_call 39; refine (digit _ _ (by omega) (by omega)).mono ?_; rintro e w' ⟨rfl, rfl⟩))
                go_ret
                exact ⟨ret_bool Hno.out.symm, rfl⟩
              · have q3 : ((x : Int) == 0) = false := beq_false_of_ne (by omega)
                generalize bV s x = v at *
                go_wp2_with (first | (go_at_call 38; refine (letter _ _ (by omega) (by omega)).mono ?_; rintro e w' ⟨rfl, rfl⟩) | (go_at_call 39; refine (digit _ _ (by omega) (by omega)).mono ?_; rintro e w' ⟨rfl, rfl⟩))
                go_ret
                exact ⟨ret_bool Hno.out.symm, rfl⟩
        · obtain rfl : x = s.size := by omega
          have hyes := nameB_yes h0 h1 (Hd.out h0) Hall.out
          have Hyes := Lib.hid hyes
          clear hyes
          go_wp2
          go_ret
          exact ⟨ret_bool Hyes.out.symm, rfl⟩
    · have hno := nameB_no (s := s) (by omega)
      have Hno := Lib.hid hno
      have q1 : ¬ (s.size : Int) < 1 := by omega
      have q2 : decide ((s.size : Int) > 64) = true := decide_eq_true (by omega)
      clear hno
      go_enter Tryz.func23, Tryz.ntmps23
      go_wp2
      go_ret
      exact ⟨ret_bool Hno.out.symm, rfl⟩
  · have hno := nameB_no (s := s) (by omega)
    have Hno := Lib.hid hno
    have q1 : (s.size : Int) < 1 := by omega
    clear hno
    go_enter Tryz.func23, Tryz.ntmps23
    go_wp2
    go_ret
    exact ⟨ret_bool Hno.out.symm, rfl⟩
end Go.Proofs.YtdklhkdlndlgnaaGreatDoor
