/- One escape read, in both texts: the byte behind a backslash, a hexadecimal digit, a code. -/
import Derived.Test.YtohneabalakmeaaDoorM
namespace Go.Proofs.YtohneabalakmeaaDoor
open Go.RowKit
attribute [local irreducible] wpList Calls Code.wp
/-- a byte found, or none -/
def simV : Option UInt8 → Value
  | some x => .tuple #[.int .u8 (x.toNat : Int), .bool true]
  | none => .tuple #[.int .u8 0, .bool false]
def Sm (r : Option UInt8) (w : World) (e : Ending) (w' : World) : Prop := e = .returned (simV r) ∧ w = w'
theorem sim_cases (c : UInt8) : c = 34 ∨ c = 92 ∨ c = 47 ∨ c = 98 ∨ c = 102 ∨ c = 110 ∨ c = 114 ∨ c = 116 ∨ (simU c = none ∧ (c.toNat : Int) ≠ 34 ∧ (c.toNat : Int) ≠ 92 ∧ (c.toNat : Int) ≠ 47 ∧ (c.toNat : Int) ≠ 98 ∧ (c.toNat : Int) ≠ 102 ∧ (c.toNat : Int) ≠ 110 ∧ (c.toNat : Int) ≠ 114 ∧ (c.toNat : Int) ≠ 116) := by
  by_cases h1 : c = 34
  · exact .inl h1
  by_cases h2 : c = 92
  · exact .inr (.inl h2)
  by_cases h3 : c = 47
  · exact .inr (.inr (.inl h3))
  by_cases h4 : c = 98
  · exact .inr (.inr (.inr (.inl h4)))
  by_cases h5 : c = 102
  · exact .inr (.inr (.inr (.inr (.inl h5))))
  by_cases h6 : c = 110
  · exact .inr (.inr (.inr (.inr (.inr (.inl h6)))))
  by_cases h7 : c = 114
  · exact .inr (.inr (.inr (.inr (.inr (.inr (.inl h7))))))
  by_cases h8 : c = 116
  · exact .inr (.inr (.inr (.inr (.inr (.inr (.inr (.inl h8)))))))
  refine .inr (.inr (.inr (.inr (.inr (.inr (.inr (.inr ⟨?_, u8_ne (n := 34) (by omega) h1, u8_ne (n := 92) (by omega) h2, u8_ne (n := 47) (by omega) h3, u8_ne (n := 98) (by omega) h4, u8_ne (n := 102) (by omega) h5, u8_ne (n := 110) (by omega) h6, u8_ne (n := 114) (by omega) h7, u8_ne (n := 116) (by omega) h8⟩)))))))
  unfold simU
  rw [if_neg (by rintro (h | h | h) <;> contradiction), if_neg h4, if_neg h5, if_neg h6, if_neg h7, if_neg h8]
set_option maxHeartbeats 1000000 in
theorem simpleR (c : UInt8) (v : Int) (hv : v = (c.toNat : Int)) (w : World) : Calls Tryd.prog 65 #[.int .u8 v] w (Sm (simU c) w) := by
  rcases sim_cases c with rfl | rfl | rfl | rfl | rfl | rfl | rfl | rfl | ⟨h, n1, n2, n3, n4, n5, n6, n7, n8⟩
  all_goals first
    | (subst hv
       go_enter Tryd.func65, Tryd.ntmps65
       go_wp2
       go_ret2
       exact ⟨rfl, rfl⟩)
    | (rw [← hv] at n1 n2 n3 n4 n5 n6 n7 n8
       have H := Lib.hid h
       have q1 := beq_false_of_ne n1
       have q2 := beq_false_of_ne n2
       have q3 := beq_false_of_ne n3
       have q4 := beq_false_of_ne n4
       have q5 := beq_false_of_ne n5
       have q6 := beq_false_of_ne n6
       have q7 := beq_false_of_ne n7
       have q8 := beq_false_of_ne n8
       clear h hv
       go_enter Tryd.func65, Tryd.ntmps65
       go_wp2
       go_ret2
       exact ⟨by rw [H.out]; rfl, rfl⟩)
set_option maxHeartbeats 1000000 in
theorem plainP (c : UInt8) (v : Int) (hv : v = (c.toNat : Int)) (w : World) : Calls Tryd.prog 63 #[.int .u8 v] w (Sm (simU c) w) := by
  rcases sim_cases c with rfl | rfl | rfl | rfl | rfl | rfl | rfl | rfl | ⟨h, n1, n2, n3, n4, n5, n6, n7, n8⟩
  all_goals first
    | (subst hv
       go_enter Tryd.func63, Tryd.ntmps63
       go_wp2
       go_ret2
       exact ⟨rfl, rfl⟩)
    | (rw [← hv] at n1 n2 n3 n4 n5 n6 n7 n8
       have H := Lib.hid h
       have q1 := beq_false_of_ne n1
       have q2 := beq_false_of_ne n2
       have q3 := beq_false_of_ne n3
       have q4 := beq_false_of_ne n4
       have q5 := beq_false_of_ne n5
       have q6 := beq_false_of_ne n6
       have q7 := beq_false_of_ne n7
       have q8 := beq_false_of_ne n8
       clear h hv
       go_enter Tryd.func63, Tryd.ntmps63
       go_wp2
       go_ret2
       exact ⟨by rw [H.out]; rfl, rfl⟩)
/-! ### a hexadecimal digit, a code -/
def optI : Option Nat → Int
  | some n => (n : Int)
  | none => -1
/-- a number found, or -1 -/
def Vl (r : Option Nat) (w : World) (e : Ending) (w' : World) : Prop := e = .returned (.int .i64 (optI r)) ∧ w = w'
theorem ret_i64 {a b : Int} (h : a = b) : Ending.returned (.int .i64 a) = .returned (.int .i64 b) := by rw [h]
theorem val_cases (c : UInt8) (v : Int) (hv : v = (c.toNat : Int)) : (48 ≤ v ∧ v ≤ 57 ∧ optI (valU c) = v - 48) ∨ (97 ≤ v ∧ v ≤ 102 ∧ optI (valU c) = v - 87) ∨ (65 ≤ v ∧ v ≤ 70 ∧ optI (valU c) = v - 55) ∨ (¬ (48 ≤ v ∧ v ≤ 57) ∧ ¬ (97 ≤ v ∧ v ≤ 102) ∧ ¬ (65 ≤ v ∧ v ≤ 70) ∧ optI (valU c) = -1) := by
  unfold valU
  split
  · refine .inl ⟨by omega, by omega, ?_⟩
    show ((c.toNat - 48 : Nat) : Int) = _
    omega
  · split
    · refine .inr (.inl ⟨by omega, by omega, ?_⟩)
      show ((c.toNat - 87 : Nat) : Int) = _
      omega
    · split
      · refine .inr (.inr (.inl ⟨by omega, by omega, ?_⟩))
        show ((c.toNat - 55 : Nat) : Int) = _
        omega
      · exact .inr (.inr (.inr ⟨by omega, by omega, by omega, rfl⟩))
set_option maxHeartbeats 1000000 in
theorem valueR (c : UInt8) (v : Int) (hv : v = (c.toNat : Int)) (w : World) : Calls Tryd.prog 98 #[.int .u8 v] w (Vl (valU c) w) := by
  have hlt := c.toNat_lt
  have h0 : 0 ≤ v := by omega
  have h255 : v ≤ 255 := by omega
  have hcs := val_cases c v hv
  clear hlt hv
  have Hd := Lib.hid (digit v w h0 h255)
  unfold Yn at Hd
  unfold Vl
  generalize optI (valU c) = r at *
  rcases hcs with ⟨h1, h2, h3⟩ | ⟨h1, h2, h3⟩ | ⟨h1, h2, h3⟩ | ⟨h1, h2, h4, h3⟩
  · rw [digB_true ⟨h1, h2⟩] at Hd
    go_enter Tryd.func98, Tryd.ntmps98
    go_wp2_with fail
    refine Hd.out.mono ?_
    rintro e w2 ⟨rfl, rfl⟩
    go_wp2
    go_ret
    exact ⟨ret_i64 h3.symm, rfl⟩
  · rw [digB_false (by omega)] at Hd
    go_enter Tryd.func98, Tryd.ntmps98
    go_wp2_with fail
    refine Hd.out.mono ?_
    rintro e w2 ⟨rfl, rfl⟩
    go_wp2
    go_ret
    exact ⟨ret_i64 h3.symm, rfl⟩
  · rw [digB_false (by omega)] at Hd
    have f97 : decide (v ≥ 97) = false := decide_eq_false (by omega)
    go_enter Tryd.func98, Tryd.ntmps98
    go_wp2_with fail
    refine Hd.out.mono ?_
    rintro e w2 ⟨rfl, rfl⟩
    go_wp2
    go_ret
    exact ⟨ret_i64 h3.symm, rfl⟩
  · rw [digB_false h1] at Hd
    have hc2 : v < 65 ∨ (70 < v ∧ v < 97) ∨ 102 < v := by omega
    rcases hc2 with h | h | h
    all_goals first
      | (have f97 : decide (v ≥ 97) = false := decide_eq_false (by omega)
         have f65 : decide (v ≥ 65) = false := decide_eq_false (by omega))
      | (have f97 : decide (v ≥ 97) = false := decide_eq_false (by omega)
         have f65 : decide (v ≥ 65) = true := decide_eq_true (by omega)
         have f70 : decide (v ≤ 70) = false := decide_eq_false (by omega))
      | (have f97 : decide (v ≥ 97) = true := decide_eq_true (by omega)
         have f102 : decide (v ≤ 102) = false := decide_eq_false (by omega)
         have f65 : decide (v ≥ 65) = true := decide_eq_true (by omega)
         have f70 : decide (v ≤ 70) = false := decide_eq_false (by omega))
    all_goals
      go_enter Tryd.func98, Tryd.ntmps98
      go_wp2_with fail
      refine Hd.out.mono ?_
      rintro e w2 ⟨rfl, rfl⟩
      go_wp2
      all_goals first
        | (exfalso; omega)
        | (go_ret
           exact ⟨ret_i64 h3.symm, rfl⟩)
theorem code_nil (n : Nat) : codeFrom n [] = some n := rfl
theorem code_some {c : UInt8} {d n : Nat} {r : List UInt8} (h : valU c = some d) : codeFrom n (c :: r) = codeFrom (16 * n + d) r := by show (valU c).bind _ = _; rw [h]; rfl
theorem code_none {c : UInt8} {n : Nat} {r : List UInt8} (h : valU c = none) : codeFrom n (c :: r) = none := by show (valU c).bind _ = _; rw [h]; rfl
theorem val_lt {c : UInt8} {d : Nat} (h : valU c = some d) : d < 16 := by
  unfold valU at h
  split at h
  · injection h; omega
  · split at h
    · injection h; omega
    · split at h
      · injection h; omega
      · cases h
theorem drop_at {s : ByteArray} {x : Nat} (h : x < s.size) : s.data.toList.drop x = bC s x :: s.data.toList.drop (x + 1) := by
  have h' : x < s.data.toList.length := by simpa using h
  rw [List.drop_eq_getElem_cons h']
  unfold bC
  simp [List.getElem?_eq_getElem h']
set_option maxRecDepth 100000 in
set_option maxHeartbeats 2000000 in
theorem codeR (s : ByteArray) (w : World) (hs : s.size = 4) : Calls Tryd.prog 66 #[.string s] w (Vl (codeFrom 0 s.data.toList) w) := by
  have hsi : (s.size : Int) = 4 := by omega
  have q0 : ((s.size : Int) == 4) = true := by rw [hsi]; rfl
  have Hs := Lib.hid hs
  go_enter Tryd.func66, Tryd.ntmps66
  go_wp2
  go_loopg [3, 4] 4 (fun j n i wr => ∃ m u : Nat, m + j = 4 ∧ i = .int .i64 m ∧ n = .int .i64 u ∧ u < 16 ^ m ∧ codeFrom 0 s.data.toList = codeFrom u (s.data.toList.drop m) ∧ wr = w)
  case atStart => exact ⟨0, 0, by omega, rfl, rfl, by simp, rfl, rfl⟩
  case round =>
    obtain ⟨x, u, hmj, rfl, rfl, hu, hc, rfl⟩ := hrel
    have Hmj := Lib.hid hmj; have hmn : x ≤ 4 := by omega
    clear hmj
    have Hc := Lib.hid hc
    clear hc
    by_cases hlt : x < 4
    · have hx : x < s.size := by have := Hs.out; omega
      have hxi : (x : Int) < (s.size : Int) := by omega
      have hu2 : u < 65536 := Nat.lt_of_lt_of_le hu (Nat.pow_le_pow_right (by omega) (by omega : x ≤ 4))
      have Hu := Lib.hid hu
      clear hu
      have hb := bV_at hx
      rw [bV_bC] at hb
      have Hdr := Lib.hid (drop_at hx)
      have HV := Lib.hid (valueR (bC s x) ((bC s x).toNat : Int) rfl wr)
      unfold Vl at HV
      generalize bC s x = c at *
      cases hval : valU c with
      | some d =>
        have hd := val_lt hval
        rw [hval] at HV
        have Hok := Lib.hid (show codeFrom 0 s.data.toList = codeFrom (16 * u + d) (s.data.toList.drop (x + 1)) by rw [Hc.out, Hdr.out, code_some hval])
        clear hval
        unfold optI at HV
        go_wp2_with fail
        refine HV.out.mono ?_
        rintro e w2 ⟨rfl, rfl⟩
        go_wp2_with fail
        refine HV.out.mono ?_
        rintro e w2 ⟨rfl, rfl⟩
        go_wp2
        go_roundg (gk - 1)
        case measure => have := Hmj.out; omega
        case rel => exact ⟨x + 1, 16 * u + d, by have := Hmj.out; omega, by go_num, by go_num, by have := Hu.out; rw [Nat.pow_succ]; omega, Hok.out, rfl⟩
      | none =>
        rw [hval] at HV
        have Hno := Lib.hid (show codeFrom 0 s.data.toList = none by rw [Hc.out, Hdr.out, code_none hval])
        clear hval
        unfold optI at HV
        go_wp2_with fail
        refine HV.out.mono ?_
        rintro e w2 ⟨rfl, rfl⟩
        go_wp2
        go_ret
        exact ⟨by rw [Hno.out]; rfl, rfl⟩
    · obtain rfl : x = 4 := by omega
      have Hfin := Lib.hid (show codeFrom 0 s.data.toList = some u by
        rw [Hc.out, List.drop_of_length_le (by have := Hs.out; simp; omega)]; rfl)
      clear hu
      go_wp2
      go_ret
      exact ⟨by rw [Hfin.out]; rfl, rfl⟩
end Go.Proofs.YtohneabalakmeaaDoor
