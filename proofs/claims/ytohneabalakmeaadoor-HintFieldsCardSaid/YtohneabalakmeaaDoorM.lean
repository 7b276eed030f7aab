/- The law of numbers. -/
import Derived.Test.YtohneabalakmeaaDoorL
namespace Go.Proofs.YtohneabalakmeaaDoor
open Go.RowKit
attribute [local irreducible] wpList Calls Code.wp
theorem itoa_size (n : Int) (h0 : -9223372036854775808 ≤ n) (h1 : n ≤ 9223372036854775807) : (bs (Lib.itoa n)).size ≤ 21 := by
  rw [bs_size]
  unfold Lib.itoa
  split
  · have := dec_len (u := n.natAbs) (by omega)
    simp only [List.length_cons]; omega
  · have := dec_len (u := n.toNat) (by omega)
    omega
/-- a parse, by its two results -/
def Nv (v k : Int) (w : World) (e : Ending) (w' : World) : Prop := e = .returned (.tuple #[.int .i64 v, .int .i64 k]) ∧ Below w.heap.size w w'
/-- a string, given whole -/
def Sv (s : ByteArray) (w : World) (e : Ending) (w' : World) : Prop := e = .returned (.string s) ∧ Below w.heap.size w w'
set_option maxRecDepth 100000 in
set_option maxHeartbeats 2000000 in
theorem lawNumbers (s : ByteArray) (n : Int) (w : World) (he : Env w) (hs : s.size ≤ 281474976710656) (h0 : -9223372036854775808 ≤ n) (h1 : n ≤ 9223372036854775807) : Calls Tryd.prog 4 #[.string s, .int .i64 n] w (Tt w) := by
  have HE := Lib.hid he
  have HD := Lib.hid (fun w he => decimalP n h0 h1 w he)
  have HQ := Lib.hid (fun w => decimalR n h0 h1 w)
  have HN : ∀ w, Env w → Calls Tryd.prog 19 #[.string (bs (Lib.itoa n))] w (Nv n 0 w) := fun w he => by
    have h := numberP (bs (Lib.itoa n)) w he (by have := itoa_size n h0 h1; omega)
    rw [bs_data, num_itoa n h0 h1] at h
    exact h
  have HN := Lib.hid HN
  have HX := Lib.hid (fun w he => exam w he)
  clear he
  unfold St at HD HQ
  generalize bs (Lib.itoa n) = t at *
  have hcs : ∃ v k, (∀ w, Env w → Calls Tryd.prog 19 #[.string s] w (Nv v k w)) ∧ (∀ w, Calls Tryd.prog 20 #[.string s] w (Nv v k w)) ∧
      ((k = 0 ∧ ∀ w, Env w → Calls Tryd.prog 21 #[.int .i64 v] w (Sv s w)) ∨ k = 3 ∨ k = 4) := by
    have hP := fun w he => numberP s w he hs
    have hR := fun w => numberR s w hs
    cases hn : numU s.data.toList with
    | ok v =>
      rw [hn] at hP hR
      obtain ⟨h2, h3, h4⟩ := itoa_num hn
      refine ⟨v, 0, hP, hR, .inl ⟨rfl, fun w he => ?_⟩⟩
      have h := decimalP v h3 h4 w he
      unfold St at h
      rw [h2, bs_self] at h
      exact h
    | range => rw [hn] at hP hR; exact ⟨0, 4, hP, hR, .inr (.inr rfl)⟩
    | _ => rw [hn] at hP hR; exact ⟨0, 3, hP, hR, .inr (.inl rfl)⟩
  obtain ⟨v, k, hP, hR, hk⟩ := hcs
  have HP := Lib.hid hP
  have HR := Lib.hid hR
  clear hP hR
  unfold Nv at HP HR HN
  rcases hk with ⟨rfl, hv⟩ | hk
  · have HV := Lib.hid hv
    clear hv
    unfold Sv at HV
    go_enter Tryd.func4, Tryd.ntmps4
    go_wp2_with fail
    refine (HP.out _ HE.out).mono ?_
    rintro e w1 ⟨rfl, b⟩
    have B1 := Lib.hid b; clear b
    go_wp2_with fail
    refine (HR.out _).mono ?_
    rintro e w2 ⟨rfl, b⟩
    have B2 := Lib.hid (B1.out.trans (b.mono B1.out.size)); clear b B1
    go_wp2_with fail
    refine (HV.out _ (HE.out.below B2.out)).mono ?_
    rintro e w3 ⟨rfl, b⟩
    have B3 := Lib.hid (B2.out.trans (b.mono B2.out.size)); clear b B2
    go_wp2_with fail
    refine (HD.out _ (HE.out.below B3.out)).mono ?_
    rintro e w4 ⟨rfl, b⟩
    have B4 := Lib.hid (B3.out.trans (b.mono B3.out.size)); clear b B3
    go_wp2_with fail
    refine (HN.out _ (HE.out.below B4.out)).mono ?_
    rintro e w5 ⟨rfl, b⟩
    have B5 := Lib.hid (B4.out.trans (b.mono B4.out.size)); clear b B4
    go_wp2_with fail
    refine (HD.out _ (HE.out.below B5.out)).mono ?_
    rintro e w6 ⟨rfl, b⟩
    have B6 := Lib.hid (B5.out.trans (b.mono B5.out.size)); clear b B5
    go_wp2_with fail
    refine (HQ.out _).mono ?_
    rintro e w7 ⟨rfl, b⟩
    have B7 := Lib.hid (B6.out.trans (b.mono B6.out.size)); clear b B6
    go_wp2_with fail
    refine (HX.out _ (HE.out.below B7.out)).mono ?_
    rintro e w8 ⟨rfl, b⟩
    have B8 := Lib.hid (B7.out.trans (b.mono B7.out.size)); clear b B7
    go_wp2
    go_ret
    exact ⟨rfl, B8.out⟩
  · rcases hk with rfl | rfl
    all_goals
      go_enter Tryd.func4, Tryd.ntmps4
      go_wp2_with fail
      refine (HP.out _ HE.out).mono ?_
      rintro e w1 ⟨rfl, b⟩
      have B1 := Lib.hid b; clear b
      go_wp2_with fail
      refine (HR.out _).mono ?_
      rintro e w3 ⟨rfl, b⟩
      have B3 := Lib.hid (B1.out.trans (b.mono B1.out.size)); clear b B1
      go_wp2_with fail
      refine (HD.out _ (HE.out.below B3.out)).mono ?_
      rintro e w4 ⟨rfl, b⟩
      have B4 := Lib.hid (B3.out.trans (b.mono B3.out.size)); clear b B3
      go_wp2_with fail
      refine (HN.out _ (HE.out.below B4.out)).mono ?_
      rintro e w5 ⟨rfl, b⟩
      have B5 := Lib.hid (B4.out.trans (b.mono B4.out.size)); clear b B4
      go_wp2_with fail
      refine (HD.out _ (HE.out.below B5.out)).mono ?_
      rintro e w6 ⟨rfl, b⟩
      have B6 := Lib.hid (B5.out.trans (b.mono B5.out.size)); clear b B5
      go_wp2_with fail
      refine (HQ.out _).mono ?_
      rintro e w7 ⟨rfl, b⟩
      have B7 := Lib.hid (B6.out.trans (b.mono B6.out.size)); clear b B6
      go_wp2_with fail
      refine (HX.out _ (HE.out.below B7.out)).mono ?_
      rintro e w8 ⟨rfl, b⟩
      have B8 := Lib.hid (B7.out.trans (b.mono B7.out.size)); clear b B7
      go_wp2
      go_ret
      exact ⟨rfl, B8.out⟩
end Go.Proofs.YtohneabalakmeaaDoor
