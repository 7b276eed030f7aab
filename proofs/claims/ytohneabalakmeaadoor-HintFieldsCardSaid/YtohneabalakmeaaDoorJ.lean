/- The example holds; the laws of names and of quotes. -/
import Derived.Test.YtohneabalakmeaaDoorI
namespace Go.Proofs.YtohneabalakmeaaDoor
open Go.RowKit
attribute [local irreducible] wpList Calls Code.wp
/-- true comes back, and of what was there nothing has turned -/
def Tt (w : World) (e : Ending) (w' : World) : Prop := e = .returned (.bool true) ∧ Below w.heap.size w w'
theorem ex_num (w : World) (he : Env w) : Calls Tryd.prog 19 #[.string ⟨#[45, 49, 50]⟩] w (fun e w' => e = .returned (.tuple #[.int .i64 (-12), .int .i64 0]) ∧ Below w.heap.size w w') := by
  refine (numberP ⟨#[45, 49, 50]⟩ w he (by decide)).mono fun e w' h => ?_
  obtain ⟨h1, h2⟩ := h
  exact ⟨h1, h2⟩
theorem ex_name (w : World) : Calls Tryd.prog 23 #[.string ⟨#[95, 97, 49]⟩] w (Yn true w) := by
  have h := nameP ⟨#[95, 97, 49]⟩ w (by decide)
  rw [show nameB ⟨#[95, 97, 49]⟩ = true by decide +kernel] at h
  exact h
theorem ex_quote (w : World) : Calls Tryd.prog 17 #[.string ⟨#[97, 34]⟩] w (fun e w' => e = .returned (.string ⟨#[34, 97, 92, 34, 34]⟩) ∧ Below w.heap.size w w') := by
  refine (quoteP ⟨#[97, 34]⟩ w (by decide)).mono fun e w' h => ?_
  obtain ⟨h1, h2⟩ := h
  exact ⟨h1, h2⟩
theorem ex_dec (w : World) (he : Env w) : Calls Tryd.prog 21 #[.int .i64 (-12)] w (fun e w' => e = .returned (.string ⟨#[45, 49, 50]⟩) ∧ Below w.heap.size w w') := by
  refine (decimalP (-12) (by decide) (by decide) w he).mono fun e w' h => ?_
  obtain ⟨h1, h2⟩ := h
  refine ⟨?_, h2⟩
  rw [h1, show bs (Lib.itoa (-12)) = ⟨#[45, 49, 50]⟩ by decide +kernel]
set_option maxRecDepth 100000 in
set_option maxHeartbeats 1000000 in
theorem exam (w : World) (he : Env w) : Calls Tryd.prog 16 #[] w (Tt w) := by
  have HE := Lib.hid he; clear he
  go_enter Tryd.func16, Tryd.ntmps16
  go_wp2_with fail
  refine (ex_num _ HE.out).mono ?_
  rintro e w1 ⟨rfl, h1⟩
  have H1 := Lib.hid h1; clear h1
  go_wp2_with fail
  refine (ex_name _).mono ?_
  rintro e w2 ⟨rfl, rfl⟩
  go_wp2_with fail
  refine (ex_quote _).mono ?_
  rintro e w3 ⟨rfl, h3⟩
  have H3 := Lib.hid (H1.out.trans (h3.mono H1.out.size)); clear h3 H1
  go_wp2_with fail
  refine (ex_dec _ (HE.out.below H3.out)).mono ?_
  rintro e w4 ⟨rfl, h4⟩
  have H4 := Lib.hid (H3.out.trans (h4.mono H3.out.size)); clear h4 H3
  go_wp2
  go_ret
  exact ⟨rfl, H4.out⟩
theorem longP (s : ByteArray) (w : World) (hs : s.size ≤ 9223372036854775807) : Calls Tryd.prog 15 #[.string s] w (Yn (decide (2000 < s.size)) w) := by
  by_cases h : 2000 < s.size
  · have q : decide ((s.size : Int) > 2000) = true := decide_eq_true (by omega)
    rw [decide_eq_true h]
    go_enter Tryd.func15, Tryd.ntmps15
    go_wp2
    go_ret
    exact ⟨rfl, rfl⟩
  · have q : decide ((s.size : Int) > 2000) = false := decide_eq_false (by omega)
    rw [decide_eq_false h]
    go_enter Tryd.func15, Tryd.ntmps15
    go_wp2
    go_ret
    exact ⟨rfl, rfl⟩
theorem lawNames (s : ByteArray) (w : World) (he : Env w) (hs : s.size ≤ 9223372036854775807) : Calls Tryd.prog 5 #[.string s] w (Tt w) := by
  have HP := Lib.hid (nameP s w hs)
  have HR := Lib.hid (nameR s w hs)
  have HB := Lib.hid (resP s w)
  have HC := Lib.hid (resR s w hs)
  have HX := Lib.hid (exam w he)
  clear he
  unfold Yn at HP HR HB HC
  generalize nameB s = a at *
  generalize resB s = b at *
  go_enter Tryd.func5, Tryd.ntmps5
  go_wp2_with fail
  refine HP.out.mono ?_
  rintro e w1 ⟨rfl, rfl⟩
  go_wp2_with fail
  refine HR.out.mono ?_
  rintro e w1 ⟨rfl, rfl⟩
  go_wp2_with fail
  refine HB.out.mono ?_
  rintro e w1 ⟨rfl, rfl⟩
  go_wp2_with fail
  refine HC.out.mono ?_
  rintro e w1 ⟨rfl, rfl⟩
  go_wp2_with fail
  refine HX.out.mono ?_
  rintro e w1 ⟨rfl, h1⟩
  have H1 := Lib.hid h1; clear h1
  go_wp2
  go_ret
  exact ⟨rfl, H1.out⟩
/-! ### quotes -/
theorem esc_print (c : UInt8) : (escU c).all (fun x => decide (32 ≤ x.toNat) && decide (x.toNat ≤ 126)) = true := by
  have h : ∀ i : Fin 256, (escU (UInt8.ofNat i.val)).all (fun x => decide (32 ≤ x.toNat) && decide (x.toNat ≤ 126)) = true := by decide +kernel
  have := h ⟨c.toNat, c.toNat_lt⟩
  simpa using this
theorem quote_print (l : List UInt8) : ∀ x ∈ quoteU l, 32 ≤ x.toNat ∧ x.toNat ≤ 126 := by
  intro x hx
  unfold quoteU escL at hx
  simp only [List.mem_append, List.mem_singleton, List.mem_flatMap] at hx
  rcases hx with (rfl | ⟨c, _, h⟩) | rfl
  · decide
  · have := List.all_eq_true.1 (esc_print c) x h
    simpa using this
  · decide
theorem quote_bV (l : List UInt8) (k : Nat) (hk : k < (bs (quoteU l)).size) : 32 ≤ bV (bs (quoteU l)) k ∧ bV (bs (quoteU l)) k ≤ 126 := by
  have hk' : k < (quoteU l).length := by rw [bs_size] at hk; exact hk
  rw [bV_bs hk']
  have := quote_print l _ (List.getElem_mem hk')
  omega
theorem esc_le (c : UInt8) : (escU c).length ≤ 6 := by
  have h : ∀ i : Fin 256, (escU (UInt8.ofNat i.val)).length ≤ 6 := by decide +kernel
  have := h ⟨c.toNat, c.toNat_lt⟩
  simpa using this
theorem escL_le : ∀ l : List UInt8, (escL l).length ≤ 6 * l.length
  | [] => by simp [escL]
  | c :: r => by
    have h1 := esc_le c
    have h2 := escL_le r
    unfold escL at h2 ⊢
    rw [List.flatMap_cons, List.length_append, List.length_cons]; omega
theorem quote_size (s : ByteArray) : (bs (quoteU s.data.toList)).size ≤ 6 * s.size + 2 := by
  have h1 := escL_le s.data.toList
  have h2 : s.data.toList.length = s.size := by simp
  rw [bs_size]; unfold quoteU; simp only [List.length_append, List.length_cons, List.length_nil]; omega
set_option maxRecDepth 100000 in
set_option maxHeartbeats 2000000 in
theorem lawQuotes (s : ByteArray) (w : World) (he : Env w) (hs : s.size ≤ 9223372036854775807) : Calls Tryd.prog 3 #[.string s] w (Tt w) := by
  have HE := Lib.hid he
  have HL := Lib.hid (longP s w hs)
  by_cases h : 2000 < s.size
  · have HX := Lib.hid (exam w he)
    clear he
    rw [decide_eq_true h] at HL
    unfold Yn at HL
    go_enter Tryd.func3, Tryd.ntmps3
    go_wp2_with fail
    refine HL.out.mono ?_
    rintro e w1 ⟨rfl, rfl⟩
    go_wp2_with fail
    refine HX.out.mono ?_
    rintro e w1 ⟨rfl, h1⟩
    have H1 := Lib.hid h1; clear h1
    go_wp2
    go_ret
    exact ⟨rfl, H1.out⟩
  · clear he
    rw [decide_eq_false h] at HL
    have HP := Lib.hid (quoteP s w (by omega))
    have HR := Lib.hid (fun w => quoteR s w (by omega))
    have Hpr := Lib.hid (quote_bV s.data.toList)
    have hqs := quote_size s
    unfold Yn at HL
    unfold St at HP HR
    generalize bs (quoteU s.data.toList) = q at *
    have hq2 : q.size ≤ 20000 := by omega
    clear hqs
    go_enter Tryd.func3, Tryd.ntmps3
    go_wp2_with fail
    refine HL.out.mono ?_
    rintro e w1 ⟨rfl, rfl⟩
    go_wp2_with fail
    refine HP.out.mono ?_
    rintro e w1 ⟨rfl, h1⟩
    have H1 := Lib.hid h1; clear h1
    go_wp2
    go_loop [4] (fun i => ∃ m : Nat, m ≤ q.size ∧ i = .int .i64 m) (fun i => q.size - (intOf i).toNat)
    case atStart => exact ⟨0, by omega, rfl⟩
    case round =>
      obtain ⟨x, hx, rfl⟩ := hrel
      by_cases hlt : x < q.size
      · have hb := bV_at hlt
        obtain ⟨hr1, hr2⟩ := Hpr.out x hlt
        generalize bV q x = v at *
        go_wp2
        go_round
        case rel => exact ⟨x + 1, by omega, by go_num⟩
        case measure => simp [intOf]; omega
      · obtain rfl : x = q.size := by omega
        go_wp2_with fail
        refine (HR.out _).mono ?_
        rintro e w2 ⟨rfl, h2⟩
        have H2 := Lib.hid (H1.out.trans (h2.mono H1.out.size)); clear h2 H1
        go_wp2_with fail
        refine (exam _ (HE.out.below H2.out)).mono ?_
        rintro e w3 ⟨rfl, h3⟩
        have H3 := Lib.hid (H2.out.trans (h3.mono H2.out.size)); clear h3 H2
        go_wp2
        go_ret
        exact ⟨rfl, H3.out⟩
end Go.Proofs.YtohneabalakmeaaDoor
