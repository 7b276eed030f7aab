/- The laws of returns and of unquotes. -/
import Derived.Test.YtohneabalakmeaaDoorP
namespace Go.Proofs.YtohneabalakmeaaDoor
open Go.RowKit
attribute [local irreducible] wpList Calls Code.wp
/-- a string and an error's number -/
def Sk (a : ByteArray) (k : Int) (w : World) (e : Ending) (w' : World) : Prop := e = .returned (.tuple #[.string a, .int .i64 k]) ∧ Below w.heap.size w w'
theorem uq_sk (r : Option (List UInt8)) : ∃ a k, ∀ w e w', Uq r w e w' → Sk a k w e w' := by
  cases r with
  | some x => exact ⟨bs x, 0, fun w e w' h => h⟩
  | none => exact ⟨⟨#[]⟩, 3, fun w e w' h => h⟩
set_option maxRecDepth 100000 in
set_option maxHeartbeats 2000000 in
theorem lawReturns (s : ByteArray) (w : World) (he : Env w) (hs : s.size ≤ 9223372036854775807) : Calls Tryd.prog 6 #[.string s] w (Tt w) := by
  have HE := Lib.hid he
  have HL := Lib.hid (longP s w hs)
  by_cases h : 2000 < s.size
  · have HX := Lib.hid (exam w he)
    clear he
    rw [decide_eq_true h] at HL
    unfold Yn at HL
    go_enter Tryd.func6, Tryd.ntmps6
    go_wp2_with fail
    refine HL.out.mono ?_
    rintro e w1 ⟨rfl, rfl⟩
    go_wp2_with fail
    refine HX.out.mono ?_
    rintro e w1 ⟨rfl, h1⟩
    have H1 := Lib.hid h1; clear h1
    go_wp2
    go_ret
    exact ⟨rfl, H1.out⟩
  · clear he
    rw [decide_eq_false h] at HL
    have HP := Lib.hid (quoteP s w (by omega))
    have hqs := quote_size s
    have HU : ∀ w, Calls Tryd.prog 27 #[.string (bs (quoteU s.data.toList))] w (Sk s 0 w) := fun w => by
      have h1 := unquoteP (bs (quoteU s.data.toList)) w (by omega)
      rw [bs_data, unquote_quote] at h1
      refine h1.mono fun e w' h2 => ?_
      obtain ⟨h3, h4⟩ := h2
      refine ⟨?_, h4⟩
      rw [h3]
      show Ending.returned (.tuple #[.string (bs s.data.toList), .int .i64 0]) = _
      rw [bs_self]
    have HU := Lib.hid HU
    unfold Yn at HL
    unfold St at HP
    unfold Sk at HU
    generalize bs (quoteU s.data.toList) = q at *
    clear hqs
    go_enter Tryd.func6, Tryd.ntmps6
    go_wp2_with fail
    refine HL.out.mono ?_
    rintro e w1 ⟨rfl, rfl⟩
    go_wp2_with fail
    refine HP.out.mono ?_
    rintro e w1 ⟨rfl, b⟩
    have B1 := Lib.hid b; clear b
    go_wp2_with fail
    refine (HU.out _).mono ?_
    rintro e w2 ⟨rfl, b⟩
    have B2 := Lib.hid (B1.out.trans (b.mono B1.out.size)); clear b B1
    go_wp2_with fail
    refine (exam _ (HE.out.below B2.out)).mono ?_
    rintro e w3 ⟨rfl, b⟩
    have B3 := Lib.hid (B2.out.trans (b.mono B2.out.size)); clear b B2
    go_wp2
    go_ret
    exact ⟨rfl, B3.out⟩
set_option maxRecDepth 100000 in
set_option maxHeartbeats 2000000 in
theorem lawUnquotes (s : ByteArray) (w : World) (he : Env w) (hs : s.size ≤ 9223372036854775807) : Calls Tryd.prog 7 #[.string s] w (Tt w) := by
  have HE := Lib.hid he
  have HL := Lib.hid (longP s w hs)
  by_cases h : 2000 < s.size
  · have HX := Lib.hid (exam w he)
    clear he
    rw [decide_eq_true h] at HL
    unfold Yn at HL
    go_enter Tryd.func7, Tryd.ntmps7
    go_wp2_with fail
    refine HL.out.mono ?_
    rintro e w1 ⟨rfl, rfl⟩
    go_wp2_with fail
    refine HX.out.mono ?_
    rintro e w1 ⟨rfl, h1⟩
    have H1 := Lib.hid h1; clear h1
    go_wp2
    go_ret
    exact ⟨rfl, H1.out⟩
  · clear he
    rw [decide_eq_false h] at HL
    obtain ⟨a, k, hak⟩ := uq_sk (unquoteU s.data.toList)
    have HP := Lib.hid (fun w => (unquoteP s w (by omega)).mono (fun e w' h => hak w e w' h))
    have HR := Lib.hid (fun w => (unquoteR s w (by omega)).mono (fun e w' h => hak w e w' h))
    clear hak
    unfold Yn at HL
    unfold Sk at HP HR
    go_enter Tryd.func7, Tryd.ntmps7
    go_wp2_with fail
    refine HL.out.mono ?_
    rintro e w1 ⟨rfl, rfl⟩
    go_wp2_with fail
    refine (HP.out _).mono ?_
    rintro e w1 ⟨rfl, b⟩
    have B1 := Lib.hid b; clear b
    go_wp2_with fail
    refine (HR.out _).mono ?_
    rintro e w2 ⟨rfl, b⟩
    have B2 := Lib.hid (B1.out.trans (b.mono B1.out.size)); clear b B1
    go_wp2_with fail
    refine (exam _ (HE.out.below B2.out)).mono ?_
    rintro e w3 ⟨rfl, b⟩
    have B3 := Lib.hid (B2.out.trans (b.mono B2.out.size)); clear b B2
    go_wp2
    go_ret
    exact ⟨rfl, B3.out⟩
end Go.Proofs.YtohneabalakmeaaDoor
