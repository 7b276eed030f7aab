/- The law of a hint's texts. -/
import Derived.Test.YtohneabalakmeaaDoorX
namespace Go.Proofs.YtohneabalakmeaaDoor
open Go.RowKit
attribute [local irreducible] wpList Calls Code.wp
theorem itoa_app_pre {l suf : List UInt8} {v : Int} (h1 : Lib.hasPrefix l preH = true) (h2 : Lib.hasSuffix (l.drop 8) suf = true) (h3 : Lib.itoa v = (l.drop 8).take ((l.drop 8).length - suf.length)) : preH ++ Lib.itoa v ++ suf = l := by
  obtain ⟨a, ha⟩ := List.isPrefixOf_iff_prefix.1 h1
  obtain ⟨b, hb⟩ := List.isSuffixOf_iff_suffix.1 h2
  have e : l.drop 8 = a := by rw [← ha]; rfl
  rw [h3, ← hb, List.length_append, Nat.add_sub_cancel, List.take_left, List.append_assoc, hb, e, ha]
/-- what is read is written as it was -/
theorem head_parse {l : List UInt8} {v : Int} {p : Bool} (h : parseU l = (v, p, 0)) : headU v p = l ∧ -9223372036854775808 ≤ v ∧ v ≤ 9223372036854775807 := by
  unfold parseU at h
  by_cases h0 : l = noH
  · rw [if_pos h0] at h
    simp only [Prod.mk.injEq] at h
    obtain ⟨rfl, rfl, _⟩ := h
    rw [h0]; exact ⟨by decide, by decide, by decide⟩
  rw [if_neg h0] at h
  by_cases h1 : Lib.hasPrefix l preH = false
  · rw [if_pos h1] at h; simp at h
  rw [if_neg h1] at h
  have h1 : Lib.hasPrefix l preH = true := by simpa using h1
  have age : ∀ {t : List UInt8} {q : Bool}, ageH t q = (v, p, 0) → numU t = .ok v ∧ ¬ v < 1 ∧ q = p := fun {t q} h => by
    unfold ageH at h
    cases hn : numU t with
    | ok x =>
      rw [hn] at h
      by_cases hx : x < 1
      · simp [hx] at h
      · simp only [hx, if_false, Prod.mk.injEq] at h
        obtain ⟨rfl, rfl, _⟩ := h
        exact ⟨rfl, hx, rfl⟩
    | range => rw [hn] at h; simp at h
    | _ => rw [hn] at h; simp at h
  by_cases h2 : Lib.hasSuffix (l.drop 8) priH = true
  · rw [if_pos h2] at h
    obtain ⟨a1, a2, rfl⟩ := age h
    have hi := itoa_num a1
    refine ⟨?_, hi.2⟩
    unfold headU
    rw [if_neg a2]
    exact itoa_app_pre h1 h2 hi.1
  rw [if_neg h2] at h
  by_cases h3 : Lib.hasSuffix (l.drop 8) pubH = true
  · rw [if_pos h3] at h
    obtain ⟨a1, a2, rfl⟩ := age h
    have hi := itoa_num a1
    refine ⟨?_, hi.2⟩
    unfold headU
    rw [if_neg a2]
    exact itoa_app_pre h1 h3 hi.1
  rw [if_neg h3] at h
  simp at h
theorem head_size (n : Int) (p : Bool) (h0 : -9223372036854775808 ≤ n) (h1 : n ≤ 9223372036854775807) : (bs (headU n p)).size ≤ 100 := by
  have h := itoa_size n h0 h1
  rw [bs_size] at h ⊢
  unfold headU
  split
  · simp
  · cases p <;> simp <;> omega
set_option maxRecDepth 100000 in
set_option maxHeartbeats 4000000 in
theorem lawTexts (n : Int) (p : Bool) (s : ByteArray) (w : World) (he : Env w) (h0 : -9223372036854775808 ≤ n) (h1 : n ≤ 9223372036854775807) (hs : s.size ≤ 9223372036854775807) : Calls Tryd.prog 9 #[.agg #[.int .i64 n, .bool p], .string s] w (Tt w) := by
  have HE := Lib.hid he
  clear he
  have HX := Lib.hid exam44
  by_cases hz : 200 < s.size
  · have d1 : decide ((s.size : Int) > 200) = true := decide_eq_true (by omega)
    have Hb := Lib.hid ((Below.refl w.heap.size w).alloc (Nat.le_refl _) (.cells #[.int .i64 n, .bool p] 33))
    go_enter Tryd.func9, Tryd.ntmps9
    go_wp2_with fail
    refine (HX.out _ (HE.out.below Hb.out)).mono ?_
    rintro e w2 ⟨rfl, b⟩
    have B2 := Lib.hid (Hb.out.trans (b.mono Hb.out.size)); clear b
    go_wp2
    go_ret
    exact ⟨rfl, B2.out⟩
  have d1 : decide ((s.size : Int) > 200) = false := decide_eq_false (by omega)
  have P1 := Lib.hid (fun w he => headerP n p w he h0 h1)
  have P2 := Lib.hid (fun w => headerR n p w h0 h1)
  have hhs := head_size n p h0 h1
  have P3 := Lib.hid (fun w he => parseP (bs (headU n p)) w he (by omega))
  rw [bs_data, parse_head n p h0 h1] at P3
  unfold St at P1 P2
  unfold Pa at P3
  generalize bs (headU n p) = t at *
  clear hhs
  have P4 := Lib.hid (fun w he => parseP s w he (by omega))
  have P5 := Lib.hid (fun w => parseR s w (by omega))
  have P6 := Lib.hid (fun v p (h : parseU s.data.toList = (v, p, 0)) => head_parse h)
  unfold Pa at P4 P5
  generalize parseU s.data.toList = r at *
  obtain ⟨v, q, k⟩ := r
  have HF0 := Lib.hid (fun (hk : k = 0) (w : World) he => (headerP v q w he (P6.out v q (by rw [hk])).2.1 (P6.out v q (by rw [hk])).2.2).mono fun e w' (h : St (headU v q) w e w') => (show e = .returned (.string s) ∧ Below w.heap.size w w' from by
    obtain ⟨h3, h4⟩ := h
    rw [(P6.out v q (by rw [hk])).1, bs_self] at h3
    exact ⟨h3, h4⟩))
  have Hb := Lib.hid ((Below.refl w.heap.size w).alloc (Nat.le_refl _) (.cells #[.int .i64 n, .bool p] 33))
  go_enter Tryd.func9, Tryd.ntmps9
  go_wp2_with fail
  refine (P1.out _ (HE.out.below Hb.out)).mono ?_
  rintro e w1 ⟨rfl, b⟩
  have X1 := Lib.hid ((b.block _ (by simp)).trans (heap_at (o := .cells #[.int .i64 n, .bool p] 33) rfl))
  have B1 := Lib.hid (Hb.out.trans (b.mono Hb.out.size)); clear b
  have k0 := cell_heap (o := 0) X1.out rfl
  have k1 := cell_heap (o := 1) X1.out rfl
  go_wp2_with fail
  refine (P2.out _).mono ?_
  rintro e w2 ⟨rfl, b⟩
  have X2 := Lib.hid ((b.block _ (heap_lt X1.out)).trans X1.out)
  have B2 := Lib.hid (B1.out.trans (b.mono B1.out.size)); clear b k0 k1
  have k0 := cell_heap (o := 0) X2.out rfl
  have k1 := cell_heap (o := 1) X2.out rfl
  go_wp2_with fail
  refine (P3.out _ (HE.out.below B2.out)).mono ?_
  rintro e w3 ⟨rfl, b⟩
  have X3 := Lib.hid ((b.block _ (heap_lt X2.out)).trans X2.out)
  have B3 := Lib.hid (B2.out.trans (b.mono B2.out.size)); clear b k0 k1
  have k0 := cell_heap (o := 0) X3.out rfl
  have k1 := cell_heap (o := 1) X3.out rfl
  have hl := heap_lt X3.out
  have hsp : (n < 1 ∧ (if n < 1 then ((0, false, 0) : Int × Bool × Int) else (n, p, 0)) = (0, false, 0)) ∨ (¬ n < 1 ∧ (if n < 1 then ((0, false, 0) : Int × Bool × Int) else (n, p, 0)) = (n, p, 0)) := by
    by_cases hn : n < 1
    · exact .inl ⟨hn, if_pos hn⟩
    · exact .inr ⟨hn, if_neg hn⟩
  rcases hsp with ⟨hn, hq⟩ | ⟨hn, hq⟩
  all_goals
    rw [hq]
    clear hq
    go_wp2_with fail
    refine (P4.out _ (HE.out.below (B3.out.alloc B3.out.size _))).mono ?_
    rintro e w4 ⟨rfl, b⟩
    have B4 := Lib.hid ((B3.out.alloc B3.out.size _).trans (b.mono (by simp; omega))); clear b
    go_wp2_with fail
    refine (P5.out _).mono ?_
    rintro e w5 ⟨rfl, b⟩
    have X5 := Lib.hid ((b.block w4.heap.size (by simp)).trans (heap_at (o := .cells #[.int .i64 v, .bool q] 33) rfl))
    have B5 := Lib.hid ((B4.out.alloc B4.out.size _).trans (b.mono (by have := B4.out.size; simp; omega))); clear b
    clear k0 k1 hl
    have k0 := cell_heap (o := 0) X5.out rfl
    have k1 := cell_heap (o := 1) X5.out rfl
    have hl := heap_lt X5.out
    by_cases hk : k = 0
    · have HF := Lib.hid (HF0.out hk)
      go_wp2_with fail
      refine (HF.out _ (HE.out.below (B5.out.alloc B5.out.size _))).mono ?_
      rintro e w6 ⟨rfl, b⟩
      have B6 := Lib.hid ((B5.out.alloc B5.out.size (.cells #[.int .i64 v, .bool q] 33)).trans (b.mono (by have := B5.out.size; simp; omega))); clear b
      have qs : (s.toList == s.toList) = true := beq_iff_eq.2 rfl
      go_wp2_with fail
      refine (HX.out _ (HE.out.below B6.out)).mono ?_
      rintro e w7 ⟨rfl, b⟩
      have B7 := Lib.hid (B6.out.trans (b.mono B6.out.size)); clear b
      go_wp2
      go_ret
      exact ⟨rfl, B7.out⟩
    · go_wp2_with fail
      refine (HX.out _ (HE.out.below (B5.out.alloc B5.out.size _))).mono ?_
      rintro e w6 ⟨rfl, b⟩
      have B6 := Lib.hid ((B5.out.alloc B5.out.size (.cells #[.int .i64 v, .bool q] 33)).trans (b.mono (by have := B5.out.size; simp; omega))); clear b
      go_wp2
      go_ret
      exact ⟨rfl, B6.out⟩
end Go.Proofs.YtohneabalakmeaaDoor
