/- The law on lengths, walked. -/
import Derived.Test.YtmacnffbainepaaDoorM
namespace Go.Proofs.YtmacnffbainepaaDoor
open Go.RowKit
attribute [local irreducible] ws rnds blockI wpList Calls Code.wp sumTo outTo sumI hexI msgI
/-- the list, k times -/
def repTo (L : List Int) : Nat → List Int
  | 0 => []
  | k + 1 => repTo L k ++ L
theorem repTo_length (L : List Int) (k : Nat) : (repTo L k).length = k * L.length := by
  induction k with
  | zero => simp [repTo]
  | succ k ih => simp [repTo, ih, Nat.succ_mul]
theorem repTo_bytes (L : List Int) (h : Bytes L) (k : Nat) : Bytes (repTo L k) := by
  induction k with
  | zero => intro x hx; cases hx
  | succ k ih =>
    intro x hx
    rcases List.mem_append.1 hx with hx | hx
    · exact ih x hx
    · exact h x hx
theorem own_read_any {w : World} {base n : Nat} {e : TypeId} {size : Nat} {v : Value} {xs : List Value} (h : w.ownsRow base e size v n xs) : ∃ A c, v = .slice A n c ∧ n ≤ c ∧ Rd w (fun k => k < w.heap.size) size A n xs := by
  have hh := h
  rcases h.2 with ⟨rfl, rfl⟩ | ⟨g, cap, cur, rfl, hb, hg, hnc, r⟩
  · exact ⟨none, 0, rfl, Nat.le_refl _, h.1, fun h0 => absurd h0 (by omega)⟩
  · exact ⟨_, cap, rfl, hnc, own_read hh⟩
set_option maxRecDepth 100000 in
set_option maxHeartbeats 1000000 in
theorem law4_no (L : List Int) (A : Option Addr) (cap : Nat) (t : Int) (w : World) (hL : L.length ≤ 9223372036854775807) (hk : Kk w) (hc : L.length < 1 ∨ (1 ≤ L.length ∧ 20 < L.length) ∨ (1 ≤ L.length ∧ L.length ≤ 20 ∧ t < 0) ∨ (1 ≤ L.length ∧ L.length ≤ 20 ∧ 0 ≤ t ∧ 200 < t)) :
    Calls Tryd.prog 4 #[.slice A L.length cap, .int .i64 t] w (Yes w) := by
  have h7 := example7 w hk
  have H7 := Lib.hid h7
  clear h7 hk
  rcases hc with hc | ⟨h1, h2⟩ | ⟨h1, h2, h3⟩ | ⟨h1, h2, h3, h4⟩
  all_goals
    go_enter Tryd.func4, Tryd.ntmps4
    go_wp2_with fail
    refine H7.out.mono ?_
    intro e w3 hp
    obtain ⟨rfl, hb3⟩ := hp
    have hf := yes_ret w w3 hb3
    clear H7 hb3
    go_wp2
    go_ret
    exact hf
set_option maxRecDepth 100000 in
set_option maxHeartbeats 1000000 in
theorem law4_yes (L : List Int) (A : Option Addr) (cap : Nat) (t : Int) (w : World) (hr : Rd w (fun k => k < w.heap.size) 1 A L.length (ints .u8 L)) (hb : Bytes L) (hk : Kk w) (h1 : 1 ≤ L.length) (h2 : L.length ≤ 20) (h3 : 0 ≤ t) (h4 : t ≤ 200) :
    Calls Tryd.prog 4 #[.slice A L.length cap, .int .i64 t] w (Yes w) := by
  have HK := Lib.hid hk; have HB := Lib.hid hb; have HR := Lib.hid hr
  clear hk hb hr
  obtain ⟨T, rfl⟩ := Int.eq_ofNat_of_zero_le h3
  have hT : T ≤ 200 := by omega
  have hone : ∀ u ∈ ints .u8 L, u.oneCell' = true := fun u hu => by
    obtain ⟨x, _, rfl⟩ := List.mem_map.1 hu; rfl
  have HO := Lib.hid hone; clear hone
  obtain ⟨n, hn⟩ : ∃ n, n = L.length := ⟨_, rfl⟩
  rw [← hn] at HR h1 h2 ⊢
  have Hn := Lib.hid hn
  clear hn
  go_enter Tryd.func4, Tryd.ntmps4
  go_wp2_with fail
  go_loopg [5, 6] T (fun j v i wr => ∃ m : Nat, m + j = T ∧ i = .int .i64 m ∧ (∃ A c, v = .slice A (m * n) c) ∧ wr.ownsRow w.heap.size 5 1 v (m * n) (ints .u8 (repTo L m)) ∧ Below w.heap.size w wr)
  case atStart => exact ⟨0, by omega, rfl, ⟨none, 0, by rw [Nat.zero_mul]⟩, by rw [Nat.zero_mul]; exact World.ownsRow_nil _ _ _ _, Below.refl _ _⟩
  case round =>
    obtain ⟨m, hmj, rfl, ⟨A5, c5, rfl⟩, hown, hb⟩ := hrel
    have Hmj := Lib.hid hmj; have hmT : m ≤ T := by omega
    clear hmj
    have hmn : m * n ≤ 4000 := Nat.le_trans (Nat.mul_le_mul (show m ≤ 200 by omega) h2) (by omega)
    by_cases hlt : m < T
    · go_wp2_with (at_builtin; refine append_read (o := ⟨some 31, _, _, _, _, _⟩) rfl (.tmp 29) (.tmp 30) 22 rfl w.heap.size 5 _ 1 1 Tryd.underlying22 u8info rfl (by decide) _ _ _ hown A n cap (ints .u8 L) _ (read_below HR.out hb) HO.out rfl rfl (by simp only [maxLen]; omega) (by omega) hb.size ?_; intro v' w' hown' hg' hat' hsh')
      go_roundg (gk - 1)
      case measure => have := Hmj.out; omega
      case rel =>
        have e1 : m * n + n = (m + 1) * n := by rw [Nat.succ_mul]
        rw [e1] at hown' hsh'
        obtain ⟨A', c', rfl, _⟩ := own_read_any hown'
        refine ⟨m + 1, by have := Hmj.out; omega, by go_num, ⟨_, _, rfl⟩, ?_, hb.grown hg' hb.size (fun y hy => (hown.lt y hy).1)⟩
        show World.ownsRow _ _ _ _ _ _ (ints .u8 (repTo L m ++ L))
        rw [ints_append]
        exact hown'
    · have hmT' : m = T := by omega
      obtain ⟨A', c', hv, hnc, hrd⟩ := own_read_any hown
      simp only [Value.slice.injEq, true_and] at hv
      obtain ⟨rfl, rfl⟩ := hv
      have hlen : (repTo L m).length = m * n := by rw [repTo_length, Hn.out]
      obtain ⟨N, hN⟩ : ∃ N, N = m * n := ⟨_, rfl⟩
      obtain ⟨R, hR⟩ : ∃ R, R = repTo L m := ⟨_, rfl⟩
      have hRb : Bytes R := by rw [hR]; exact repTo_bytes L HB.out m
      rw [← hR, ← hN] at hlen hrd
      rw [← hN] at hnc hmn
      rw [← hlen] at hnc hrd hmn
      have hb1 := sum8 R A5 c5 (fun k => k < wr.heap.size) wr (fun _ h => h) hrd hnc (by omega) hRb (HK.out.below hb HK.out.lt)
      have HS8 := Lib.hid hb1; have HRd := Lib.hid hrd; have HRb := Lib.hid hRb
      rw [← hN, ← hlen]
      clear hb1 hrd hRb hlen hN hR hown hmT'
      have hbw := hb
      clear hb
      go_wp2_with fail
      refine HS8.out.mono ?_
      intro e w1 hp
      obtain ⟨g, c, rfl, hown, hb1⟩ := hp
      have h10 := sum10 R A5 c5 (fun k => k < wr.heap.size) w1 (fun k h => Nat.lt_of_lt_of_le h hb1.size) (read_below HRd.out hb1) (by omega) HRb.out
      have H10 := Lib.hid h10; clear h10 HS8
      have H1 := Lib.hid (own_read hown); clear hown
      have hb01 := hbw.trans (hb1.mono hbw.size)
      clear hb1 hbw
      rw [sumI_length]
      rw [sumI_length] at H1
      go_wp2_with fail
      refine H10.out.mono ?_
      intro e w2 hp
      obtain ⟨g2, c2, rfl, hown2, hb2⟩ := hp
      rw [sumI_length]
      rw [sumI_length] at hown2
      have h9 := same9 (sumI R) (some ⟨g, 0, none⟩) (some ⟨g2, 0, none⟩) 32 32 c c2 _ _ w2 (sumI_length R).symm (sumI_length R).symm (read_below H1.out hb2) (own_read hown2)
      have H9 := Lib.hid h9
      have hb02 := hb01.trans (hb2.mono hb01.size)
      clear h9 hown2 hb2 hb01 H10 H1
      go_wp2_with fail
      refine H9.out.mono ?_
      rintro e w3 ⟨rfl, rfl⟩
      have h7 := example7 w2 (HK.out.below hb02 HK.out.lt)
      have H7 := Lib.hid h7
      clear h7 H9
      go_wp2_with fail
      refine H7.out.mono ?_
      intro e w3 hp
      obtain ⟨rfl, hb3⟩ := hp
      have hf := yes_ret w w3 (hb02.trans (hb3.mono hb02.size))
      clear H7 hb3 hb02
      go_wp2
      go_ret
      exact hf
theorem law4 (L : List Int) (A : Option Addr) (cap : Nat) (t : Int) (w : World) (hr : Rd w (fun k => k < w.heap.size) 1 A L.length (ints .u8 L)) (hL : L.length ≤ 9223372036854775807) (hb : Bytes L) (hk : Kk w) :
    Calls Tryd.prog 4 #[.slice A L.length cap, .int .i64 t] w (Yes w) := by
  by_cases h : 1 ≤ L.length ∧ L.length ≤ 20 ∧ 0 ≤ t ∧ t ≤ 200
  · exact law4_yes L A cap t w hr hb hk h.1 h.2.1 h.2.2.1 h.2.2.2
  · exact law4_no L A cap t w hL hk (by omega)
end Go.Proofs.YtmacnffbainepaaDoor
