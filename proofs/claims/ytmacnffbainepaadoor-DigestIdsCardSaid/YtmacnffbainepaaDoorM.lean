/- The four laws, walked. -/
import Derived.Test.YtmacnffbainepaaDoorL
namespace Go.Proofs.YtmacnffbainepaaDoor
open Go.RowKit
attribute [local irreducible] ws rnds blockI wpList Calls Code.wp sumTo outTo sumI hexI msgI
theorem yes_ret (w w' : World) (hb : Below w.heap.size w w') : Yes w (.returned (.bool true)) w' := ⟨rfl, hb⟩
theorem read_below {w w' : World} {size n : Nat} {A : Option Addr} {xs : List Value} (h : Rd w (fun k => k < w.heap.size) size A n xs) (hb : Below w.heap.size w w') : Rd w' (fun k => k < w.heap.size) size A n xs := h.same (Same.below hb (fun _ h => h))
set_option maxRecDepth 100000 in
set_option maxHeartbeats 1000000 in
theorem law3 (L : List Int) (A : Option Addr) (cap : Nat) (w : World) (hr : Rd w (fun k => k < w.heap.size) 1 A L.length (ints .u8 L)) (hcap : L.length ≤ cap) (hL : L.length ≤ 9223372036854775807) (hb : Bytes L) (hk : Kk w) :
    Calls Tryd.prog 3 #[.slice A L.length cap] w (Yes w) := by
  have HK := Lib.hid hk; have HB := Lib.hid hb; have HR := Lib.hid hr
  clear hk hb hr
  by_cases hn : L.length ≤ 5000
  · have h8 := sum8 L A cap (fun k => k < w.heap.size) w (fun _ h => h) HR.out hcap (by omega) HB.out HK.out
    have H8 := Lib.hid h8; clear h8
    go_enter Tryd.func3, Tryd.ntmps3
    go_wp2_with fail
    refine H8.out.mono ?_
    intro e w1 hp
    obtain ⟨g, c, rfl, hown, hb1⟩ := hp
    have h10 := sum10 L A cap (fun k => k < w.heap.size) w1 (fun k h => Nat.lt_of_lt_of_le h hb1.size) (read_below HR.out hb1) (by omega) HB.out
    have H10 := Lib.hid h10; clear h10 H8
    have hr1 := own_read hown
    have H1 := Lib.hid hr1; clear hr1 hown
    have hb01 := hb1
    rw [sumI_length]
    rw [sumI_length] at H1
    go_wp2_with fail
    refine H10.out.mono ?_
    intro e w2 hp
    obtain ⟨g2, c2, rfl, hown2, hb2⟩ := hp
    rw [sumI_length]
    rw [sumI_length] at hown2
    have h9 := same9 (sumI L) (some ⟨g, 0, none⟩) (some ⟨g2, 0, none⟩) 32 32 c c2 _ _ w2 (sumI_length L).symm (sumI_length L).symm (read_below H1.out hb2) (own_read hown2)
    have H9 := Lib.hid h9
    have hb02 := hb1.trans (hb2.mono hb1.size)
    clear h9 hown2 hb2 hb01 hb1 H10 H1
    go_wp2_with fail
    refine H9.out.mono ?_
    rintro e w3 ⟨rfl, rfl⟩
    have h7 := example7 w2 (HK.out.below hb02 HK.out.lt)
    have H7 := Lib.hid h7
    clear h7 H9
    go_wp2_with fail
    refine H7.out.mono ?_
    intro e w3 hp
    obtain ⟨rfl, hb3⟩ := hp
    have hf := yes_ret w w3 (hb02.trans (hb3.mono hb02.size))
    clear H7 hb3 hb02
    go_wp2
    go_ret
    exact hf
  · have h7 := example7 w HK.out
    have H7 := Lib.hid h7
    clear h7
    go_enter Tryd.func3, Tryd.ntmps3
    go_wp2_with fail
    refine H7.out.mono ?_
    intro e w3 hp
    obtain ⟨rfl, hb3⟩ := hp
    have hf := yes_ret w w3 hb3
    clear H7 hb3
    go_wp2
    go_ret
    exact hf
set_option maxRecDepth 100000 in
set_option maxHeartbeats 1000000 in
theorem law5 (L : List Int) (A : Option Addr) (cap : Nat) (w : World) (hr : Rd w (fun k => k < w.heap.size) 1 A L.length (ints .u8 L)) (hL : L.length ≤ 9223372036854775807) (hb : Bytes L) (hk : Kk w) :
    Calls Tryd.prog 5 #[.slice A L.length cap] w (Yes w) := by
  have HK := Lib.hid hk; have HB := Lib.hid hb; have HR := Lib.hid hr
  clear hk hb hr
  by_cases hn : L.length ≤ 5000
  · have h8 := hex11 L A cap (fun k => k < w.heap.size) w (fun _ h => h) HR.out (by omega) HB.out
    have H8 := Lib.hid h8; clear h8
    obtain ⟨S, hS⟩ : ∃ S, S = strOfNums (hexI L) := ⟨_, rfl⟩
    have hSn : S.size = 2 * L.length := by rw [hS, strOf_length, hexI_length]
    go_enter Tryd.func5, Tryd.ntmps5
    go_wp2_with fail
    refine H8.out.mono ?_
    intro e w1 hp
    obtain ⟨rfl, hb1⟩ := hp
    have h10 := hex12 L A cap (fun k => k < w.heap.size) w1 (fun k h => Nat.lt_of_lt_of_le h hb1.size) (read_below HR.out hb1) (by omega) HB.out
    have H10 := Lib.hid h10; have HS := Lib.hid hS
    have hd : ((S.size : Int) == 2 * (L.length : Int)) = true := by rw [beq_iff_eq]; omega
    have hb01 := hb1
    clear h10 H8 hS
    rw [← HS.out]
    have hSz : S.size ≤ 10000 := by omega
    clear hSn
    go_wp2_with fail
    clear hd
    refine H10.out.mono ?_
    intro e w2 hp
    obtain ⟨rfl, hb2⟩ := hp
    rw [← HS.out]
    have hb02 := hb01.trans (hb2.mono hb01.size)
    have h7 := example7 w2 (HK.out.below hb02 HK.out.lt)
    have H7 := Lib.hid h7
    clear h7 H10 hb2 hb1 hb01 HS
    go_wp2_with fail
    refine H7.out.mono ?_
    intro e w3 hp
    obtain ⟨rfl, hb3⟩ := hp
    have hf := yes_ret w w3 (hb02.trans (hb3.mono hb02.size))
    clear H7 hb3 hb02
    go_wp2
    go_ret
    exact hf
  · have h7 := example7 w HK.out
    have H7 := Lib.hid h7
    clear h7
    go_enter Tryd.func5, Tryd.ntmps5
    go_wp2_with fail
    refine H7.out.mono ?_
    intro e w3 hp
    obtain ⟨rfl, hb3⟩ := hp
    have hf := yes_ret w w3 hb3
    clear H7 hb3
    go_wp2
    go_ret
    exact hf
set_option maxRecDepth 100000 in
set_option maxHeartbeats 1000000 in
theorem law6 (s : ByteArray) (w : World) (hL : s.size ≤ 9223372036854775807) (hk : Kk w) :
    Calls Tryd.prog 6 #[.string s] w (Yes w) := by
  have HK := Lib.hid hk
  clear hk
  by_cases hn : s.size ≤ 5000
  · have h8 := id13 s w hn HK.out
    have H8 := Lib.hid h8; clear h8
    obtain ⟨S, hS⟩ : ∃ S, S = strOfNums (hexI (sumI (numsOf s))) := ⟨_, rfl⟩
    have hSn : S.size = 64 := by rw [hS, strOf_length, hexI_length, sumI_length]
    have HS := Lib.hid hS
    clear hS
    go_enter Tryd.func6, Tryd.ntmps6
    go_wp2_with fail
    refine H8.out.mono ?_
    intro e w1 hp
    obtain ⟨rfl, hb1⟩ := hp
    have h10 := id14 s w1 hn
    have H10 := Lib.hid h10
    clear h10 H8
    rw [← HS.out]
    go_wp2_with fail
    refine H10.out.mono ?_
    intro e w2 hp
    obtain ⟨rfl, hb2⟩ := hp
    rw [← HS.out]
    have hb02 := hb1.trans (hb2.mono hb1.size)
    have hb := run_bytes_of_string (P := Tryd.prog) w2 9 22 5 s Tryd.underlying9 Tryd.underlying22 Tryd.underlying5
    clear H10 hb1 hb2
    go_wp2_with fail
    have hcap : s.size ≤ grownCap w2 s.size 0 5 := grownCap_ge w2 s.size 0 5
    have hrd := bytes_read w2 s ((bytesRow s (grownCap w2 s.size 0 5)).size, (bytesRow s (grownCap w2 s.size 0 5)).size + 1) _ hcap
    generalize hW : (w2.alloc (.cells (bytesRow s (grownCap w2 s.size 0 5)) 5 ((bytesRow s (grownCap w2 s.size 0 5)).size, (bytesRow s (grownCap w2 s.size 0 5)).size + 1))).drew = W1 at hrd ⊢
    clear hb
    have hbW : Below w2.heap.size w2 W1 := by rw [← hW]; exact ((Below.refl _ _).alloc (Nat.le_refl _) _).drew
    have hb03 := hb02.trans (hbW.mono hb02.size)
    have hs8 := sum8 (numsOf s) (some ⟨w2.heap.size, 0, none⟩) (grownCap w2 s.size 0 5) (fun k => k < W1.heap.size) W1 (fun k h => h) (by rw [numsOf_length]; exact hrd) (by rw [numsOf_length]; exact hcap) (by rw [numsOf_length]; omega) (numsOf_bytes s) (HK.out.below hb03 HK.out.lt)
    rw [numsOf_length] at hs8
    clear hW hrd hcap hbW hb02
    refine hs8.mono ?_
    intro e w4 hp
    obtain ⟨g, c, rfl, hown, hb4⟩ := hp
    have h11 := hex11 (sumI (numsOf s)) (some ⟨g, 0, none⟩) c (fun k => k < w4.heap.size) w4 (fun k h => h) (own_read hown) (by rw [sumI_length]; omega) (by unfold sumI; exact outTo_bytes _ _)
    have H11 := Lib.hid h11; have hb04 := hb03.trans (hb4.mono hb03.size)
    clear h11 hs8 hown hb4 hb03
    go_wp2_with fail
    refine H11.out.mono ?_
    intro e w5 hp
    obtain ⟨rfl, hb5⟩ := hp
    rw [← HS.out]
    have hb05 := hb04.trans (hb5.mono hb04.size)
    have h7 := example7 w5 (HK.out.below hb05 HK.out.lt)
    have H7 := Lib.hid h7
    clear h7 H11 hb5 hb04 HS
    go_wp2_with fail
    refine H7.out.mono ?_
    intro e w3 hp
    obtain ⟨rfl, hb3⟩ := hp
    have hf := yes_ret w w3 (hb05.trans (hb3.mono hb05.size))
    clear H7 hb3 hb05
    go_wp2
    go_ret
    exact hf
  · have h7 := example7 w HK.out
    have H7 := Lib.hid h7
    clear h7
    go_enter Tryd.func6, Tryd.ntmps6
    go_wp2_with fail
    refine H7.out.mono ?_
    intro e w3 hp
    obtain ⟨rfl, hb3⟩ := hp
    have hf := yes_ret w w3 hb3
    clear H7 hb3
    go_wp2
    go_ret
    exact hf
end Go.Proofs.YtmacnffbainepaaDoor
