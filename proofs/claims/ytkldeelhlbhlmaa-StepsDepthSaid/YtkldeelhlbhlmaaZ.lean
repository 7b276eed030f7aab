/- StepsDepth, walked. -/
import Derived.Test.YtkldeelhlbhlmaaY
namespace Go.Proofs.Ytkldeelhlbhlmaa
open Go.RowKit
attribute [local irreducible] wpList Calls Code.wp depthI bT
set_option maxRecDepth 100000 in
set_option maxHeartbeats 2000000 in
theorem law5 (A : Option Addr) (c : Nat) (L : List (Int × Int)) (w : World) (h : Sp w (fun k => k < w.heap.size) A L) (hn : L.length ≤ 9223372036854775807) :
    Calls Try.prog 5 #[.slice A L.length c] w (Bo true w) := by
  by_cases h0 : L.length = 0
  · have q0 : ((L.length : Int) == 0) = true := by simp [h0]
    have H0 := Lib.hid h0; clear h0
    go_enter Try.func5, Try.ntmps5
    go_wp2_with fail
    refine (knows9 _).mono ?_
    rintro e w2 ⟨rfl, hb2⟩
    have Hb2 := Lib.hid hb2
    clear hb2
    go_wp2
    go_ret
    exact ⟨rfl, Hb2.out⟩
  have q0 : ((L.length : Int) == 0) = false := beq_false_of_ne (by omega)
  by_cases h1 : L.length ≤ 100
  · have q1 : decide ((L.length : Int) > 100) = false := decide_eq_false (by omega)
    have hB : Calls Try.prog 18 #[.slice A L.length c, .int .i64 0] w (Bu 100 (bT L 100 0) w) := build18 L A c h1 99 0 w (by omega) (by omega) h
    have hk : (bT L 100 0).list.length ≤ 100 := by
      rw [bT]
      have := kidsT_length L 0 (bT L 99) L.length
      simp only [Tree.list]; omega
    have HB := Lib.hid hB
    clear hB h
    generalize bT L 100 0 = t at *
    obtain ⟨tk, tf, tl⟩ := t
    have H17 := Lib.hid (fun A c w => depth17 100 (.node tk tf tl) A c w)
    have H19 := Lib.hid (fun A c w => depth19 100 (.node tk tf tl) A c w)
    unfold Bu tree at HB
    unfold tree at H17 H19
    simp only [Tree.kind, Tree.fetch, Tree.list] at HB H17 H19 hk
    generalize depthI (.node tk tf tl) = dd at *
    have hdd : (dd == dd) = true := by simp
    have hmx : tl.length ≤ 9223372036854775807 := by omega
    go_enter Try.func5, Try.ntmps5
    go_wp2_with fail
    refine (HB.out).mono ?_
    rintro e w2 ⟨A2, c2, A3, c3, rfl, hn2, hn3, hb2⟩
    have HN2 := Lib.hid hn2; have HN3 := Lib.hid hn3; have HB2 := Lib.hid hb2
    clear hn2 hn3 hb2
    go_upto_region 4 with (fail)
    have hx1 : ((w2.alloc (.cells #[.int .i64 tk, .int .i64 tf, .slice A2 tl.length c2] 34)).alloc (.cells #[.int .i64 tk, .int .i64 tf, .slice A3 tl.length c3] 39)).heap[w2.heap.size]? = some (.cells #[.int .i64 tk, .int .i64 tf, .slice A2 tl.length c2] 34 (0, 0)) := heap_under (heap_at rfl)
    have hx2 : ((w2.alloc (.cells #[.int .i64 tk, .int .i64 tf, .slice A2 tl.length c2] 34)).alloc (.cells #[.int .i64 tk, .int .i64 tf, .slice A3 tl.length c3] 39)).heap[w2.heap.size + 1]? = some (.cells #[.int .i64 tk, .int .i64 tf, .slice A3 tl.length c3] 39 (0, 0)) := heap_at (by simp)
    have hb3 : Below w2.heap.size w2 ((w2.alloc (.cells #[.int .i64 tk, .int .i64 tf, .slice A2 tl.length c2] 34)).alloc (.cells #[.int .i64 tk, .int .i64 tf, .slice A3 tl.length c3] 39)) := ((Below.refl _ _).alloc (Nat.le_refl _) _).alloc (by simp) _
    generalize (w2.alloc (.cells #[.int .i64 tk, .int .i64 tf, .slice A2 tl.length c2] 34)).alloc (.cells #[.int .i64 tk, .int .i64 tf, .slice A3 tl.length c3] 39) = w3 at *
    have HX1 := Lib.hid hx1; have HX2 := Lib.hid hx2
    have N2 := Lib.hid (show ∀ w', Below w3.heap.size w3 w' → Ns w' (fun k => k < w'.heap.size) 100 A2 tl from fun w' hb => (HN2.out.turn (w' := w3) (J := fun k => k < w3.heap.size) fun k hk => ⟨hb3.block k hk.2, Nat.lt_of_lt_of_le hk.2 hb3.size⟩).turn fun k hk => ⟨hb.block k hk, Nat.lt_of_lt_of_le hk hb.size⟩)
    have N3 := Lib.hid (show ∀ w', Below w3.heap.size w3 w' → Ns w' (fun k => k < w'.heap.size) 100 A3 tl from fun w' hb => (HN3.out.turn (w' := w3) (J := fun k => k < w3.heap.size) fun k hk => ⟨hb3.block k hk.2, Nat.lt_of_lt_of_le hk.2 hb3.size⟩).turn fun k hk => ⟨hb.block k hk, Nat.lt_of_lt_of_le hk hb.size⟩)
    have HB3 := Lib.hid (HB2.out.trans (hb3.mono HB2.out.size))
    have HS := Lib.hid (show ∀ w', Below w3.heap.size w3 w' → (w'.cell? ⟨w2.heap.size, 0, none⟩ = some (.int .i64 tk) ∧ w'.cell? ⟨w2.heap.size, 1, none⟩ = some (.int .i64 tf) ∧ w'.cell? ⟨w2.heap.size, 2, none⟩ = some (.slice A2 tl.length c2) ∧ w'.cell? ⟨w2.heap.size + 1, 0, none⟩ = some (.int .i64 tk) ∧ w'.cell? ⟨w2.heap.size + 1, 1, none⟩ = some (.int .i64 tf) ∧ w'.cell? ⟨w2.heap.size + 1, 2, none⟩ = some (.slice A3 tl.length c3)) from fun w' hb => by
      have y1 := (hb.block _ (heap_lt hx1)).trans hx1
      have y2 := (hb.block _ (heap_lt hx2)).trans hx2
      exact ⟨cell_heap y1 rfl, cell_heap y1 rfl, cell_heap y1 rfl, cell_heap y2 rfl, cell_heap y2 rfl, cell_heap y2 rfl⟩)
    clear hx1 hx2 hb3 HX1 HX2
    go_wp2_with fail
    go_region_held3 (fun w' => w'.cell? ⟨w2.heap.size, 0, none⟩ = some (.int .i64 tk) ∧ w'.cell? ⟨w2.heap.size, 1, none⟩ = some (.int .i64 tf) ∧ w'.cell? ⟨w2.heap.size, 2, none⟩ = some (.slice A2 tl.length c2) ∧ w'.cell? ⟨w2.heap.size + 1, 0, none⟩ = some (.int .i64 tk) ∧ w'.cell? ⟨w2.heap.size + 1, 1, none⟩ = some (.int .i64 tf) ∧ w'.cell? ⟨w2.heap.size + 1, 2, none⟩ = some (.slice A3 tl.length c3))
      (first | exact HS.out _ ((Below.refl _ _).drew) | exact HS.out _ Hc4.out | exact HS.out _ Hc5.out | exact HS.out _ Hc6.out)
      (first
        | (go_at_call 17; refine (H17.out A2 c2 _ (N2.out _ ((Below.refl _ _).drew)) hmx).mono ?_; rintro e w4 ⟨rfl, hb4⟩; have Hc4 := Lib.hid (((Below.refl w3.heap.size w3).drew).trans hb4); clear hb4)
        | (go_at_call 19; refine (H19.out A3 c3 _ (N3.out _ Hc4.out) hmx).mono ?_; rintro e w5 ⟨rfl, hb5⟩; have Hc5 := Lib.hid (Hc4.out.trans (hb5.mono Hc4.out.size)); clear hb5)
        | (go_at_call 9; refine (knows9 _).mono ?_; rintro e w6 ⟨rfl, hb6⟩; have Hc6 := Lib.hid (Hc5.out.trans (hb6.mono Hc5.out.size)); clear hb6))
    go_wp2
    go_ret
    exact ⟨rfl, HB3.out.trans (Hc6.out.mono HB3.out.size)⟩
  · have q1 : decide ((L.length : Int) > 100) = true := decide_eq_true (by omega)
    go_enter Try.func5, Try.ntmps5
    go_wp2_with fail
    refine (knows9 _).mono ?_
    rintro e w2 ⟨rfl, hb2⟩
    have Hb2 := Lib.hid hb2
    clear hb2
    go_wp2
    go_ret
    exact ⟨rfl, Hb2.out⟩
end Go.Proofs.Ytkldeelhlbhlmaa
