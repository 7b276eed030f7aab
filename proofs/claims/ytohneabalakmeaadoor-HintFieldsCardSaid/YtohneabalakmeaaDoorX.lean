/- The laws of joins and of texts. -/
import Derived.Test.YtohneabalakmeaaDoorW
namespace Go.Proofs.YtohneabalakmeaaDoor
open Go.RowKit
attribute [local irreducible] wpList Calls Code.wp
theorem ex_parse (w : World) (he : Env w) : Calls Tryd.prog 34 #[.string ⟨#[109, 97, 120, 45, 97, 103, 101, 61, 53, 44, 32, 112, 114, 105, 118, 97, 116, 101]⟩] w (Pa (5, true, 0) w) := by
  have h := parseP ⟨#[109, 97, 120, 45, 97, 103, 101, 61, 53, 44, 32, 112, 114, 105, 118, 97, 116, 101]⟩ w he (by decide)
  rwa [show parseU (⟨#[109, 97, 120, 45, 97, 103, 101, 61, 53, 44, 32, 112, 114, 105, 118, 97, 116, 101]⟩ : ByteArray).data.toList = (5, true, 0) by decide +kernel] at h
theorem ex_head (w : World) (he : Env w) : Calls Tryd.prog 32 #[.agg #[.int .i64 60, .bool false]] w (fun e w' => e = .returned (.string ⟨#[109, 97, 120, 45, 97, 103, 101, 61, 54, 48, 44, 32, 112, 117, 98, 108, 105, 99]⟩) ∧ Below w.heap.size w w') := by
  have h := headerP 60 false w he (by decide) (by decide)
  unfold St at h
  rwa [show bs (headU 60 false) = ⟨#[109, 97, 120, 45, 97, 103, 101, 61, 54, 48, 44, 32, 112, 117, 98, 108, 105, 99]⟩ by decide +kernel] at h
theorem ex_join (w : World) : Calls Tryd.prog 29 #[.agg #[.int .i64 5, .bool true], .agg #[.int .i64 60, .bool false]] w (Hi 5 true w) := joinP 5 60 true false w
set_option maxRecDepth 100000 in
set_option maxHeartbeats 4000000 in
theorem exam44 (w : World) (he : Env w) : Calls Tryd.prog 31 #[] w (Tt w) := by
  have HE := Lib.hid he
  clear he
  have HP := Lib.hid ex_parse
  have HH := Lib.hid ex_head
  have HJ := Lib.hid ex_join
  unfold Pa at HP
  unfold Hi at HJ
  go_enter Tryd.func31, Tryd.ntmps31
  go_wp2_with fail
  refine (HP.out _ HE.out).mono ?_
  rintro e w1 ⟨rfl, b⟩
  have B1 := Lib.hid b; clear b
  go_wp2_with fail
  have hb0 : Below w.heap.size w (w1.alloc (.cells #[.int .i64 5, .bool true] 33)) := B1.out.alloc B1.out.size _
  have hx0 : (w1.alloc (.cells #[.int .i64 5, .bool true] 33)).heap[w1.heap.size]? = some (.cells #[.int .i64 5, .bool true] 33 (0, 0)) := heap_at rfl
  generalize w1.alloc (.cells #[.int .i64 5, .bool true] 33) = w0 at *
  generalize w1.heap.size = B at *
  have k0 := cell_heap (o := 0) hx0 rfl
  have k1 := cell_heap (o := 1) hx0 rfl
  have hl := heap_lt hx0
  have HS := Lib.hid (fun w' (hb : Below w0.heap.size w0 w') => (⟨hb, (hb.cell (p := ⟨B, 0, none⟩) hl).trans k0, (hb.cell (p := ⟨B, 1, none⟩) hl).trans k1⟩ : Below w0.heap.size w0 w' ∧ w'.cell? ⟨B, 0, none⟩ = some (.int .i64 5) ∧ w'.cell? ⟨B, 1, none⟩ = some (.bool true)))
  have Hb0 := Lib.hid hb0
  clear hb0 hx0
  go_region_held3 (fun w' => Below w0.heap.size w0 w' ∧ w'.cell? ⟨B, 0, none⟩ = some (.int .i64 5) ∧ w'.cell? ⟨B, 1, none⟩ = some (.bool true))
    (first | exact HS.out _ ((Below.refl _ _).drew) | exact HS.out _ Hc.out)
    (first
      | (go_at_call 32; refine (HH.out _ (HE.out.below (Hb0.out.drew))).mono ?_; rintro e w2 ⟨rfl, b⟩; have Hc := Lib.hid (((Below.refl w0.heap.size w0).drew).trans b); clear b)
      | (go_at_call 29; refine (HJ.out _).mono ?_; rintro e w3 ⟨rfl, b⟩; have Hc := Lib.hid (Hc.out.trans (b.mono Hc.out.size)); clear b))
  go_wp2
  go_ret
  exact ⟨rfl, Hb0.out.trans (Hc.out.mono Hb0.out.size)⟩
set_option maxRecDepth 100000 in
set_option maxHeartbeats 4000000 in
theorem lawJoins (a b c : Int) (p q r : Bool) (w : World) (he : Env w) : Calls Tryd.prog 8 #[.agg #[.int .i64 a, .bool p], .agg #[.int .i64 b, .bool q], .agg #[.int .i64 c, .bool r]] w (Tt w) := by
  have HE := Lib.hid he
  clear he
  have J1 := Lib.hid (joinP a b p q); have J2 := Lib.hid (joinR a b p q); have J3 := Lib.hid (joinP b a q p); have J4 := Lib.hid (joinP (min a b) c (p || q) r)
  have J5 := Lib.hid (joinP b c q r); have J6 := Lib.hid (joinP a (min b c) p (q || r)); have J7 := Lib.hid (joinP a a p p)
  have HX := Lib.hid exam44
  rw [Int.min_comm b a, Bool.or_comm q p] at J3
  rw [← Int.min_assoc, ← Bool.or_assoc] at J6
  rw [Int.min_self, Bool.or_self] at J7
  unfold Hi at *
  generalize min (min a b) c = m3 at *
  generalize (p || q || r) = p3 at *
  generalize min a b = m1 at *
  generalize (p || q) = p1 at *
  generalize min b c = m2 at *
  generalize (q || r) = p2 at *
  go_enter Tryd.func8, Tryd.ntmps8
  go_wp2_with fail
  have hb0 : Below w.heap.size w (((w.alloc (.cells #[.int .i64 a, .bool p] 33)).alloc (.cells #[.int .i64 b, .bool q] 33)).alloc (.cells #[.int .i64 c, .bool r] 33)) := (((Below.refl _ _).alloc (Nat.le_refl _) _).alloc (by simp) _).alloc (by simp; omega) _
  have hx0 : (((w.alloc (.cells #[.int .i64 a, .bool p] 33)).alloc (.cells #[.int .i64 b, .bool q] 33)).alloc (.cells #[.int .i64 c, .bool r] 33)).heap[w.heap.size]? = some (.cells #[.int .i64 a, .bool p] 33 (0, 0)) := heap_under (heap_under (heap_at rfl))
  have hx1 : (((w.alloc (.cells #[.int .i64 a, .bool p] 33)).alloc (.cells #[.int .i64 b, .bool q] 33)).alloc (.cells #[.int .i64 c, .bool r] 33)).heap[w.heap.size + 1]? = some (.cells #[.int .i64 b, .bool q] 33 (0, 0)) := heap_under (heap_at (by simp))
  have hx2 : (((w.alloc (.cells #[.int .i64 a, .bool p] 33)).alloc (.cells #[.int .i64 b, .bool q] 33)).alloc (.cells #[.int .i64 c, .bool r] 33)).heap[w.heap.size + 1 + 1]? = some (.cells #[.int .i64 c, .bool r] 33 (0, 0)) := heap_at (by simp)
  generalize ((w.alloc (.cells #[.int .i64 a, .bool p] 33)).alloc (.cells #[.int .i64 b, .bool q] 33)).alloc (.cells #[.int .i64 c, .bool r] 33) = w0 at *
  have k0 := cell_heap (o := 0) hx0 rfl
  have k1 := cell_heap (o := 1) hx0 rfl
  have k2 := cell_heap (o := 0) hx1 rfl
  have k3 := cell_heap (o := 1) hx1 rfl
  have k4 := cell_heap (o := 0) hx2 rfl
  have k5 := cell_heap (o := 1) hx2 rfl
  have l0 := heap_lt hx0
  have l1 := heap_lt hx1
  have l2 := heap_lt hx2
  generalize w.heap.size + 1 + 1 = B2 at *
  generalize w.heap.size + 1 = B1 at *
  have HS := Lib.hid (fun w' (hb : Below w0.heap.size w0 w') => (⟨hb, (hb.cell (p := ⟨w.heap.size, 0, none⟩) l0).trans k0, (hb.cell (p := ⟨w.heap.size, 1, none⟩) l0).trans k1, (hb.cell (p := ⟨B1, 0, none⟩) l1).trans k2, (hb.cell (p := ⟨B1, 1, none⟩) l1).trans k3, (hb.cell (p := ⟨B2, 0, none⟩) l2).trans k4, (hb.cell (p := ⟨B2, 1, none⟩) l2).trans k5⟩ : Below w0.heap.size w0 w' ∧ w'.cell? ⟨w.heap.size, 0, none⟩ = some (.int .i64 a) ∧ w'.cell? ⟨w.heap.size, 1, none⟩ = some (.bool p) ∧ w'.cell? ⟨B1, 0, none⟩ = some (.int .i64 b) ∧ w'.cell? ⟨B1, 1, none⟩ = some (.bool q) ∧ w'.cell? ⟨B2, 0, none⟩ = some (.int .i64 c) ∧ w'.cell? ⟨B2, 1, none⟩ = some (.bool r)))
  have Hb0 := Lib.hid hb0
  have Hc := Lib.hid (Below.refl w0.heap.size w0)
  clear hb0 hx0 hx1 hx2
  go_region_held3 (fun w' => Below w0.heap.size w0 w' ∧ w'.cell? ⟨w.heap.size, 0, none⟩ = some (.int .i64 a) ∧ w'.cell? ⟨w.heap.size, 1, none⟩ = some (.bool p) ∧ w'.cell? ⟨B1, 0, none⟩ = some (.int .i64 b) ∧ w'.cell? ⟨B1, 1, none⟩ = some (.bool q) ∧ w'.cell? ⟨B2, 0, none⟩ = some (.int .i64 c) ∧ w'.cell? ⟨B2, 1, none⟩ = some (.bool r))
    (first | exact HS.out _ Hc.out.drew | exact HS.out _ Hc.out)
    (first
      | (go_at_call 29; (first | (with_reducible refine (J1.out _).mono ?_) | (with_reducible refine (J3.out _).mono ?_) | (with_reducible refine (J4.out _).mono ?_) | (with_reducible refine (J5.out _).mono ?_) | (with_reducible refine (J6.out _).mono ?_) | (with_reducible refine (J7.out _).mono ?_)); rintro e w2 ⟨rfl, b⟩; have Ho := Hc; clear Hc; (first | have Hc := Lib.hid (Ho.out.trans (b.mono Ho.out.size)) | have Hc := Lib.hid (Ho.out.drew.trans (b.mono Ho.out.drew.size))); clear b Ho)
      | (go_at_call 30; (with_reducible refine (J2.out _).mono ?_); rintro e w2 ⟨rfl, b⟩; have Ho := Hc; clear Hc; (first | have Hc := Lib.hid (Ho.out.trans (b.mono Ho.out.size)) | have Hc := Lib.hid (Ho.out.drew.trans (b.mono Ho.out.drew.size))); clear b Ho)
      | (go_at_call 31; refine (HX.out _ (HE.out.below (Hb0.out.trans (Hc.out.mono Hb0.out.size)))).mono ?_; rintro e w2 ⟨rfl, b⟩; have Ho := Hc; clear Hc; have Hc := Lib.hid (Ho.out.trans (b.mono Ho.out.size)); clear b Ho))
  go_wp2
  go_ret
  exact ⟨rfl, Hb0.out.trans (Hc.out.mono Hb0.out.size)⟩
end Go.Proofs.YtohneabalakmeaaDoor
