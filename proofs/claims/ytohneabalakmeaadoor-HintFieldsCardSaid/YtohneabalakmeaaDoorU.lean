/- A hint read, in the program's text. -/
import Derived.Test.YtohneabalakmeaaDoorT
namespace Go.Proofs.YtohneabalakmeaaDoor
open Go.RowKit
attribute [local irreducible] wpList Calls Code.wp
/-- a hint and an error's number come back -/
def Pa (r : Int × Bool × Int) (w : World) (e : Ending) (w' : World) : Prop := e = .returned (.tuple #[.agg #[.int .i64 r.1, .bool r.2.1], .int .i64 r.2.2]) ∧ Below w.heap.size w w'
theorem bs_eq {s : ByteArray} {l : List UInt8} (h : s.data.toList = l) : s = bs l := by rw [← h, bs_self]
theorem heap_lt {w : World} {b : Nat} {o : Obj} (h : w.heap[b]? = some o) : b < w.heap.size := by
  rcases Nat.lt_or_ge b w.heap.size with h' | h'
  · exact h'
  · rw [Array.getElem?_eq_none h'] at h; cases h
theorem cell_heap {w : World} {b o : Nat} {cs : Array Value} {t : TypeId} {fz : Nat × Nat} {x : Value} (h : w.heap[b]? = some (.cells cs t fz)) (hx : cs[o]? = some x) : w.cell? ⟨b, o, none⟩ = some x := by
  rw [cell_of_row w b o cs t fz h]; exact hx
theorem frozen_heap {w : World} {b o : Nat} {cs : Array Value} {t : TypeId} (h : w.heap[b]? = some (.cells cs t (0, 0))) : w.frozen? ⟨b, o, none⟩ = false := by
  simp [World.frozen?, h]
theorem trim_pre {l p : List UInt8} (h : Lib.hasPrefix l p = true) : Lib.trimPrefix l p = l.drop p.length := by
  unfold Lib.trimPrefix; rw [if_pos h]
theorem trim_suf {l p : List UInt8} {n : Nat} (h : Lib.hasSuffix l p = true) (hn : p.length = n) : Lib.trimSuffix l p = l.take (l.length - n) := by
  unfold Lib.trimSuffix; rw [if_pos h, hn]
theorem trim_not {l p : List UInt8} (h : Lib.hasSuffix l p = false) : Lib.trimSuffix l p = l := by
  unfold Lib.trimSuffix; rw [if_neg (by rw [h]; simp)]
theorem trim_pre_not {l p : List UInt8} (h : Lib.hasPrefix l p = false) : Lib.trimPrefix l p = l := by
  unfold Lib.trimPrefix; rw [if_neg (by rw [h]; simp)]
theorem cut_pre (s : ByteArray) (w : World) (l : List UInt8) (b : Bool) (h1 : Lib.trimPrefix s.data.toList preH = l) (h2 : Lib.hasPrefix s.data.toList preH = b) :
    Calls Tryd.prog 67 #[.string s, .string ⟨#[109, 97, 120, 45, 97, 103, 101, 61]⟩] w (fun e w' => e = .returned (.tuple #[.string (bs l), .bool b]) ∧ w = w') :=
  (Tryd.strings_CutPrefix s ⟨#[109, 97, 120, 45, 97, 103, 101, 61]⟩ w).mono fun e w' h => ⟨by rw [h.1, ← h1, ← h2]; rfl, h.2.symm⟩
theorem cut_pri (s : ByteArray) (w : World) (hs : s.size ≤ 9223372036854775807) (l : List UInt8) (b : Bool) (h1 : Lib.trimSuffix s.data.toList priH = l) (h2 : Lib.hasSuffix s.data.toList priH = b) :
    Calls Tryd.prog 68 #[.string s, .string ⟨#[44, 32, 112, 114, 105, 118, 97, 116, 101]⟩] w (fun e w' => e = .returned (.tuple #[.string (bs l), .bool b]) ∧ w = w') :=
  (Tryd.strings_CutSuffix s ⟨#[44, 32, 112, 114, 105, 118, 97, 116, 101]⟩ w hs).mono fun e w' h => ⟨by rw [h.1, ← h1, ← h2]; rfl, h.2.symm⟩
theorem cut_pub (s : ByteArray) (w : World) (hs : s.size ≤ 9223372036854775807) (l : List UInt8) (b : Bool) (h1 : Lib.trimSuffix s.data.toList pubH = l) (h2 : Lib.hasSuffix s.data.toList pubH = b) :
    Calls Tryd.prog 68 #[.string s, .string ⟨#[44, 32, 112, 117, 98, 108, 105, 99]⟩] w (fun e w' => e = .returned (.tuple #[.string (bs l), .bool b]) ∧ w = w') :=
  (Tryd.strings_CutSuffix s ⟨#[44, 32, 112, 117, 98, 108, 105, 99]⟩ w hs).mono fun e w' h => ⟨by rw [h.1, ← h1, ← h2]; rfl, h.2.symm⟩
/-- how an age's number comes back, and what follows -/
theorem age_cases (l : List UInt8) (p : Bool) : ∃ v k : Int, numT (numU l) = .tuple #[.int .i64 v, .int .i64 k] ∧ (k = 3 ∧ ageH l p = (0, false, 3) ∨ k = 4 ∧ ageH l p = (0, false, 4) ∨ k = 0 ∧ v < 1 ∧ ageH l p = (0, false, 3) ∨ k = 0 ∧ ¬ v < 1 ∧ ageH l p = (v, p, 0)) := by
  unfold ageH
  cases numU l with
  | ok v =>
    refine ⟨v, 0, rfl, ?_⟩
    by_cases hv : v < 1
    · exact .inr (.inr (.inl ⟨rfl, hv, if_pos hv⟩))
    · exact .inr (.inr (.inr ⟨rfl, hv, if_neg hv⟩))
  | range => exact ⟨0, 4, rfl, .inr (.inl ⟨rfl, rfl⟩)⟩
  | _ => exact ⟨0, 3, rfl, .inl ⟨rfl, rfl⟩⟩
set_option maxRecDepth 100000 in
set_option maxHeartbeats 4000000 in
theorem parseP_no (w : World) : Calls Tryd.prog 34 #[.string ⟨#[110, 111, 45, 115, 116, 111, 114, 101]⟩] w (Pa (0, false, 0) w) := by
  go_enter Tryd.func34, Tryd.ntmps34
  go_wp2
  exact bodyPost_ret (v := .tuple #[.agg #[.int .i64 0, .bool false], .int .i64 0]) (by simp [results, Tryd.results34, go_sem]) rfl ⟨rfl, (Below.refl _ _).alloc (Nat.le_refl _) _⟩
set_option maxRecDepth 100000 in
set_option maxHeartbeats 4000000 in
theorem parseP_pri (s q t : ByteArray) (w : World) (he : Env w) (hs : s.size ≤ 9223372036854775807) (q0 : (s.toList == [110, 111, 45, 115, 116, 111, 114, 101]) = false) (v k : Int) (r : Int × Bool × Int)
    (hc : ∀ w, Calls Tryd.prog 67 #[.string s, .string ⟨#[109, 97, 120, 45, 97, 103, 101, 61]⟩] w (fun e w' => e = .returned (.tuple #[.string q, .bool true]) ∧ w = w'))
    (h1 : ∀ w, Calls Tryd.prog 68 #[.string q, .string ⟨#[44, 32, 112, 114, 105, 118, 97, 116, 101]⟩] w (fun e w' => e = .returned (.tuple #[.string t, .bool true]) ∧ w = w'))
    (hn : ∀ w, Env w → Calls Tryd.prog 19 #[.string t] w fun e w' => e = .returned (.tuple #[.int .i64 v, .int .i64 k]) ∧ Below w.heap.size w w')
    (hr : k = 3 ∧ r = (0, false, 3) ∨ k = 4 ∧ r = (0, false, 4) ∨ k = 0 ∧ v < 1 ∧ r = (0, false, 3) ∨ k = 0 ∧ ¬ v < 1 ∧ r = (v, true, 0)) :
    Calls Tryd.prog 34 #[.string s] w (Pa r w) := by
  have hb : Below w.heap.size w (w.alloc (.cells #[.int .i64 0, .bool false] 33)) := (Below.refl _ _).alloc (Nat.le_refl _) _
  have Hb := Lib.hid hb
  have HE := Lib.hid (he.below hb)
  clear hb he
  have HC := Lib.hid hc; have HN := Lib.hid hn; have H1 := Lib.hid h1
  clear hc hn h1
  rcases hr with ⟨rfl, rfl⟩ | ⟨rfl, rfl⟩ | ⟨rfl, hv, rfl⟩ | ⟨rfl, hv, rfl⟩
  all_goals
    go_enter Tryd.func34, Tryd.ntmps34
    go_wp2_with fail
    refine (HC.out _).mono ?_
    rintro e w2 ⟨rfl, rfl⟩
    go_wp2_with fail
    refine (H1.out _).mono ?_
    rintro e w2 ⟨rfl, rfl⟩
    go_wp2_with fail
    refine (HN.out _ HE.out).mono ?_
    rintro e w2 ⟨rfl, b⟩
    have B2 := Lib.hid (Hb.out.trans (b.mono Hb.out.size))
    have Hx := Lib.hid ((b.block w.heap.size (by simp)).trans (heap_at (o := .cells #[.int .i64 0, .bool false] 33) rfl))
    have c0 := cell_heap (o := 0) Hx.out rfl
    have c1 := cell_heap (o := 1) Hx.out rfl
    have f0 := frozen_heap (o := 0) Hx.out
    have f1 := frozen_heap (o := 1) Hx.out
    have hl := heap_lt Hx.out
    clear b
    go_wp2
    first
      | exact bodyPost_ret (v := .tuple #[.agg #[.int .i64 0, .bool false], .int .i64 3]) (by simp [results, Tryd.results34, go_sem, c0, c1, hl]) rfl ⟨rfl, (B2.out.setCell (Nat.le_refl _) _).setCell (Nat.le_refl _) _⟩
      | exact bodyPost_ret (v := .tuple #[.agg #[.int .i64 0, .bool false], .int .i64 4]) (by simp [results, Tryd.results34, go_sem, c0, c1, hl]) rfl ⟨rfl, (B2.out.setCell (Nat.le_refl _) _).setCell (Nat.le_refl _) _⟩
      | exact bodyPost_ret (v := .tuple #[.agg #[.int .i64 v, .bool true], .int .i64 0]) (by simp [results, Tryd.results34, go_sem, c0, c1, hl]) rfl ⟨rfl, (B2.out.setCell (Nat.le_refl _) _).setCell (Nat.le_refl _) _⟩
set_option maxRecDepth 100000 in
set_option maxHeartbeats 4000000 in
theorem parseP_pub (s q t : ByteArray) (w : World) (he : Env w) (hs : s.size ≤ 9223372036854775807) (q0 : (s.toList == [110, 111, 45, 115, 116, 111, 114, 101]) = false) (v k : Int) (r : Int × Bool × Int)
    (hc : ∀ w, Calls Tryd.prog 67 #[.string s, .string ⟨#[109, 97, 120, 45, 97, 103, 101, 61]⟩] w (fun e w' => e = .returned (.tuple #[.string q, .bool true]) ∧ w = w'))
    (h1 : ∀ w, Calls Tryd.prog 68 #[.string q, .string ⟨#[44, 32, 112, 114, 105, 118, 97, 116, 101]⟩] w (fun e w' => e = .returned (.tuple #[.string q, .bool false]) ∧ w = w'))
    (h2 : ∀ w, Calls Tryd.prog 68 #[.string q, .string ⟨#[44, 32, 112, 117, 98, 108, 105, 99]⟩] w (fun e w' => e = .returned (.tuple #[.string t, .bool true]) ∧ w = w'))
    (hn : ∀ w, Env w → Calls Tryd.prog 19 #[.string t] w fun e w' => e = .returned (.tuple #[.int .i64 v, .int .i64 k]) ∧ Below w.heap.size w w')
    (hr : k = 3 ∧ r = (0, false, 3) ∨ k = 4 ∧ r = (0, false, 4) ∨ k = 0 ∧ v < 1 ∧ r = (0, false, 3) ∨ k = 0 ∧ ¬ v < 1 ∧ r = (v, false, 0)) :
    Calls Tryd.prog 34 #[.string s] w (Pa r w) := by
  have hb : Below w.heap.size w (w.alloc (.cells #[.int .i64 0, .bool false] 33)) := (Below.refl _ _).alloc (Nat.le_refl _) _
  have Hb := Lib.hid hb
  have HE := Lib.hid (he.below hb)
  clear hb he
  have HC := Lib.hid hc; have HN := Lib.hid hn; have H1 := Lib.hid h1; have H2 := Lib.hid h2
  clear hc hn h1 h2
  rcases hr with ⟨rfl, rfl⟩ | ⟨rfl, rfl⟩ | ⟨rfl, hv, rfl⟩ | ⟨rfl, hv, rfl⟩
  all_goals
    go_enter Tryd.func34, Tryd.ntmps34
    go_wp2_with fail
    refine (HC.out _).mono ?_
    rintro e w2 ⟨rfl, rfl⟩
    go_wp2_with fail
    refine (H1.out _).mono ?_
    rintro e w2 ⟨rfl, rfl⟩
    go_wp2_with fail
    refine (H2.out _).mono ?_
    rintro e w2 ⟨rfl, rfl⟩
    go_wp2_with fail
    refine (HN.out _ HE.out).mono ?_
    rintro e w2 ⟨rfl, b⟩
    have B2 := Lib.hid (Hb.out.trans (b.mono Hb.out.size))
    have Hx := Lib.hid ((b.block w.heap.size (by simp)).trans (heap_at (o := .cells #[.int .i64 0, .bool false] 33) rfl))
    have c0 := cell_heap (o := 0) Hx.out rfl
    have c1 := cell_heap (o := 1) Hx.out rfl
    have f0 := frozen_heap (o := 0) Hx.out
    have f1 := frozen_heap (o := 1) Hx.out
    have hl := heap_lt Hx.out
    clear b
    go_wp2
    first
      | exact bodyPost_ret (v := .tuple #[.agg #[.int .i64 0, .bool false], .int .i64 3]) (by simp [results, Tryd.results34, go_sem, c0, c1, hl]) rfl ⟨rfl, (B2.out.setCell (Nat.le_refl _) _).setCell (Nat.le_refl _) _⟩
      | exact bodyPost_ret (v := .tuple #[.agg #[.int .i64 0, .bool false], .int .i64 4]) (by simp [results, Tryd.results34, go_sem, c0, c1, hl]) rfl ⟨rfl, (B2.out.setCell (Nat.le_refl _) _).setCell (Nat.le_refl _) _⟩
      | exact bodyPost_ret (v := .tuple #[.agg #[.int .i64 v, .bool false], .int .i64 0]) (by simp [results, Tryd.results34, go_sem, c0, c1, hl]) rfl ⟨rfl, (B2.out.setCell (Nat.le_refl _) _).setCell (Nat.le_refl _) _⟩
set_option maxRecDepth 100000 in
set_option maxHeartbeats 4000000 in
theorem parseP_bad (s q t u : ByteArray) (w : World) (q0 : (s.toList == [110, 111, 45, 115, 116, 111, 114, 101]) = false) (a b c : Bool) (hbad : a = false ∨ b = false ∧ c = false)
    (hc : ∀ w, Calls Tryd.prog 67 #[.string s, .string ⟨#[109, 97, 120, 45, 97, 103, 101, 61]⟩] w (fun e w' => e = .returned (.tuple #[.string q, .bool a]) ∧ w = w'))
    (h1 : ∀ w, Calls Tryd.prog 68 #[.string q, .string ⟨#[44, 32, 112, 114, 105, 118, 97, 116, 101]⟩] w (fun e w' => e = .returned (.tuple #[.string t, .bool b]) ∧ w = w'))
    (h2 : ∀ w, Calls Tryd.prog 68 #[.string q, .string ⟨#[44, 32, 112, 117, 98, 108, 105, 99]⟩] w (fun e w' => e = .returned (.tuple #[.string u, .bool c]) ∧ w = w')) :
    Calls Tryd.prog 34 #[.string s] w (Pa (0, false, 3) w) := by
  have hb : Below w.heap.size w (w.alloc (.cells #[.int .i64 0, .bool false] 33)) := (Below.refl _ _).alloc (Nat.le_refl _) _
  have Hb := Lib.hid hb
  clear hb
  have HC := Lib.hid hc; have H1 := Lib.hid h1; have H2 := Lib.hid h2
  clear hc h1 h2
  cases a <;> cases b <;> cases c <;> first | (exfalso; simp at hbad; done) | skip
  all_goals
    clear hbad
    go_enter Tryd.func34, Tryd.ntmps34
    go_wp2_with fail
    refine (HC.out _).mono ?_
    rintro e w2 ⟨rfl, rfl⟩
    go_wp2_with fail
    refine (H1.out _).mono ?_
    rintro e w2 ⟨rfl, rfl⟩
    try (go_wp2_with fail; refine (H2.out _).mono ?_; rintro e w2 ⟨rfl, rfl⟩)
    go_wp2
    exact bodyPost_ret (v := .tuple #[.agg #[.int .i64 0, .bool false], .int .i64 3]) (by simp [results, Tryd.results34, go_sem]) rfl ⟨rfl, Hb.out⟩
theorem parseP (s : ByteArray) (w : World) (he : Env w) (hs : s.size ≤ 100000) : Calls Tryd.prog 34 #[.string s] w (Pa (parseU s.data.toList) w) := by
  by_cases hno : s.data.toList = noH
  · obtain rfl := bs_eq hno
    rw [bs_data, show parseU noH = (0, false, 0) by unfold parseU; rw [if_pos rfl]]
    exact parseP_no w
  have q0 : (s.toList == [110, 111, 45, 115, 116, 111, 114, 101]) = false := by
    rw [Lib.toList_data]; exact beq_eq_false_iff_ne.2 hno
  have hsl : s.data.toList.length ≤ 100000 := by simpa using hs
  by_cases hpre : Lib.hasPrefix s.data.toList preH = true
  · have HC := fun w => cut_pre s w (s.data.toList.drop 8) true (trim_pre hpre) hpre
    have hr8 : (bs (s.data.toList.drop 8)).size ≤ 9223372036854775807 := by rw [bs_size, List.length_drop]; omega
    have htk : ∀ n, (bs ((s.data.toList.drop 8).take n)).size ≤ 281474976710656 := fun n => by rw [bs_size, List.length_take, List.length_drop]; omega
    by_cases h1 : Lib.hasSuffix (s.data.toList.drop 8) priH = true
    · have H1 := fun w => cut_pri (bs (s.data.toList.drop 8)) w hr8 ((s.data.toList.drop 8).take ((s.data.toList.drop 8).length - 9)) true (by rw [bs_data]; exact trim_suf h1 rfl) (by rw [bs_data]; exact h1)
      rw [show parseU s.data.toList = ageH ((s.data.toList.drop 8).take ((s.data.toList.drop 8).length - 9)) true by unfold parseU; rw [if_neg hno, if_neg (by rw [hpre]; simp), if_pos h1]]
      obtain ⟨v, k, hv, hr⟩ := age_cases ((s.data.toList.drop 8).take ((s.data.toList.drop 8).length - 9)) true
      refine parseP_pri s _ _ w he (by omega) q0 v k _ HC H1 (fun w he => (numberP _ w he (htk _)).mono fun e w' h => ?_) hr
      unfold Nm at h
      rw [bs_data, hv] at h
      exact h
    have h1' : Lib.hasSuffix (s.data.toList.drop 8) priH = false := by simpa using h1
    have H1 := fun w => cut_pri (bs (s.data.toList.drop 8)) w hr8 (s.data.toList.drop 8) false (by rw [bs_data]; exact trim_not h1') (by rw [bs_data]; exact h1')
    by_cases h2 : Lib.hasSuffix (s.data.toList.drop 8) pubH = true
    · have H2 := fun w => cut_pub (bs (s.data.toList.drop 8)) w hr8 ((s.data.toList.drop 8).take ((s.data.toList.drop 8).length - 8)) true (by rw [bs_data]; exact trim_suf h2 rfl) (by rw [bs_data]; exact h2)
      rw [show parseU s.data.toList = ageH ((s.data.toList.drop 8).take ((s.data.toList.drop 8).length - 8)) false by unfold parseU; rw [if_neg hno, if_neg (by rw [hpre]; simp), if_neg h1, if_pos h2]]
      obtain ⟨v, k, hv, hr⟩ := age_cases ((s.data.toList.drop 8).take ((s.data.toList.drop 8).length - 8)) false
      refine parseP_pub s _ _ w he (by omega) q0 v k _ HC H1 H2 (fun w he => (numberP _ w he (htk _)).mono fun e w' h => ?_) hr
      unfold Nm at h
      rw [bs_data, hv] at h
      exact h
    · have h2' : Lib.hasSuffix (s.data.toList.drop 8) pubH = false := by simpa using h2
      rw [show parseU s.data.toList = (0, false, 3) by unfold parseU; rw [if_neg hno, if_neg (by rw [hpre]; simp), if_neg h1, if_neg h2]]
      exact parseP_bad s _ _ _ w q0 true false false (.inr ⟨rfl, rfl⟩) HC H1 (fun w => cut_pub _ w hr8 _ false rfl (by rw [bs_data]; exact h2'))
  · have hpre' : Lib.hasPrefix s.data.toList preH = false := by simpa using hpre
    rw [show parseU s.data.toList = (0, false, 3) by unfold parseU; rw [if_neg hno, if_pos hpre']]
    have hz : (bs s.data.toList).size ≤ 9223372036854775807 := by rw [bs_size]; omega
    exact parseP_bad s _ _ _ w q0 false _ _ (.inl rfl) (fun w => cut_pre s w _ false rfl hpre') (fun w => cut_pri _ w (by rw [trim_pre_not hpre']; exact hz) _ _ rfl rfl) (fun w => cut_pub _ w (by rw [trim_pre_not hpre']; exact hz) _ _ rfl rfl)
end Go.Proofs.YtohneabalakmeaaDoor
