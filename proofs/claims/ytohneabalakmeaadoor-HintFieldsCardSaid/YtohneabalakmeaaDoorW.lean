/- A hint read, in the reference's text. -/
import Derived.Test.YtohneabalakmeaaDoorV
namespace Go.Proofs.YtohneabalakmeaaDoor
open Go.RowKit
attribute [local irreducible] wpList Calls Code.wp
/-- the text has the beginning and this end -/
def MM (s : ByteArray) (suf : List UInt8) : Prop := 8 + suf.length ≤ s.size ∧ ((s.extract 0 8).toList == [109, 97, 120, 45, 97, 103, 101, 61]) = true ∧ ((s.extract (s.size - suf.length) s.size).toList == suf) = true
def midH (s : ByteArray) (suf : List UInt8) : List UInt8 := (s.extract 8 (s.size - suf.length)).data.toList
/-- this end gives nothing -/
def NoH (s : ByteArray) (suf : List UInt8) (p : Bool) : Prop := MM s suf → ageH (midH s suf) p = (0, false, 3)
theorem MM_pre {s : ByteArray} {suf : List UInt8} (h : MM s suf) : Lib.hasPrefix s.data.toList preH = true := by
  have h2 := h.2.1
  rw [Lib.toList_data, beq_iff_eq] at h2
  have e : s.data.toList.take 8 = preH := by rw [← show (s.extract 0 8).data.toList = s.data.toList.take 8 by simp [ByteArray.data_extract]]; exact h2
  refine List.isPrefixOf_iff_prefix.2 ⟨s.data.toList.drop 8, ?_⟩
  rw [← e, List.take_append_drop]
theorem MM_rest {s : ByteArray} {suf : List UInt8} (h : MM s suf) : Lib.hasSuffix (s.data.toList.drop 8) suf = true ∧ (s.data.toList.drop 8).take ((s.data.toList.drop 8).length - suf.length) = midH s suf := by
  have h1 := h.1
  have h2 := h.2.2
  rw [Lib.toList_data, beq_iff_eq] at h2
  have hsl : s.data.toList.length = s.size := by simp
  have e : s.data.toList.drop (s.size - suf.length) = suf := by
    rw [← show (s.extract (s.size - suf.length) s.size).data.toList = s.data.toList.drop (s.size - suf.length) by
      simp only [ByteArray.data_extract, Array.toList_extract, List.extract_eq_take_drop]
      exact List.take_of_length_le (by simp)]
    exact h2
  constructor
  · refine List.isSuffixOf_iff_suffix.2 ⟨(s.data.toList.drop 8).take (s.size - suf.length - 8), ?_⟩
    conv => lhs; rhs; rw [← e]
    have : s.data.toList.drop (s.size - suf.length) = (s.data.toList.drop 8).drop (s.size - suf.length - 8) := by rw [List.drop_drop]; congr 1; omega
    rw [this, List.take_append_drop]
  · unfold midH
    simp only [ByteArray.data_extract, Array.toList_extract, List.extract_eq_take_drop, List.length_drop, hsl]
    congr 1; omega
theorem MM_of {s : ByteArray} {suf : List UInt8} (h1 : Lib.hasPrefix s.data.toList preH = true) (h2 : Lib.hasSuffix (s.data.toList.drop 8) suf = true) (hp : 0 < suf.length) : MM s suf := by
  have hsl : s.data.toList.length = s.size := by simp
  obtain ⟨a, ha⟩ := List.isPrefixOf_iff_prefix.1 h1
  obtain ⟨b, hb⟩ := List.isSuffixOf_iff_suffix.1 h2
  have hl := congrArg List.length hb
  rw [List.length_append, List.length_drop, hsl] at hl
  refine ⟨by omega, ?_, ?_⟩
  · rw [Lib.toList_data, beq_iff_eq]
    have : (s.extract 0 8).data.toList = s.data.toList.take 8 := by simp [ByteArray.data_extract]
    rw [this, ← ha]; rfl
  · rw [Lib.toList_data, beq_iff_eq]
    have : (s.extract (s.size - suf.length) s.size).data.toList = s.data.toList.drop (s.size - suf.length) := by
      simp only [ByteArray.data_extract, Array.toList_extract, List.extract_eq_take_drop]
      exact List.take_of_length_le (by simp)
    have e2 : s.data.toList.drop (s.size - suf.length) = (s.data.toList.drop 8).drop (s.size - suf.length - 8) := by rw [List.drop_drop]; congr 1; omega
    rw [this, e2, ← hb, List.drop_left' (by omega)]
theorem ne_noH {s : ByteArray} (q0 : (s.toList == [110, 111, 45, 115, 116, 111, 114, 101]) = false) : s.data.toList ≠ noH := by
  rw [Lib.toList_data] at q0
  exact beq_eq_false_iff_ne.1 q0
theorem parse_pub {s : ByteArray} (q0 : (s.toList == [110, 111, 45, 115, 116, 111, 114, 101]) = false) (h : MM s pubH) : parseU s.data.toList = ageH (midH s pubH) false := by
  have hr := MM_rest h
  have h1 : ¬ Lib.hasSuffix (s.data.toList.drop 8) priH = true := fun e => by have := suffix_not e; rw [hr.1] at this; cases this
  unfold parseU
  rw [if_neg (ne_noH q0), if_neg (by rw [MM_pre h]; simp), if_neg h1, if_pos hr.1]
  exact congrArg (ageH · false) hr.2
theorem parse_pri {s : ByteArray} (q0 : (s.toList == [110, 111, 45, 115, 116, 111, 114, 101]) = false) (h : MM s priH) : parseU s.data.toList = ageH (midH s priH) true := by
  have hr := MM_rest h
  unfold parseU
  rw [if_neg (ne_noH q0), if_neg (by rw [MM_pre h]; simp), if_pos hr.1]
  exact congrArg (ageH · true) hr.2
theorem parse_none {s : ByteArray} (q0 : (s.toList == [110, 111, 45, 115, 116, 111, 114, 101]) = false) (h1 : NoH s pubH false) (h2 : NoH s priH true) : parseU s.data.toList = (0, false, 3) := by
  by_cases m1 : MM s pubH
  · rw [parse_pub q0 m1]; exact h1 m1
  by_cases m2 : MM s priH
  · rw [parse_pri q0 m2]; exact h2 m2
  unfold parseU
  rw [if_neg (ne_noH q0)]
  by_cases hp : Lib.hasPrefix s.data.toList preH = true
  · rw [if_neg (by rw [hp]; simp), if_neg fun e => m2 (MM_of hp e (by decide)), if_neg fun e => m1 (MM_of hp e (by decide))]
  · rw [if_pos (by simpa using hp)]
/-- the ways of one round -/
theorem MM_cases (s : ByteArray) (suf : List UInt8) : (s.size < 8 + suf.length ∧ ¬ MM s suf) ∨ (8 + suf.length ≤ s.size ∧ ((s.extract 0 8).toList == [109, 97, 120, 45, 97, 103, 101, 61]) = false ∧ ¬ MM s suf) ∨
    (8 + suf.length ≤ s.size ∧ ((s.extract 0 8).toList == [109, 97, 120, 45, 97, 103, 101, 61]) = true ∧ ((s.extract (s.size - suf.length) s.size).toList == suf) = false ∧ ¬ MM s suf) ∨ MM s suf := by
  unfold MM
  cases ((s.extract 0 8).toList == [109, 97, 120, 45, 97, 103, 101, 61]) <;> cases ((s.extract (s.size - suf.length) s.size).toList == suf) <;> simp <;> omega
set_option maxRecDepth 100000 in
set_option maxHeartbeats 8000000 in
theorem parseR_x (s : ByteArray) (w : World) (hs : s.size ≤ 100000) (q0 : (s.toList == [110, 111, 45, 115, 116, 111, 114, 101]) = false) : Calls Tryd.prog 35 #[.string s] w (Pa (parseU s.data.toList) w) := by
  have Hno := Lib.hid (@parse_none s q0)
  have Hpub := Lib.hid (@parse_pub s q0)
  have Hpri := Lib.hid (@parse_pri s q0)
  generalize parseU s.data.toList = r at *
  go_enter Tryd.func35, Tryd.ntmps35
  go_wp2
  go_loopw [5] (fun v wr => ∃ k : Nat, k ≤ 2 ∧ v = .int .i64 k ∧ Below w.heap.size w wr ∧ wr.heap[w.heap.size]? = some (.cells #[.int .i64 0, .bool false] 33 (0, 0)) ∧ (1 ≤ k → NoH s pubH false) ∧ (2 ≤ k → NoH s priH true)) (fun v _ => 2 - (intOf v).toNat)
  case atStart => exact ⟨0, by omega, rfl, (Below.refl _ _).alloc (Nat.le_refl _) _, heap_at rfl, fun h => by omega, fun h => by omega⟩
  case round =>
    obtain ⟨k, hk, rfl, b, hx, hn1, hn2⟩ := hrel
    have Hb := Lib.hid b; have Hx := Lib.hid hx
    have N1 := Lib.hid hn1; have N2 := Lib.hid hn2
    clear b hx hn1 hn2
    rcases (show k = 0 ∨ k = 1 ∨ k = 2 by omega) with rfl | rfl | rfl
    · rcases MM_cases s pubH with ⟨h1, hm⟩ | ⟨h1, h2, hm⟩ | ⟨h1, h2, h3, hm⟩ | hm
      · have MN := Lib.hid (show NoH s pubH false from fun h => absurd h hm)
        have h1 : s.size < 8 + 8 := h1
        have d1 : decide ((s.size : Int) < 16) = true := decide_eq_true (by omega)
        clear hm h1
        go_wp2
        go_roundw
        case rel => exact ⟨1, by omega, rfl, Hb.out, Hx.out, fun _ => MN.out, fun h => by omega⟩
        case measure => simp [intOf]
      · have MN := Lib.hid (show NoH s pubH false from fun h => absurd h hm)
        have h1 : 8 + 8 ≤ s.size := h1
        have d1 : decide ((s.size : Int) < 16) = false := decide_eq_false (by omega)
        have d2 : (8 : Int) ≤ (s.size : Int) := by omega
        clear hm
        go_wp2
        go_roundw
        case rel => exact ⟨1, by omega, rfl, Hb.out, Hx.out, fun _ => MN.out, fun h => by omega⟩
        case measure => simp [intOf]
      · have MN := Lib.hid (show NoH s pubH false from fun h => absurd h hm)
        have h1 : 8 + 8 ≤ s.size := h1
        have h3 : ((s.extract (s.size - 8) s.size).toList == [44, 32, 112, 117, 98, 108, 105, 99]) = false := h3
        have d1 : decide ((s.size : Int) < 16) = false := decide_eq_false (by omega)
        have d2 : (8 : Int) ≤ (s.size : Int) := by omega
        have d3 : (s.size : Int) - 8 ≤ (s.size : Int) := by omega
        clear hm
        go_wp2
        go_roundw
        case rel => exact ⟨1, by omega, rfl, Hb.out, Hx.out, fun _ => MN.out, fun h => by omega⟩
        case measure => simp [intOf]
      · have h1 : 8 + 8 ≤ s.size := hm.1
        have h2 := hm.2.1
        have h3 : ((s.extract (s.size - 8) s.size).toList == [44, 32, 112, 117, 98, 108, 105, 99]) = true := hm.2.2
        have Hr := Lib.hid (Hpub.out hm)
        have HN := Lib.hid (fun w => numberR (s.extract 8 (s.size - 8)) w (by simp; omega))
        have hmid : midH s pubH = (s.extract 8 (s.size - 8)).data.toList := rfl
        obtain ⟨v, k, hv, hc⟩ := age_cases (midH s pubH) false
        unfold Nm at HN
        rw [← hmid, hv] at HN
        have HO := Lib.hid (show ageH (midH s pubH) false = (0, false, 3) → NoH s pubH false from fun h _ => h)
        generalize ageH (midH s pubH) false = g at *
        have d1 : decide ((s.size : Int) < 16) = false := decide_eq_false (by omega)
        have d2 : (8 : Int) ≤ (s.size : Int) := by omega
        have d3 : (s.size : Int) - 8 ≤ (s.size : Int) := by omega
        have d4 : (8 : Int) ≤ (s.size : Int) - 8 := by omega
        clear hm hmid hv
        rcases hc with ⟨rfl, rfl⟩ | ⟨rfl, rfl⟩ | ⟨rfl, hv, rfl⟩ | ⟨rfl, hv, rfl⟩
        all_goals
          go_wp2_with fail
          refine (HN.out _).mono ?_
          rintro e w2 ⟨rfl, b⟩
          have Hb2 := Lib.hid (Hb.out.trans (b.mono Hb.out.size))
          have Hx2 := Lib.hid ((b.block w.heap.size (heap_lt Hx.out)).trans Hx.out)
          have c0 := cell_heap (o := 0) Hx2.out rfl
          have c1 := cell_heap (o := 1) Hx2.out rfl
          have f0 := frozen_heap (o := 0) Hx2.out
          have f1 := frozen_heap (o := 1) Hx2.out
          have hl := heap_lt Hx2.out
          clear b
        · have MN := Lib.hid (HO.out (by first | rfl | trivial))
          go_wp2
          go_roundw
          case rel => exact ⟨1, by omega, rfl, Hb2.out, Hx2.out, fun _ => MN.out, fun h => by omega⟩
          case measure => simp [intOf]
        · go_wp2
          exact bodyPost_ret (v := .tuple #[.agg #[.int .i64 0, .bool false], .int .i64 4]) (by simp [results, Tryd.results35, go_sem, c0, c1, hl]) rfl ⟨by rw [Hr.out], (Hb2.out.setCell (Nat.le_refl _) _).setCell (Nat.le_refl _) _⟩
        · have MN := Lib.hid (HO.out (by first | rfl | trivial))
          have hv' : decide (v ≥ 1) = false := decide_eq_false (by omega)
          go_wp2
          go_roundw
          case rel => exact ⟨1, by omega, rfl, Hb2.out, Hx2.out, fun _ => MN.out, fun h => by omega⟩
          case measure => simp [intOf]
        · have hv' : decide (v ≥ 1) = true := decide_eq_true (by omega)
          go_wp2
          exact bodyPost_ret (v := .tuple #[.agg #[.int .i64 v, .bool false], .int .i64 0]) (by simp [results, Tryd.results35, go_sem, c0, c1, hl]) rfl ⟨by rw [Hr.out], (Hb2.out.setCell (Nat.le_refl _) _).setCell (Nat.le_refl _) _⟩
    · rcases MM_cases s priH with ⟨h1, hm⟩ | ⟨h1, h2, hm⟩ | ⟨h1, h2, h3, hm⟩ | hm
      · have MN := Lib.hid (show NoH s priH true from fun h => absurd h hm)
        have h1 : s.size < 8 + 9 := h1
        have d1 : decide ((s.size : Int) < 17) = true := decide_eq_true (by omega)
        clear hm h1
        go_wp2
        go_roundw
        case rel => exact ⟨2, by omega, rfl, Hb.out, Hx.out, fun _ => N1.out (Nat.le_refl _), fun _ => MN.out⟩
        case measure => simp [intOf]
      · have MN := Lib.hid (show NoH s priH true from fun h => absurd h hm)
        have h1 : 8 + 9 ≤ s.size := h1
        have d1 : decide ((s.size : Int) < 17) = false := decide_eq_false (by omega)
        have d2 : (8 : Int) ≤ (s.size : Int) := by omega
        clear hm
        go_wp2
        go_roundw
        case rel => exact ⟨2, by omega, rfl, Hb.out, Hx.out, fun _ => N1.out (Nat.le_refl _), fun _ => MN.out⟩
        case measure => simp [intOf]
      · have MN := Lib.hid (show NoH s priH true from fun h => absurd h hm)
        have h1 : 8 + 9 ≤ s.size := h1
        have h3 : ((s.extract (s.size - 9) s.size).toList == [44, 32, 112, 114, 105, 118, 97, 116, 101]) = false := h3
        have d1 : decide ((s.size : Int) < 17) = false := decide_eq_false (by omega)
        have d2 : (8 : Int) ≤ (s.size : Int) := by omega
        have d3 : (s.size : Int) - 9 ≤ (s.size : Int) := by omega
        clear hm
        go_wp2
        go_roundw
        case rel => exact ⟨2, by omega, rfl, Hb.out, Hx.out, fun _ => N1.out (Nat.le_refl _), fun _ => MN.out⟩
        case measure => simp [intOf]
      · have h1 : 8 + 9 ≤ s.size := hm.1
        have h2 := hm.2.1
        have h3 : ((s.extract (s.size - 9) s.size).toList == [44, 32, 112, 114, 105, 118, 97, 116, 101]) = true := hm.2.2
        have Hr := Lib.hid (Hpri.out hm)
        have HN := Lib.hid (fun w => numberR (s.extract 8 (s.size - 9)) w (by simp; omega))
        have hmid : midH s priH = (s.extract 8 (s.size - 9)).data.toList := rfl
        obtain ⟨v, k, hv, hc⟩ := age_cases (midH s priH) true
        unfold Nm at HN
        rw [← hmid, hv] at HN
        have HO := Lib.hid (show ageH (midH s priH) true = (0, false, 3) → NoH s priH true from fun h _ => h)
        generalize ageH (midH s priH) true = g at *
        have d1 : decide ((s.size : Int) < 17) = false := decide_eq_false (by omega)
        have d2 : (8 : Int) ≤ (s.size : Int) := by omega
        have d3 : (s.size : Int) - 9 ≤ (s.size : Int) := by omega
        have d4 : (8 : Int) ≤ (s.size : Int) - 9 := by omega
        clear hm hmid hv
        rcases hc with ⟨rfl, rfl⟩ | ⟨rfl, rfl⟩ | ⟨rfl, hv, rfl⟩ | ⟨rfl, hv, rfl⟩
        all_goals
          go_wp2_with fail
          refine (HN.out _).mono ?_
          rintro e w2 ⟨rfl, b⟩
          have Hb2 := Lib.hid (Hb.out.trans (b.mono Hb.out.size))
          have Hx2 := Lib.hid ((b.block w.heap.size (heap_lt Hx.out)).trans Hx.out)
          have c0 := cell_heap (o := 0) Hx2.out rfl
          have c1 := cell_heap (o := 1) Hx2.out rfl
          have f0 := frozen_heap (o := 0) Hx2.out
          have f1 := frozen_heap (o := 1) Hx2.out
          have hl := heap_lt Hx2.out
          clear b
        · have MN := Lib.hid (HO.out (by first | rfl | trivial))
          go_wp2
          go_roundw
          case rel => exact ⟨2, by omega, rfl, Hb2.out, Hx2.out, fun _ => N1.out (Nat.le_refl _), fun _ => MN.out⟩
          case measure => simp [intOf]
        · go_wp2
          exact bodyPost_ret (v := .tuple #[.agg #[.int .i64 0, .bool false], .int .i64 4]) (by simp [results, Tryd.results35, go_sem, c0, c1, hl]) rfl ⟨by rw [Hr.out], (Hb2.out.setCell (Nat.le_refl _) _).setCell (Nat.le_refl _) _⟩
        · have MN := Lib.hid (HO.out (by first | rfl | trivial))
          have hv' : decide (v ≥ 1) = false := decide_eq_false (by omega)
          go_wp2
          go_roundw
          case rel => exact ⟨2, by omega, rfl, Hb2.out, Hx2.out, fun _ => N1.out (Nat.le_refl _), fun _ => MN.out⟩
          case measure => simp [intOf]
        · have hv' : decide (v ≥ 1) = true := decide_eq_true (by omega)
          go_wp2
          exact bodyPost_ret (v := .tuple #[.agg #[.int .i64 v, .bool true], .int .i64 0]) (by simp [results, Tryd.results35, go_sem, c0, c1, hl]) rfl ⟨by rw [Hr.out], (Hb2.out.setCell (Nat.le_refl _) _).setCell (Nat.le_refl _) _⟩
    · have c0 := cell_heap (o := 0) Hx.out rfl
      have c1 := cell_heap (o := 1) Hx.out rfl
      have f0 := frozen_heap (o := 0) Hx.out
      have f1 := frozen_heap (o := 1) Hx.out
      have hl := heap_lt Hx.out
      go_wp2
      exact bodyPost_ret (v := .tuple #[.agg #[.int .i64 0, .bool false], .int .i64 3]) (by simp [results, Tryd.results35, go_sem, c0, c1, hl]) rfl ⟨by rw [Hno.out (N1.out (by omega)) (N2.out (by omega))], (Hb.out.setCell (Nat.le_refl _) _).setCell (Nat.le_refl _) _⟩
set_option maxRecDepth 100000 in
set_option maxHeartbeats 4000000 in
theorem parseR_no (w : World) : Calls Tryd.prog 35 #[.string ⟨#[110, 111, 45, 115, 116, 111, 114, 101]⟩] w (Pa (0, false, 0) w) := by
  go_enter Tryd.func35, Tryd.ntmps35
  go_wp2
  exact bodyPost_ret (v := .tuple #[.agg #[.int .i64 0, .bool false], .int .i64 0]) (by simp [results, Tryd.results35, go_sem]) rfl ⟨rfl, (Below.refl _ _).alloc (Nat.le_refl _) _⟩
theorem parseR (s : ByteArray) (w : World) (hs : s.size ≤ 100000) : Calls Tryd.prog 35 #[.string s] w (Pa (parseU s.data.toList) w) := by
  by_cases hno : s.data.toList = noH
  · obtain rfl := bs_eq hno
    rw [bs_data, show parseU noH = (0, false, 0) by unfold parseU; rw [if_pos rfl]]
    exact parseR_no w
  · exact parseR_x s w hs (by rw [Lib.toList_data]; exact beq_eq_false_iff_ne.2 hno)
end Go.Proofs.YtohneabalakmeaaDoor
