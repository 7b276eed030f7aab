/- Parts of a proof, merged by a program (shake.py). -/
import Derived.Shelf.Strings.IndexAnyAll
import Derived.Shelf.Strconv.Escaped
import Derived.Laws.Runes
import Derived.WalkMore
import Derived.Shelf.RegionOpenPlain
import Derived.Lib.OthersKept
import Derived.Test.YthjiclhfhjdjpaaGreatDoorQ27
set_option linter.unusedVariables false
set_option linter.unusedSimpArgs false
namespace Go.Proofs.YthjiclhfhjdjpaaGreatDoor
open Go.Shelf Go.RowKit Go.Lib
variable {P : Program} {ρ : Ren}
theorem not_in_ascii {l : List UInt8} {b : UInt8} (h : ∀ c ∈ l, c.toNat < 128) (hb : 128 ≤ b.toNat) : Lib.indexByte l b = -1 := by
  have : l.contains b = false := by
    rw [Bool.eq_false_iff]
    intro hc
    have := h _ (List.contains_iff_mem.1 hc); omega
  have h2 := Lib.contains_iff_indexByte l b
  rw [this] at h2
  have h3 : ¬ (0 : Int) ≤ Lib.indexByte l b := of_decide_eq_false h2.symm
  have h4 := Lib.indexAny_ge [b] l
  rw [Lib.indexAny_one] at h4
  omega
set_option maxHeartbeats 2000000 in
set_option maxRecDepth 1000000 in
theorem A_strings_IndexRune_far (L : Lays.n152 P ρ) (mixed : P.follows .mixedOrders = true) (s : ByteArray) (r : Int) (w : World) (h0 : 128 ≤ r) (h1 : r ≠ 65533) (hv : Lib.validRune r = true) (_hs : s.size < 1000) (hascii : ∀ (j : Nat) b, s.data.toList[j]? = some b → b.toNat < 128) :
    Calls P (ρ.f 152) #[.string s, .int .i32 r] w fun e w' => e = .returned (.int .i64 (-1)) ∧ (w' = w ∨ w' = w.drew.drew) := by
  have HA : Aside (∀ (j : Nat) b, s.data.toList[j]? = some b → b.toNat < 128) := hascii
  clear hascii
  have t3 := L.t3; have a3 := L.a3; have z3 := L.z3; have v3 := L.v3
  have t4 := L.t4; have a4 := L.a4; have z4 := L.z4; have v4 := L.v4
  have t5 := L.t5; have a5 := L.a5; have z5 := L.z5; have v5 := L.v5
  have t9 := L.t9; have a9 := L.a9; have z9 := L.z9; have v9 := L.v9
  have t21 := L.t21; have a21 := L.a21; have z21 := L.z21; have v21 := L.v21
  have e137 : ∀ args w, (callFunc (ρ.f 137) args).run P w = .ok (.enter (ρ.f 137) args) w := enters_of L.f137 (by kernel_rfl) rfl
  have e119 : ∀ args w, (callFunc (ρ.f 119) args).run P w = .ok (.enter (ρ.f 119) args) w := enters_of L.f119 (by kernel_rfl) rfl
  have n1 : decide (r < 128) = false := decide_eq_false (by omega)
  have n0 : (0 : Int) ≤ r := by omega
  have n01 : decide ((0 : Int) ≤ r) = true := decide_eq_true n0
  have n3 : ¬ r < 128 := by omega
  have n2 : (r == 65533) = false := beq_eq_false_iff_ne.2 h1
  have hvu : Utf8.valid r = true := by rw [validRune_eq]; exact hv
  obtain ⟨m1, m2, m3⟩ := encode_facts r hvu h0
  have hconv : ∀ w, (convert (ρ.t 21) (ρ.t 9) (.int .i32 r)).run P w = .ok (.string (Utf8.encode r)) w := fun w => run_convert_int_string w _ _ _ _ (by rw [t21]; rfl) t9
  generalize Utf8.encode r = rs at hconv m1 m2 m3
  obtain ⟨k, hk⟩ : ∃ k, rs.size = k + 1 := ⟨rs.size - 1, by omega⟩
  have hw1 : IntKind.i64.wrap ((rs.size : Int) - 1) = (k : Int) := by rw [Go.wrap_small _ (by omega) (by omega)]; omega
  go_enter L.f152, Body.n152_ntmps ρ
  go_wp2_with (first
    | (go_at_fn (ρ.f 119); refine (Any.utf8_ValidRune { L with } _ _).mono ?_; rintro e w' ⟨rfl, hw⟩; rw [hw, hv])
    | (go_at_fn (ρ.f 137); refine (Any.strings_IndexByte { L with } _ _ _).mono ?_; rintro e w' ⟨rfl, hw⟩; rw [hw]))
  all_goals (try go_step3)
  all_goals go_wp2_with (first
    | (go_at_fn (ρ.f 137); refine (Any.strings_IndexByte { L with } _ _ _).mono ?_; rintro e w' ⟨rfl, hw⟩; rw [hw]))
  all_goals
    go_loopg [9] 1 (fun _ s9 wx => s9 = .int .i64 (k : Int) ∧ wx = w)
    case atStart => exact ⟨rfl, rfl⟩
    case round =>
      obtain ⟨rfl, rfl⟩ := hrel
      by_cases hi : k < s.size
      · have hiz : (k : Int) < (s.size : Int) := by omega
        obtain ⟨x, hx⟩ : ∃ x : UInt8, s[k]'hi = x := ⟨_, rfl⟩
        have hi2 : k < rs.size := by omega
        obtain ⟨y, hy⟩ : ∃ y : UInt8, rs[k]'hi2 = y := ⟨_, rfl⟩
        have hxl : s.data.toList[k]? = some x := by rw [← hx]; exact Lib.data_getElem? s _ hi
        have hx128 := HA.out _ _ hxl
        have hy128 : 128 ≤ y.toNat := by
          have := m3 (by omega)
          have e : rs.size - 1 = k := by omega
          simp only [e] at this
          rw [hy] at this; exact this
        have hkz : (k : Int) < (rs.size : Int) := by omega
        have hsl : (k : Int) + 1 ≤ (s.size : Int) := by omega
        have hsl2 : ¬ (s.size : Int) < (k : Int) + 1 := by omega
        have hk0 : ¬ (k : Int) + 1 < 0 := by omega
        have hk1 : (0 : Int) ≤ (k : Int) + 1 := by omega
        have hwr : IntKind.i64.wrap ((k : Int) + 1) = (k : Int) + 1 := Go.wrap_small _ (by omega) (by omega)
        have hxy : ((x.toNat : Int) == (y.toNat : Int)) = false := beq_eq_false_iff_ne.2 (by omega)
        have hidx : Lib.indexByte (List.take (s.size - (k + 1)) (List.drop (k + 1) s.data.toList)) y = -1 := not_in_ascii (fun c hc => by
          obtain ⟨j, hj⟩ := List.getElem?_of_mem (List.mem_of_mem_drop (List.mem_of_mem_take hc))
          exact HA.out j c hj) hy128
        have hyy : ((y.toNat : Int)).toNat.toUInt8 = y := by simp
        have hidx2 : Lib.indexByte (s.extract (k + 1) s.size).data.toList ((y.toNat : Int)).toNat.toUInt8 = -1 := by
          rw [hyy]
          exact not_in_ascii (fun c hc => by
            obtain ⟨j, hj⟩ := List.getElem?_of_mem (mem_extract hc)
            exact HA.out j c hj) hy128
        go_wp2
        go_step3
        go_wp2
        go_region_o
        go_wp2
        go_region_with_o (go_at_fn (ρ.f 137); refine (Any.strings_IndexByte { L with } _ _ _).mono ?_; rintro e w' ⟨rfl, hw⟩; rw [hw]; rw [hidx2])
        go_wp2
        simp only [Exit.noGoto_ret, Exit.then, Exit.inBlock]
        go_ret
        exact ⟨rfl, .inr rfl⟩
      · have hiz : ¬ (k : Int) < (s.size : Int) := by omega
        go_wp2
        go_ret
        exact ⟨rfl, .inl rfl⟩
theorem get_at (s : ByteArray) (k : Nat) (hk : k < s.size) : s.get! k = s[k]'hk := by
  simp [ByteArray.get!, getElem!_pos, hk]
  rfl
theorem decode_facts (s : ByteArray) (i : Nat) (h : i < s.size) (h2 : 128 ≤ (s[i]'h).toNat) : 128 ≤ (Utf8.decode s i).1 ∧ Utf8.valid ((Utf8.decode s i).1 : Int) = true ∧ 1 ≤ (Utf8.decode s i).2 ∧ i + (Utf8.decode s i).2 ≤ s.size ∧ ∀ j, i ≤ j → j < i + (Utf8.decode s i).2 → 128 ≤ (s.get! j).toNat := by
  have g0 : (s.get! (i + 0)).toNat = (s[i]'h).toNat := by rw [Nat.add_zero, get_at s i h]
  have g0' : 128 ≤ (s.get! i).toNat := by rw [get_at s i h]; exact h2
  have lt : ∀ k, (s.get! k).toNat < 256 := fun k => UInt8.toNat_lt _
  have one : ∀ j, i ≤ j → j < i + 1 → 128 ≤ (s.get! j).toNat := fun j h1 h3 => by
    obtain rfl : j = i := by omega
    exact g0'
  unfold Utf8.decode
  simp only [Nat.add_zero, Bool.and_eq_true, decide_eq_true_eq, beq_iff_eq, ge_iff_le]
  generalize hb0 : (s.get! i).toNat = b0 at *
  have l1 := lt (i + 1)
  have l2 := lt (i + 2)
  have l3 := lt (i + 3)
  have ev : ∀ c : Nat, ((128 ≤ c ∧ c < 55296) ∨ (57344 ≤ c ∧ c ≤ 1114111)) → Utf8.valid (c : Int) = true := fun c hc => by
    unfold Utf8.valid
    simp
    rcases hc with hc | hc <;> omega
  rw [if_neg (by omega)]
  have cas : ∀ n, (∀ k, 1 ≤ k → k < n → 128 ≤ (s.get! (i + k)).toNat) → ∀ j, i ≤ j → j < i + n → 128 ≤ (s.get! j).toNat := fun n hn j h1 h3 => by
    by_cases e : j = i
    · subst e; rw [hb0]; exact g0'
    · have := hn (j - i) (by omega) (by omega)
      rwa [show i + (j - i) = j by omega] at this
  split
  · rename_i hc
    split
    · exact ⟨by omega, ev _ (by omega), by omega, by omega, cas 2 fun k h1 h3 => by
        obtain rfl : k = 1 := by omega
        omega⟩
    · exact ⟨by decide, by decide, by omega, by omega, one⟩
  · split
    · rename_i hc
      split
      · rename_i hv
        refine ⟨by omega, hv.2, by omega, by omega, cas 3 fun k h1 h3 => ?_⟩
        obtain rfl | rfl : k = 1 ∨ k = 2 := by omega
        all_goals omega
      · exact ⟨by decide, by decide, by omega, by omega, one⟩
    · split
      · rename_i hc
        split
        · rename_i hv
          refine ⟨by omega, hv.2, by omega, by omega, cas 4 fun k h1 h3 => ?_⟩
          obtain rfl | rfl | rfl : k = 1 ∨ k = 2 ∨ k = 3 := by omega
          all_goals omega
        · exact ⟨by decide, by decide, by omega, by omega, one⟩
      · exact ⟨by decide, by decide, by omega, by omega, one⟩
set_option maxHeartbeats 2000000 in
set_option maxRecDepth 1000000 in
theorem A_strings_IndexRune_err (L : Lays.n152 P ρ) (s : ByteArray) (w : World) (hascii : ∀ (j : Nat) b, s.data.toList[j]? = some b → b.toNat < 128) :
    Calls P (ρ.f 152) #[.string s, .int .i32 65533] w fun e w' => e = .returned (.int .i64 (-1)) ∧ w' = w.iter s s.size := by
  have HA : Aside (∀ (j : Nat) b, s.data.toList[j]? = some b → b.toNat < 128) := hascii
  clear hascii
  have t3 := L.t3; have a3 := L.a3; have z3 := L.z3; have v3 := L.v3
  have t4 := L.t4; have a4 := L.a4; have z4 := L.z4; have v4 := L.v4
  have t5 := L.t5; have a5 := L.a5; have z5 := L.z5; have v5 := L.v5
  have t9 := L.t9; have a9 := L.a9; have z9 := L.z9; have v9 := L.v9
  have t21 := L.t21; have a21 := L.a21; have z21 := L.z21; have v21 := L.v21
  go_enter L.f152, Body.n152_ntmps ρ
  go_wp2
  go_loopg [5, 6] s.size (fun g _ _ wx => ∃ i : Nat, i + g = s.size ∧ wx = w.iter s i)
  case atStart => exact ⟨0, by omega, rfl⟩
  case round =>
    obtain ⟨i, hig, rfl⟩ := hrel
    cases gk with
    | zero =>
      obtain rfl : i = s.size := by omega
      have hnx := run_next_end (P := P) w s s.size
      go_wp2
      go_ret
      exact ⟨rfl, rfl⟩
    | succ g =>
      have hi : i < s.size := by omega
      obtain ⟨x, hx⟩ : ∃ x : UInt8, s[i]'hi = x := ⟨_, rfl⟩
      have hxl : s.data.toList[i]? = some x := by rw [← hx]; exact Lib.data_getElem? s i hi
      have hx128 : x.toNat < 128 := HA.out i x hxl
      have hnx := fun ty => run_next_ascii (P := P) w s i ty hi (by rw [hx]; exact hx128)
      rw [hx] at hnx
      have hne : ((x.toNat : Int) == 65533) = false := beq_eq_false_iff_ne.2 (by omega)
      have hne2 : ¬ (x.toNat : Int) = 65533 := by omega
      clear hxl hx
      go_wp2
      go_roundg g
      case measure => omega
      case rel => exact ⟨i + 1, by omega, rfl⟩
set_option maxHeartbeats 2000000 in
set_option maxRecDepth 1000000 in
theorem A_strings_ContainsRune_far (L : Lays.n151 P ρ) (mixed : P.follows .mixedOrders = true) (s : ByteArray) (r : Int) (w : World) (h0 : 128 ≤ r) (h1 : r ≠ 65533) (hv : Lib.validRune r = true) (hs : s.size < 1000) (hascii : ∀ (j : Nat) b, s.data.toList[j]? = some b → b.toNat < 128) :
    Calls P (ρ.f 151) #[.string s, .int .i32 r] w fun e w' => e = .returned (.bool false) ∧ (w' = w ∨ w' = w.drew.drew) := by
  have t3 := L.t3; have a3 := L.a3; have z3 := L.z3; have v3 := L.v3
  have t4 := L.t4; have a4 := L.a4; have z4 := L.z4; have v4 := L.v4
  have t9 := L.t9; have a9 := L.a9; have z9 := L.z9; have v9 := L.v9
  have t21 := L.t21; have a21 := L.a21; have z21 := L.z21; have v21 := L.v21
  have e152 : ∀ args w, (callFunc (ρ.f 152) args).run P w = .ok (.enter (ρ.f 152) args) w := enters_of L.f152 (by kernel_rfl) rfl
  have hm := A_strings_IndexRune_far { L with } mixed s r w h0 h1 hv hs hascii
  clear hascii
  go_enter L.f151, Body.n151_ntmps ρ
  go_wp2_with (go_at_fn (ρ.f 152); refine hm.mono ?_; rintro e w' ⟨rfl, hw⟩)
  go_ret
  exact ⟨rfl, hw⟩
theorem iterAt_below {B : Nat} {a w : World} (h : Go.RowKit.Below B a w) {k : Nat} (hk : B ≤ k) (s : ByteArray) (p : Nat) : Go.RowKit.Below B a (w.iterAt k s p) :=
  h.trans ⟨rfl, rfl, rfl, by simp [World.iterAt], fun j hj => by
    show (w.heap.setIfInBounds k _)[j]? = _
    rw [Array.getElem?_setIfInBounds, if_neg (by omega)]⟩
theorem NoAny.jump {s : ByteArray} {chars : List UInt8} {i n : Nat} (h : Lib.NoAny s.data.toList chars i) (hc : ∀ b ∈ chars, b.toNat < 128) (hn : i + n ≤ s.size) (hb : ∀ j, i ≤ j → j < i + n → 128 ≤ (s.get! j).toNat) : Lib.NoAny s.data.toList chars (i + n) := by
  have : ∀ m, m ≤ n → Lib.NoAny s.data.toList chars (i + m) := fun m => by
    induction m with
    | zero => exact fun _ => h
    | succ m ih =>
      intro hm
      have hlt : i + m < s.size := by omega
      refine (ih (by omega)).succ (x := s[i + m]) (Lib.data_getElem? s _ hlt) ?_
      rw [Bool.eq_false_iff]
      intro hx
      have h1 := hc _ (List.contains_iff_mem.1 hx)
      have h2 := hb (i + m) (by omega) (by omega)
      rw [get_at s _ hlt] at h2
      omega
  exact this n (Nat.le_refl _)
set_option maxHeartbeats 8000000 in
set_option maxRecDepth 1000000 in
theorem A_strings_IndexAny_le8 (L : Lays.n153 P ρ) (mixed : P.follows .mixedOrders = true) (s chars : ByteArray) (w : World) (h2 : 2 ≤ chars.size) (hcs : chars.size < 1000) (h8 : s.size ≤ 8) (hascii : ∀ (j : Nat) b, chars.data.toList[j]? = some b → b.toNat < 128) :
    Calls P (ρ.f 153) #[.string s, .string chars] w fun e w' => e = .returned (.int .i64 (Lib.indexAny s.data.toList chars.data.toList)) ∧ Below w.heap.size w w' := by
  have HA : Aside (∀ b ∈ chars.data.toList, b.toNat < 128) := fun b hb => by
    obtain ⟨j, hj⟩ := List.getElem?_of_mem hb
    exact hascii j b hj
  have hrune : ∀ (c : Int) (wq : World), 128 ≤ c → Lib.validRune c = true → Calls P (ρ.f 152) #[.string chars, .int .i32 c] wq fun e w' => e = .returned (.int .i64 (-1)) ∧ Below wq.heap.size wq w' := fun c wq h1 hv => by
    by_cases e : c = 65533
    · subst e
      refine (A_strings_IndexRune_err { L with } chars wq hascii).mono ?_
      rintro e w' ⟨rfl, rfl⟩
      exact ⟨rfl, (Below.refl _ _).alloc (Nat.le_refl _) _⟩
    · refine (A_strings_IndexRune_far { L with } mixed chars c wq h1 e hv hcs hascii).mono ?_
      rintro e w' ⟨rfl, rfl | rfl⟩
      · exact ⟨rfl, Below.refl _ _⟩
      · exact ⟨rfl, (Below.refl _ _).drew.drew⟩
  clear hascii
  have hemp : chars.toList.isEmpty = false := by
    rw [Lib.toList_data]
    cases h : chars.data.toList with
    | nil => have := Lib.size_eq chars; rw [h, List.length_nil] at this; omega
    | cons _ _ => rfl
  have hn1 : ((chars.size : Int) == 1) = false := beq_eq_false_iff_ne.2 (by omega)
  have h8z : decide ((8 : Int) < (s.size : Int)) = false := decide_eq_false (by omega)
  have t3 := L.t3; have a3 := L.a3; have z3 := L.z3; have v3 := L.v3
  have t4 := L.t4; have a4 := L.a4; have z4 := L.z4; have v4 := L.v4
  have t5 := L.t5; have a5 := L.a5; have z5 := L.z5; have v5 := L.v5
  have t9 := L.t9; have a9 := L.a9; have z9 := L.z9; have v9 := L.v9
  have t21 := L.t21; have a21 := L.a21; have z21 := L.z21; have v21 := L.v21
  have e152 : ∀ args w, (callFunc (ρ.f 152) args).run P w = .ok (.enter (ρ.f 152) args) w := enters_of L.f152 (by kernel_rfl) rfl
  have e226 : ∀ args w, (callFunc (ρ.f 226) args).run P w = .ok (.enter (ρ.f 226) args) w := enters_of L.f226 (by kernel_rfl) rfl
  go_enter L.f153, Body.n153_ntmps ρ
  go_wp2_with (go_at_fn (ρ.f 226); refine (Any.strings_shouldUseASCIISet { L with } _ _).mono ?_; rintro e w' ⟨rfl, hw⟩; rw [hw, h8z])
  go_loopg [9, 10] s.size (fun g _ _ wx => ∃ i : Nat, i + g = s.size ∧ wx.heap[w.heap.size]? = some (.stringIter s i) ∧ Below w.heap.size w wx ∧ Lib.NoAny s.data.toList chars.data.toList i)
  case atStart => exact ⟨0, by omega, World.iter_heap _ _ _, (Below.refl _ _).alloc (Nat.le_refl _) _, Lib.NoAny.zero _ _⟩
  case round =>
    obtain ⟨i, hig, hit, hbl, hno⟩ := hrel
    have HN : Aside (Lib.NoAny s.data.toList chars.data.toList i) := hno
    have HB : Aside (Below w.heap.size w wr) := hbl
    clear hno hbl
    cases gk with
    | zero =>
      obtain rfl : i = s.size := by omega
      have hnx := fun ty => run_next_end_at (P := P) wr w.heap.size s s.size ty hit (by omega)
      clear hit
      go_wp2
      go_ret
      exact ⟨by rw [Lib.indexAny_none (by rw [← Lib.size_eq]; exact HN.out)]; rfl, HB.out⟩
    | succ g =>
      have hi : i < s.size := by omega
      obtain ⟨x, hx⟩ : ∃ x : UInt8, s[i]'hi = x := ⟨_, rfl⟩
      have hxl : s.data.toList[i]? = some x := by rw [← hx]; exact Lib.data_getElem? s i hi
      by_cases hx128 : x.toNat < 128
      · have hnx := fun ty => run_next_ascii_at (P := P) wr w.heap.size s i ty hit hi (by rw [hx]; exact hx128)
        have hit2 := iterAt_heap wr w.heap.size s i (i + 1) hit
        have HI : Aside ((wr.iterAt w.heap.size s (i + 1)).heap[w.heap.size]? = some (.stringIter s (i + 1)) ∧ Below w.heap.size w (wr.iterAt w.heap.size s (i + 1))) := ⟨hit2, iterAt_below HB.out (Nat.le_refl _) _ _⟩
        clear hit2 hit
        rw [hx] at hnx
        have Hx : Aside (s.data.toList[i]? = some x) := hxl
        clear hxl hx
        have hcon := Lib.contains_iff_indexByte chars.data.toList x
        have hback : ((x.toNat : Int)).toNat.toUInt8 = x := by simp
        cases hin : chars.data.toList.contains x
        · rw [hin] at hcon
          have hlt : ¬ ((0 : Int) ≤ Lib.indexByte chars.data.toList x) := of_decide_eq_false hcon.symm
          clear hcon
          go_wp2_with (go_at_fn (ρ.f 152); refine (Any.strings_IndexRune_ascii { L with } _ _ _ (by omega) (by omega)).mono ?_; rintro e w' ⟨rfl, hw⟩; rw [hw, hback])
          go_roundg g
          case measure => omega
          case rel => exact ⟨i + 1, by omega, HI.out.1, HI.out.2, HN.out.succ Hx.out hin⟩
        · rw [hin] at hcon
          have hge : (0 : Int) ≤ Lib.indexByte chars.data.toList x := of_decide_eq_true hcon.symm
          clear hcon
          go_wp2_with (go_at_fn (ρ.f 152); refine (Any.strings_IndexRune_ascii { L with } _ _ _ (by omega) (by omega)).mono ?_; rintro e w' ⟨rfl, hw⟩; rw [hw, hback])
          go_ret
          exact ⟨by rw [Lib.indexAny_hit HN.out Hx.out hin]; rfl, HI.out.2⟩
      · obtain ⟨d1, d2, d3, d4, d5⟩ := decode_facts s i hi (by rw [hx]; omega)
        have hnx := fun ty => run_next_any_at (P := P) wr w.heap.size s i ty hit hi
        have hj : Lib.NoAny s.data.toList chars.data.toList (i + (Utf8.decode s i).2) := NoAny.jump HN.out HA.out d4 d5
        have hv : Lib.validRune ((Utf8.decode s i).1 : Int) = true := by rw [validRune_eq] at d2; exact d2
        clear d5 d2
        generalize Utf8.decode s i = q at *
        obtain ⟨c, n⟩ := q
        simp only at hnx hj hv d1 d3 d4
        have hit2 := iterAt_heap wr w.heap.size s i (i + n) hit
        have HI : Aside ((wr.iterAt w.heap.size s (i + n)).heap[w.heap.size]? = some (.stringIter s (i + n)) ∧ Below w.heap.size w (wr.iterAt w.heap.size s (i + n)) ∧ w.heap.size < (wr.iterAt w.heap.size s (i + n)).heap.size) := ⟨hit2, iterAt_below HB.out (Nat.le_refl _) _ _, (Array.getElem?_eq_some_iff.1 hit2).1⟩
        have HJ : Aside (Lib.NoAny s.data.toList chars.data.toList (i + n)) := hj
        have hc := hrune c (wr.iterAt w.heap.size s (i + n)) (by omega) hv
        generalize wr.iterAt w.heap.size s (i + n) = wi at *
        clear hit2 hit hxl hx hj hv hrune
        go_wp2_with (go_at_fn (ρ.f 152); refine hc.mono ?_; rintro e w' ⟨rfl, hw⟩)
        go_roundg (s.size - (i + n))
        case measure => omega
        case rel => exact ⟨i + n, by omega, by rw [hw.block _ HI.out.2.2]; exact HI.out.1, HI.out.2.1.trans (hw.mono (Nat.le_of_lt HI.out.2.2)), HJ.out⟩
theorem A_strings_IndexAny_set (L : Lays.n153 P ρ) (mixed : P.follows .mixedOrders = true) (hv116 : ∀ w, (zeroValue (ρ.t 116)).run P w = .ok (.agg (Array.replicate 256 (.bool false))) w) (hi116 : (P.info? (ρ.t 116)).map (·.size) = some 256) (s chars : ByteArray) (w : World) (h2 : 2 ≤ chars.size) (hcs : chars.size < 1000) (hs : s.size < 4294967281) (hascii : ∀ (j : Nat) b, chars.data.toList[j]? = some b → b.toNat < 128) :
    Calls P (ρ.f 153) #[.string s, .string chars] w fun e w' => e = .returned (.int .i64 (Lib.indexAny s.data.toList chars.data.toList)) ∧ Below w.heap.size w w' := by
  by_cases h8 : s.size ≤ 8
  · exact A_strings_IndexAny_le8 L mixed s chars w h2 hcs h8 hascii
  · refine (Any.strings_IndexAny_long L hv116 hi116 s chars w h2 (by omega) hs (by omega) hascii).mono ?_
    rintro e w' ⟨rfl, rfl⟩
    exact ⟨rfl, ((Below.refl _ _).alloc (Nat.le_refl _) _).alloc (by simp) _⟩
end Go.Proofs.YthjiclhfhjdjpaaGreatDoor
namespace Go.Proofs.YthjiclhfhjdjpaaGreatDoor
open Go.RowKit
attribute [local irreducible] wpList Calls Code.wp AW AWo OpOk seqK blockK scopeK loopK endK AC absLex Yld Sub
attribute [local irreducible] ACB ACX ACE absLexG YldG
section
variable {X : Cx} {nn : Nat} {st : Vst nn} {K : Exit → Vst nn → Prop}
set_option maxHeartbeats 8000000 in
set_option maxRecDepth 100000 in
theorem aw_cond_kt {c : Operand} {x y : Code} {b : Bool} (hc : ev st c = .c (.bool b)) (hb : b = true) (ht : AW X x st K) : AW X (.cond c x y) st K := aw_cond hc (fun _ => ht) (fun e => by rw [hb] at e; cases e)
set_option maxHeartbeats 8000000 in
set_option maxRecDepth 100000 in
theorem aw_cond_kf {c : Operand} {x y : Code} {b : Bool} (hc : ev st c = .c (.bool b)) (hb : b = false) (ht : AW X y st K) : AW X (.cond c x y) st K := aw_cond hc (fun e => by rw [hb] at e; cases e) (fun _ => ht)
end
set_option maxHeartbeats 8000000 in
set_option maxRecDepth 100000 in
theorem rel_cc {P : Program} {s : Sg} {w : World} {u v : Value} {us : Array Value} (h : relL P s w [.c u, .c v] us.toList) : us = #[u, v] := by
  obtain ⟨l⟩ := us
  match l, h with
  | [], h => simp [relL] at h
  | [x], h => simp [relL] at h
  | [x, y], h =>
    simp only [relL, rel, and_true] at h
    obtain ⟨⟨rfl, -⟩, rfl, -⟩ := h
    rfl
  | x :: y :: z :: t, h => simp [relL] at h
set_option maxHeartbeats 8000000 in
set_option maxRecDepth 100000 in
theorem rel_b {P : Program} {s : Sg} {w : World} {b : Bool} : rel P s w (.c (.bool b)) (.bool b) := by rw [rel]; exact ⟨rfl, trivial⟩
set_option maxHeartbeats 8000000 in
set_option maxRecDepth 100000 in
theorem prefix_ac (s p : ByteArray) : AC EN5 Tryz.prog 162 [.c (.string s), .c (.string p)] (.c (.bool (Lib.hasPrefix s.data.toList p.data.toList))) := by
  refine ac_of5 (u := .bool (Lib.hasPrefix s.data.toList p.data.toList)) fun σ w us hus he => ?_
  obtain rfl := rel_cc hus
  refine ⟨fun s' w' => rel_b, (Tryz.strings_HasPrefix s p w).mono ?_⟩
  rintro e w' ⟨rfl, rfl⟩
  exact ⟨rfl, Below.refl _ _⟩
set_option maxHeartbeats 8000000 in
set_option maxRecDepth 100000 in
theorem ascii_at {l : List UInt8} (h : ∀ b ∈ l, b.toNat < 128) : ∀ (j : Nat) b, l[j]? = some b → b.toNat < 128 := fun j b hj => h b (List.mem_of_getElem? hj)
set_option maxHeartbeats 8000000 in
set_option maxRecDepth 100000 in
theorem indexAny_range (x : List UInt8) (cs : List UInt8) : -1 ≤ Lib.indexAny x cs ∧ Lib.indexAny x cs ≤ x.length := by
  refine ⟨Lib.indexAny_ge _ _, ?_⟩
  induction x with
  | nil => simp [Lib.indexAny]
  | cons c r ih =>
    unfold Lib.indexAny
    split
    · simp only [List.length_cons]; omega
    · split <;> simp only [List.length_cons] <;> omega
set_option maxHeartbeats 8000000 in
set_option maxRecDepth 100000 in
theorem indexNl_ac (x : ByteArray) (hx : x.size ≤ 1000000) : AC EN5 Tryz.prog 160 [.c (.string x), .c (.string { data := #[10, 13] })] (.c (.int .i64 (Lib.indexAny x.data.toList [10, 13]))) := by
  refine ac_of5 (u := .int .i64 (Lib.indexAny x.data.toList [10, 13])) fun σ w us hus he => ?_
  obtain rfl := rel_cc hus
  have hl := indexAny_range x.data.toList [10, 13]
  have hz : x.data.toList.length = x.size := (Lib.size_eq x).symm
  have h116 : (Tryz.prog.info? (Tryz.lays153_ren.t 116)).map (fun i => (i.zero, i.size)) = some (some (.agg (Array.replicate 256 (.bool false))), 256) := by kernel_rfl
  refine ⟨fun s' w' => rel_i64 (by omega), (A_strings_IndexAny_set Tryz.lays153 (by kernel_rfl) (zero_of_info h116).1 (zero_of_info h116).2 x { data := #[10, 13] } w (by decide) (by decide) (by omega) (ascii_at (by decide))).mono ?_⟩
  rintro e w' ⟨rfl, hb⟩
  exact ⟨rfl, hb⟩
/-- the signs' bytes -/
def signsT : ByteArray := { data := #[33, 36, 38, 40, 41, 58, 61, 64, 91, 93, 123, 124, 125] }
set_option maxHeartbeats 8000000 in
set_option maxRecDepth 100000 in
theorem containsSign_ac (c : UInt8) : AC EN5 Tryz.prog 161 [.c (.string signsT), .c (.int .i32 (c.toNat : Int))] (.c (.bool (signB c))) := by
  refine ac_of5 (u := .bool (signB c)) fun σ w us hus he => ?_
  obtain rfl := rel_cc hus
  refine ⟨fun s' w' => rel_b, ?_⟩
  have hc := c.toNat_lt
  by_cases h : c.toNat < 128
  · refine (Tryz.strings_ContainsRune_ascii signsT (c.toNat : Int) w (by omega) (by omega)).mono ?_
    rintro e w' ⟨rfl, rfl⟩
    have hb : ((c.toNat : Int)).toNat.toUInt8 = c := by simp
    rw [hb, ← Lib.contains_iff_indexByte]
    exact ⟨rfl, Below.refl _ _⟩
  · have hs : signB c = false := by
      unfold signB
      rw [Bool.eq_false_iff]
      intro hx
      have := List.contains_iff_mem.1 hx
      have h3 : ∀ b ∈ ([33, 36, 38, 40, 41, 58, 61, 64, 91, 93, 123, 124, 125] : List UInt8), b.toNat < 128 := by decide
      exact h (h3 c this)
    rw [hs]
    refine (A_strings_ContainsRune_far Tryz.lays151 (by kernel_rfl) signsT (c.toNat : Int) w (by omega) (by omega) (by unfold Lib.validRune; exact decide_eq_true (by omega)) (by decide) (ascii_at (by decide))).mono ?_
    rintro e w' ⟨rfl, rfl | rfl⟩
    · exact ⟨rfl, Below.refl _ _⟩
    · exact ⟨rfl, (Below.refl _ _).drew.drew⟩
set_option maxHeartbeats 8000000 in
set_option maxRecDepth 100000 in
theorem skip_at {s : List UInt8} {k : Nat} (h : k < s.length) : skipM false (s.drop k) = if sepB s[k] then skipM false (s.drop (k + 1)) + 1 else if s[k] == 35 then skipM true (s.drop (k + 1)) + 1 else 0 := by
  rw [List.drop_eq_getElem_cons h, skipM]
set_option maxHeartbeats 8000000 in
set_option maxRecDepth 100000 in
theorem skip_comm : ∀ l : List UInt8, skipM true l = if Lib.indexAny l [10, 13] = -1 then l.length else (Lib.indexAny l [10, 13]).toNat + skipM false (l.drop (Lib.indexAny l [10, 13]).toNat)
  | [] => by simp [skipM, Lib.indexAny]
  | c :: r => by
    have ih := skip_comm r
    have hge := Lib.indexAny_ge [10, 13] r
    unfold Lib.indexAny
    by_cases h : ([10, 13] : List UInt8).contains c = true
    · rw [if_pos h, if_neg (by decide)]
      show skipM true (c :: r) = 0 + skipM false (c :: r)
      have h2 : c = 10 ∨ c = 13 := by simpa using List.contains_iff_mem.1 h
      rcases h2 with rfl | rfl <;> simp [skipM, sepB]
    · rw [if_neg h]
      have h2 : (c == 10 || c == 13) = false := by
        rw [Bool.eq_false_iff]
        intro hx
        apply h
        rw [List.contains_iff_mem]
        simpa using hx
      rw [skipM, h2]
      simp only [Bool.false_eq_true, if_false]
      rw [ih]
      by_cases h3 : Lib.indexAny r [10, 13] = -1
      · rw [if_pos h3, h3]; simp
      · have h4 : (Lib.indexAny r [10, 13] == -1) = false := by simpa using h3
        rw [if_neg h3, h4]
        simp only [Bool.false_eq_true, if_false]
        obtain ⟨n, hn⟩ : ∃ n : Nat, Lib.indexAny r [10, 13] = n := ⟨(Lib.indexAny r [10, 13]).toNat, by omega⟩
        rw [hn, if_neg (by omega)]
        have e : ((n : Int) + 1).toNat = n + 1 := by omega
        rw [e, Int.toNat_natCast, List.drop_succ_cons]
        omega
set_option maxHeartbeats 8000000 in
set_option maxRecDepth 100000 in
theorem ext_drop (s : List UInt8) (k : Nat) : ((bs s).extract ((k : Int)).toNat (bs s).size).data.toList = s.drop k := by
  have hz := bs_size s
  rw [ByteArray.data_extract, Array.toList_extract, bs_data, Int.toNat_natCast, hz]
  simp [List.extract]
  exact List.take_of_length_le (by simp)
noncomputable def HSk (s : List UInt8) (k : Nat) : Vst 36 := stS 36 [(0, .c (.string (bs s))), (1, .c (.int .i64 (k : Int)))] []
set_option maxHeartbeats 8000000 in
set_option maxRecDepth 100000 in
theorem byte_at {s : List UInt8} {k : Nat} (h : k < s.length) : byteAt (bs s) ((k : Int)).toNat = (s[k].toNat : Int) := by
  unfold byteAt
  rw [Int.toNat_natCast, at_bs h]
set_option maxHeartbeats 8000000 in
set_option maxRecDepth 100000 in
theorem skip_ac (s : List UInt8) (i : Nat) (hi : i ≤ s.length) (hs : s.length ≤ 1000000) : AC EN5 Tryz.prog 84 [.c (.string (bs s)), .c (.int .i64 (i : Int))] (.c (.int .i64 ((i + skipM false (s.drop i) : Nat) : Int))) := by
  refine ac_enter 36 Tryz.func84 rfl rfl rfl rfl ?_
  intro s0 w he
  repeat' (first
 | refine aw_seq ?_
 | refine aw_region ?_
 | refine awo_nil ?_
 | refine k_seq ?_
 | refine aw_block ?_
 | (apply s_val rfl
    · conv => lhs; whnf
    · conv => lhs; whnf; arg 2; whnf)
 | exact trivial)
  refine aw_loop (fun j st => ∃ k, k + j = s.length ∧ i + skipM false (s.drop i) = k + skipM false (s.drop k) ∧ Sub (cx EN5 Tryz.prog s0 w he) st (HSk s k)) (s.length - i) ⟨i, by omega, rfl, ?_⟩ ?_
  · exact Sub.live ⟨rfl, rfl, trivial⟩ trivial
  rintro j st ⟨k, hkj, hI, hs2⟩
  refine aw_sub hs2 ?_
  clear hs2
  rw [hI]
  clear hI
  have hz := bs_size s
  have hex : ((bs s).extract ((k : Int)).toNat (bs s).size).size ≤ 1000000 := by rw [ByteArray.size_extract]; omega
  have hix := indexNl_ac ((bs s).extract ((k : Int)).toNat (bs s).size) hex
  by_cases hk : k < s.length
  · have f0 : decide ((k : Int) < ((bs s).size : Nat)) = true := decide_eq_true (by omega)
    have hbt := byte_at hk
    have hsk := skip_at hk
    have hdr : s.drop k = s[k] :: s.drop (k + 1) := List.drop_eq_getElem_cons hk
    generalize s[k] = c at hbt hsk hdr
    have q : ∀ n : Nat, n < 256 → (byteAt (bs s) ((k : Int)).toNat == (n : Int)) = (c == UInt8.ofNat n) := fun n hn => by rw [hbt]; exact u8_eq c n hn
    by_cases h32 : c = 32
    · have f32 : (byteAt (bs s) ((k : Int)).toNat == 32) = true := (q 32 (by omega)).trans (by rw [h32]; rfl)
      have hs1 : skipM false (s.drop k) = skipM false (s.drop (k + 1)) + 1 := by rw [hsk, h32]; rfl
      repeat' (first
 | (apply aw_cond_kt
    · conv => lhs; whnf
    · assumption)
 | refine aw_seq ?_
 | refine aw_region ?_
 | refine awo_nil ?_
 | refine k_seq ?_
 | refine k_block ?_
 | refine aw_block ?_
 | refine aw_skip ?_
 | (apply s_val rfl
    · conv => lhs; whnf
    · conv => lhs; whnf; arg 2; whnf)
 | exact trivial)
      all_goals first
        | exact i64_ok (by omega)
        | exact ⟨by kernel_rfl, by omega, by rw [bs_size]; omega⟩
        | exact (show Tryz.prog.underlying _ = some TypeDesc.string by kernel_rfl)
        | refine k_loop_next (j' := j - 1) (by omega) ⟨k + 1, by omega, by omega, Sub.live ⟨rfl, rfl, trivial⟩ trivial⟩
    have f32 : (byteAt (bs s) ((k : Int)).toNat == 32) = false := (q 32 (by omega)).trans (by simpa using h32)
    by_cases h9 : c = 9
    · have f9 : (byteAt (bs s) ((k : Int)).toNat == 9) = true := (q 9 (by omega)).trans (by rw [h9]; rfl)
      have hs1 : skipM false (s.drop k) = skipM false (s.drop (k + 1)) + 1 := by rw [hsk, h9]; rfl
      repeat' (first
 | (apply aw_cond_kt
    · conv => lhs; whnf
    · assumption)
 | (apply aw_cond_kf
    · conv => lhs; whnf
    · assumption)
 | refine aw_seq ?_
 | refine aw_region ?_
 | refine awo_nil ?_
 | refine k_seq ?_
 | refine k_block ?_
 | refine aw_block ?_
 | refine aw_skip ?_
 | (apply s_val rfl
    · conv => lhs; whnf
    · conv => lhs; whnf; arg 2; whnf)
 | exact trivial)
      all_goals first
        | exact i64_ok (by omega)
        | exact ⟨by kernel_rfl, by omega, by rw [bs_size]; omega⟩
        | exact (show Tryz.prog.underlying _ = some TypeDesc.string by kernel_rfl)
        | refine k_loop_next (j' := j - 1) (by omega) ⟨k + 1, by omega, by omega, Sub.live ⟨rfl, rfl, trivial⟩ trivial⟩
    have f9 : (byteAt (bs s) ((k : Int)).toNat == 9) = false := (q 9 (by omega)).trans (by simpa using h9)
    by_cases h10 : c = 10
    · have f10 : (byteAt (bs s) ((k : Int)).toNat == 10) = true := (q 10 (by omega)).trans (by rw [h10]; rfl)
      have hs1 : skipM false (s.drop k) = skipM false (s.drop (k + 1)) + 1 := by rw [hsk, h10]; rfl
      repeat' (first
 | (apply aw_cond_kt
    · conv => lhs; whnf
    · assumption)
 | (apply aw_cond_kf
    · conv => lhs; whnf
    · assumption)
 | refine aw_seq ?_
 | refine aw_region ?_
 | refine awo_nil ?_
 | refine k_seq ?_
 | refine k_block ?_
 | refine aw_block ?_
 | refine aw_skip ?_
 | (apply s_val rfl
    · conv => lhs; whnf
    · conv => lhs; whnf; arg 2; whnf)
 | exact trivial)
      all_goals first
        | exact i64_ok (by omega)
        | exact ⟨by kernel_rfl, by omega, by rw [bs_size]; omega⟩
        | exact (show Tryz.prog.underlying _ = some TypeDesc.string by kernel_rfl)
        | refine k_loop_next (j' := j - 1) (by omega) ⟨k + 1, by omega, by omega, Sub.live ⟨rfl, rfl, trivial⟩ trivial⟩
    have f10 : (byteAt (bs s) ((k : Int)).toNat == 10) = false := (q 10 (by omega)).trans (by simpa using h10)
    by_cases h13 : c = 13
    · have f13 : (byteAt (bs s) ((k : Int)).toNat == 13) = true := (q 13 (by omega)).trans (by rw [h13]; rfl)
      have hs1 : skipM false (s.drop k) = skipM false (s.drop (k + 1)) + 1 := by rw [hsk, h13]; rfl
      repeat' (first
 | (apply aw_cond_kt
    · conv => lhs; whnf
    · assumption)
 | (apply aw_cond_kf
    · conv => lhs; whnf
    · assumption)
 | refine aw_seq ?_
 | refine aw_region ?_
 | refine awo_nil ?_
 | refine k_seq ?_
 | refine k_block ?_
 | refine aw_block ?_
 | refine aw_skip ?_
 | (apply s_val rfl
    · conv => lhs; whnf
    · conv => lhs; whnf; arg 2; whnf)
 | exact trivial)
      all_goals first
        | exact i64_ok (by omega)
        | exact ⟨by kernel_rfl, by omega, by rw [bs_size]; omega⟩
        | exact (show Tryz.prog.underlying _ = some TypeDesc.string by kernel_rfl)
        | refine k_loop_next (j' := j - 1) (by omega) ⟨k + 1, by omega, by omega, Sub.live ⟨rfl, rfl, trivial⟩ trivial⟩
    have f13 : (byteAt (bs s) ((k : Int)).toNat == 13) = false := (q 13 (by omega)).trans (by simpa using h13)
    by_cases h44 : c = 44
    · have f44 : (byteAt (bs s) ((k : Int)).toNat == 44) = true := (q 44 (by omega)).trans (by rw [h44]; rfl)
      have hs1 : skipM false (s.drop k) = skipM false (s.drop (k + 1)) + 1 := by rw [hsk, h44]; rfl
      repeat' (first
 | (apply aw_cond_kt
    · conv => lhs; whnf
    · assumption)
 | (apply aw_cond_kf
    · conv => lhs; whnf
    · assumption)
 | refine aw_seq ?_
 | refine aw_region ?_
 | refine awo_nil ?_
 | refine k_seq ?_
 | refine k_block ?_
 | refine aw_block ?_
 | refine aw_skip ?_
 | (apply s_val rfl
    · conv => lhs; whnf
    · conv => lhs; whnf; arg 2; whnf)
 | exact trivial)
      all_goals first
        | exact i64_ok (by omega)
        | exact ⟨by kernel_rfl, by omega, by rw [bs_size]; omega⟩
        | exact (show Tryz.prog.underlying _ = some TypeDesc.string by kernel_rfl)
        | refine k_loop_next (j' := j - 1) (by omega) ⟨k + 1, by omega, by omega, Sub.live ⟨rfl, rfl, trivial⟩ trivial⟩
    have f44 : (byteAt (bs s) ((k : Int)).toNat == 44) = false := (q 44 (by omega)).trans (by simpa using h44)
    have hns : sepB c = false := by simp [sepB, h32, h9, h10, h13, h44]
    by_cases h35 : c = 35
    · have f35 : (byteAt (bs s) ((k : Int)).toNat == 35) = true := (q 35 (by omega)).trans (by rw [h35]; rfl)
      have hx := ext_drop s k
      have hcm : skipM false (s.drop k) = skipM true (s.drop k) := by rw [hsk, hns, hdr, h35]; rfl
      have hco := skip_comm (s.drop k)
      rw [← hcm] at hco
      have hra := indexAny_range (s.drop k) [10, 13]
      rw [List.length_drop] at hra
      have h1 : Lib.indexAny (s.drop k) [10, 13] ≠ 0 := by
        rw [hdr, h35]
        have := Lib.indexAny_ge [10, 13] (s.drop (k + 1))
        unfold Lib.indexAny
        rw [if_neg (by decide)]
        split
        · decide
        · rename_i hq
          have hq2 : ¬ Lib.indexAny (s.drop (k + 1)) [10, 13] = -1 := by simpa using hq
          omega
      rw [hx] at hix
      repeat' (first
 | (apply aw_cond_kt
    · conv => lhs; whnf
    · assumption)
 | (apply aw_cond_kf
    · conv => lhs; whnf
    · assumption)
 | refine aw_seq ?_
 | refine aw_region ?_
 | refine awo_nil ?_
 | refine k_seq ?_
 | refine k_block ?_
 | refine aw_block ?_
 | refine aw_skip ?_
 | (apply s_val rfl
    · conv => lhs; whnf
    · conv => lhs; whnf; arg 2; whnf)
 | (apply s_call rfl
    · conv => lhs; whnf
    · conv => lhs; whnf
    · first | exact hix)
 | (refine aw_cond (by conv => lhs; whnf) ?_ ?_ <;> intro hb)
 | exact trivial)
      · obtain ⟨n, hn⟩ : ∃ n : Nat, Lib.indexAny (s.drop k) [10, 13] = n := ⟨(Lib.indexAny (s.drop k) [10, 13]).toNat, by simp at hb; omega⟩
        rw [hn] at hco hra h1 ⊢
        rw [if_neg (by omega), Int.toNat_natCast, List.drop_drop] at hco
        refine k_loop_next (j' := j - n) (by omega) ⟨k + n, by omega, by omega, Sub.live ⟨rfl, rfl, trivial⟩ trivial⟩
      · exact i64_ok (by omega)
      · have h2 : Lib.indexAny (s.drop k) [10, 13] = -1 := by simp at hb; omega
        rw [if_pos h2, List.length_drop] at hco
        refine k_loop_next (j' := 0) (by omega) ⟨s.length, by omega, by rw [hco, List.drop_length]; show k + (s.length - k) = s.length + 0; omega, Sub.live ⟨rfl, ?_, trivial⟩ trivial⟩
        show V.c (.int .i64 ((bs s).size : Nat)) = V.c (.int .i64 (s.length : Nat))
        rw [hz]
      all_goals first
        | exact (show Tryz.prog.underlying _ = some TypeDesc.string by kernel_rfl)
        | exact ⟨by kernel_rfl, by omega, by rw [bs_size]; omega⟩
    have f35 : (byteAt (bs s) ((k : Int)).toNat == 35) = false := (q 35 (by omega)).trans (by simpa using h35)
    have hs1 : skipM false (s.drop k) = 0 := by rw [hsk, hns]; simp [h35]
    repeat' (first
 | (apply aw_cond_kt
    · conv => lhs; whnf
    · assumption)
 | (apply aw_cond_kf
    · conv => lhs; whnf
    · assumption)
 | refine aw_seq ?_
 | refine aw_region ?_
 | refine awo_nil ?_
 | refine k_seq ?_
 | refine aw_block ?_
 | refine aw_skip ?_
 | (apply s_val rfl
    · conv => lhs; whnf
    · conv => lhs; whnf; arg 2; whnf)
 | refine aw_ret ?_
 | refine k_seq_ret ?_
 | refine k_block_ret ?_
 | refine k_loop_ret ?_
 | refine k_end_ret ?_
 | (refine ⟨_, by conv => lhs; whnf; arg 2; whnf, ?_⟩; conv => rhs; whnf)
 | exact trivial)
    · rw [hs1]; rfl
    all_goals first
      | exact (show Tryz.prog.underlying _ = some TypeDesc.string by kernel_rfl)
      | exact ⟨by kernel_rfl, by omega, by rw [bs_size]; omega⟩
  · have f0 : decide ((k : Int) < ((bs s).size : Nat)) = false := decide_eq_false (by omega)
    have hs1 : skipM false (s.drop k) = 0 := by rw [List.drop_of_length_le (by omega)]; rfl
    repeat' (first
 | (apply aw_cond_kf
    · conv => lhs; whnf
    · assumption)
 | refine aw_seq ?_
 | refine aw_region ?_
 | refine awo_nil ?_
 | refine k_seq ?_
 | (apply s_val rfl
    · conv => lhs; whnf
    · conv => lhs; whnf; arg 2; whnf)
 | refine aw_ret ?_
 | refine aw_exit ?_
 | refine k_seq_exit ?_
 | refine k_block_hit rfl ?_
 | refine k_loop_exit ?_
 | refine k_end_ret ?_
 | (refine ⟨_, by conv => lhs; whnf; arg 2; whnf, ?_⟩; conv => rhs; whnf)
 | exact trivial)
    · rw [hs1]; rfl
    · exact (show Tryz.prog.underlying _ = some TypeDesc.string by kernel_rfl)
end Go.Proofs.YthjiclhfhjdjpaaGreatDoor
namespace Go.Proofs.YthjiclhfhjdjpaaGreatDoor
open Go.RowKit
set_option linter.unusedSectionVars false
attribute [local irreducible] wpList Calls Code.wp AW AWo OpOk seqK blockK scopeK loopK endK AC absLex Yld Sub
attribute [local irreducible] ACB ACX ACE absLexG YldG
def tupR (t : Tok) (k : Nat) (e : Int) : V := .tup [.agg (tokC t), .c (.int .i64 (k : Int)), .c (.int .i64 e)]
def failR : V := tupR ⟨0, [], 0⟩ 0 3
/-- what token.read hands back -/
def readV (l : List UInt8) (i : Nat) : V :=
  match l with
  | [] => .any
  | c :: r =>
    if signB c then tupR ⟨1, [c], i⟩ (i + 1) 0
    else if c == 46 then (if r.take 2 = [46, 46] then tupR ⟨1, [46, 46, 46], i⟩ (i + 3) 0 else failR)
    else if c == 45 || digU c then tupR ⟨3, c :: r.take (spanN wrdU r), i⟩ (i + 1 + spanN wrdU r) (nerU (numU (c :: r.take (spanN wrdU r))))
    else if wrdU c then (if spanN wrdU r + 1 > 64 then failR else tupR ⟨2, c :: r.take (spanN wrdU r), i⟩ (i + 1 + spanN wrdU r) 0)
    else if c == 34 then
      (match litN r with
      | none => failR
      | some n => tupR ⟨4, (unquoteU (c :: r.take n)).getD [], i⟩ (i + 1 + n) (uqE (unquoteU (c :: r.take n))))
    else failR
set_option maxHeartbeats 8000000 in
set_option maxRecDepth 100000 in
theorem ext_bs (s : List UInt8) {a b : Nat} (ha : a ≤ b) (hb : b ≤ s.length) : (bs s).extract a b = bs ((s.drop a).take (b - a)) := by
  apply ByteArray.ext
  rw [ByteArray.data_extract]
  apply Array.ext'
  rw [Array.toList_extract, bs_data, bs_data]
section
variable {s : List UInt8} {i : Nat} (hi : i < s.length) (hs : s.length ≤ 70000)
include hi hs
set_option maxHeartbeats 8000000 in
set_option maxRecDepth 100000 in
theorem read_sign (h : signB s[i] = true) : AC EN5 Tryz.prog 85 [.c (.string (bs s)), .c (.int .i64 (i : Int))] (tupR ⟨1, [s[i]], i⟩ (i + 1) 0) := by
  have hz := bs_size s
  have hbt := byte_at hi
  have hgd := at_bs hi
  have hdr : s.drop i = s[i] :: s.drop (i + 1) := List.drop_eq_getElem_cons hi
  have q : ∀ n : Nat, n < 256 → (byteAt (bs s) ((i : Int)).toNat == (n : Int)) = (s[i] == UInt8.ofNat n) := fun n hn => by rw [hbt]; exact u8_eq _ n hn
  have hsg := containsSign_ac ((bs s).data.toList.getD ((i : Int)).toNat 0)
  have f0 : signB ((bs s).data.toList.getD ((i : Int)).toNat 0) = true := by rw [Int.toNat_natCast, hgd]; exact h
  have hx : (bs s).extract ((i : Int)).toNat (((i : Int) + 1)).toNat = bs [s[i]] := by
    rw [show (((i : Int) + 1)).toNat = i + 1 by omega, Int.toNat_natCast, ext_bs s (by omega) (by omega), hdr, Nat.add_sub_cancel_left]; rfl
  refine ac_enter 116 Tryz.func85 rfl rfl rfl rfl ?_
  intro s0 w he
  repeat' (first
 | (apply aw_cond_kt
    · conv => lhs; whnf
    · assumption)
 | refine aw_seq ?_
 | refine aw_region ?_
 | refine awo_nil ?_
 | refine k_seq ?_
 | refine aw_block ?_
 | (apply s_val rfl
    · conv => lhs; whnf
    · conv => lhs; whnf; arg 2; whnf)
 | (apply s_call rfl
    · conv => lhs; whnf
    · conv => lhs; whnf
    · first | exact hsg)
 | (apply s_alloc rfl rfl rfl rfl
    · conv => lhs; whnf; arg 1; whnf
    · rfl)
 | (apply s_store rfl rfl rfl
    · conv => lhs; whnf
    · conv => lhs; whnf; arg 1; whnf
    · conv => lhs; whnf; arg 1; whnf
    · exact ⟨by kernel_rfl, by kernel_rfl⟩
    · rfl)
 | refine aw_ret ?_
 | refine k_seq_ret ?_
 | refine k_block_ret ?_
 | refine k_end_ret ?_
 | exact trivial)
  · refine ⟨_, _, _, rfl, rfl, rfl, ?_⟩
    show _ = V.tup [.agg [.c (.int .i64 1), .c (.string ((bs s).extract ((i : Int)).toNat (((i : Int) + 1)).toNat)), .c (.int .i64 (i : Int))], .c (.int .i64 ((i : Int) + 1)), .c (.int .i64 0)]
    rw [hx]; rfl
  all_goals first
    | exact i64_ok (by omega)
    | exact ⟨by kernel_rfl, by omega, by omega⟩
    | exact ⟨by kernel_rfl, by omega, by omega, by omega⟩
    | (rw [hbt]; exact byte_i32 _)
    | exact (show Tryz.prog.underlying _ = some TypeDesc.string by kernel_rfl)
    | skip
set_option maxHeartbeats 8000000 in
set_option maxRecDepth 100000 in
theorem read_dots (h0 : signB s[i] = false) (h : s[i] = 46) (b : Bool) (hb : Lib.hasPrefix (s.drop i) [46, 46, 46] = b) (hl : b = true → i + 3 ≤ s.length) : AC EN5 Tryz.prog 85 [.c (.string (bs s)), .c (.int .i64 (i : Int))] (if b = true then tupR ⟨1, [46, 46, 46], i⟩ (i + 3) 0 else failR) := by
  have hz := bs_size s
  have hbt := byte_at hi
  have hgd := at_bs hi
  have hdr : s.drop i = s[i] :: s.drop (i + 1) := List.drop_eq_getElem_cons hi
  have q : ∀ n : Nat, n < 256 → (byteAt (bs s) ((i : Int)).toNat == (n : Int)) = (s[i] == UInt8.ofNat n) := fun n hn => by rw [hbt]; exact u8_eq _ n hn
  have hsg := containsSign_ac ((bs s).data.toList.getD ((i : Int)).toNat 0)
  have f0 : signB ((bs s).data.toList.getD ((i : Int)).toNat 0) = false := by rw [Int.toNat_natCast, hgd]; exact h0
  have f1 : (byteAt (bs s) ((i : Int)).toNat == 46) = true := (q 46 (by omega)).trans (by rw [h]; rfl)
  have hpr := prefix_ac ((bs s).extract ((i : Int)).toNat (bs s).size) { data := #[46, 46, 46] }
  rw [ext_drop] at hpr
  have hb2 : Lib.hasPrefix (s.drop i) ({ data := #[46, 46, 46] } : ByteArray).data.toList = b := hb
  rw [hb2] at hpr
  cases b
  · refine ac_enter 116 Tryz.func85 rfl rfl rfl rfl ?_
    intro s0 w he
    repeat' (first
 | (apply aw_cond_kt
    · conv => lhs; whnf
    · assumption)
 | (apply aw_cond_kf
    · conv => lhs; whnf
    · assumption)
 | refine aw_seq ?_
 | refine aw_region ?_
 | refine awo_nil ?_
 | refine k_seq ?_
 | refine aw_block ?_
 | (apply s_val rfl
    · conv => lhs; whnf
    · conv => lhs; whnf; arg 2; whnf)
 | (apply s_call rfl
    · conv => lhs; whnf
    · conv => lhs; whnf
    · first | exact hsg | exact hpr)
 | (apply s_alloc rfl rfl rfl rfl
    · conv => lhs; whnf; arg 1; whnf
    · rfl)
 | (apply s_store rfl rfl rfl
    · conv => lhs; whnf
    · conv => lhs; whnf; arg 1; whnf
    · conv => lhs; whnf; arg 1; whnf
    · exact ⟨by kernel_rfl, by kernel_rfl⟩
    · rfl)
 | (apply aw_cond_t
    · conv => lhs; whnf; arg 1; arg 1; whnf)
 | refine aw_ret ?_
 | refine k_seq_ret ?_
 | refine k_block_ret ?_
 | refine k_end_ret ?_
 | exact trivial)
    · exact ⟨_, _, _, rfl, rfl, rfl, rfl⟩
    all_goals first
      | exact i64_ok (by omega)
      | exact ⟨by kernel_rfl, by omega, by omega⟩
      | exact ⟨by kernel_rfl, by omega, by omega, by omega⟩
      | (rw [hbt]; exact byte_i32 _)
      | exact (show Tryz.prog.underlying _ = some TypeDesc.string by kernel_rfl)
      | skip
  · have hl2 := hl rfl
    refine ac_enter 116 Tryz.func85 rfl rfl rfl rfl ?_
    intro s0 w he
    repeat' (first
 | (apply aw_cond_kt
    · conv => lhs; whnf
    · assumption)
 | (apply aw_cond_kf
    · conv => lhs; whnf
    · assumption)
 | refine aw_seq ?_
 | refine aw_region ?_
 | refine awo_nil ?_
 | refine k_seq ?_
 | refine aw_block ?_
 | refine aw_skip ?_
 | (apply s_val rfl
    · conv => lhs; whnf
    · conv => lhs; whnf; arg 2; whnf)
 | (apply s_call rfl
    · conv => lhs; whnf
    · conv => lhs; whnf
    · first | exact hsg | exact hpr)
 | (apply s_alloc rfl rfl rfl rfl
    · conv => lhs; whnf; arg 1; whnf
    · rfl)
 | (apply s_store rfl rfl rfl
    · conv => lhs; whnf
    · conv => lhs; whnf; arg 1; whnf
    · conv => lhs; whnf; arg 1; whnf
    · exact ⟨by kernel_rfl, by kernel_rfl⟩
    · rfl)
 | (apply aw_cond_f
    · conv => lhs; whnf; arg 1; arg 1; whnf)
 | refine aw_ret ?_
 | refine k_seq_ret ?_
 | refine k_block_ret ?_
 | refine k_end_ret ?_
 | exact trivial)
    · exact ⟨_, _, _, rfl, rfl, rfl, rfl⟩
    all_goals first
      | exact i64_ok (by omega)
      | exact ⟨by kernel_rfl, by omega, by omega⟩
      | exact ⟨by kernel_rfl, by omega, by omega, by omega⟩
      | (rw [hbt]; exact byte_i32 _)
      | exact (show Tryz.prog.underlying _ = some TypeDesc.string by kernel_rfl)
      | skip
set_option maxHeartbeats 8000000 in
set_option maxRecDepth 100000 in
theorem read_num (h0 : signB s[i] = false) (h46 : s[i] ≠ 46) (h : s[i] = 45 ∨ (s[i] ≠ 45 ∧ digU s[i] = true)) :
    AC EN5 Tryz.prog 85 [.c (.string (bs s)), .c (.int .i64 (i : Int))] (tupR ⟨3, s[i] :: (s.drop (i + 1)).take (spanN wrdU (s.drop (i + 1))), i⟩ (i + 1 + spanN wrdU (s.drop (i + 1))) (nerU (numU (s[i] :: (s.drop (i + 1)).take (spanN wrdU (s.drop (i + 1))))))) := by
  have hz := bs_size s
  have hbt := byte_at hi
  have hgd := at_bs hi
  have hdr : s.drop i = s[i] :: s.drop (i + 1) := List.drop_eq_getElem_cons hi
  have q : ∀ n : Nat, n < 256 → (byteAt (bs s) ((i : Int)).toNat == (n : Int)) = (s[i] == UInt8.ofNat n) := fun n hn => by rw [hbt]; exact u8_eq _ n hn
  have hsg := containsSign_ac ((bs s).data.toList.getD ((i : Int)).toNat 0)
  have f0 : signB ((bs s).data.toList.getD ((i : Int)).toNat 0) = false := by rw [Int.toNat_natCast, hgd]; exact h0
  have hle := spanN_le wrdU (s.drop (i + 1))
  rw [List.length_drop] at hle
  have f1 : (byteAt (bs s) ((i : Int)).toNat == 46) = false := (q 46 (by omega)).trans (by simpa using h46)
  have hsp := span_ac s (i + 1) (by omega) (by omega)
  have hx : (bs s).extract ((i : Int)).toNat (((i + 1 + spanN wrdU (s.drop (i + 1)) : Nat) : Int)).toNat = bs (s[i] :: (s.drop (i + 1)).take (spanN wrdU (s.drop (i + 1)))) := by
    rw [Int.toNat_natCast, Int.toNat_natCast, ext_bs s (by omega) (by omega), hdr, show i + 1 + spanN wrdU (s.drop (i + 1)) - i = spanN wrdU (s.drop (i + 1)) + 1 by omega, List.take_succ_cons]
  have hsz : ((bs s).extract ((i : Int)).toNat (((i + 1 + spanN wrdU (s.drop (i + 1)) : Nat) : Int)).toNat).size ≤ 281474976710656 := by rw [ByteArray.size_extract]; omega
  have hnu := numberP_ac _ hsz
  unfold numVV at hnu
  have htx : tx ((bs s).extract ((i : Int)).toNat (((i + 1 + spanN wrdU (s.drop (i + 1)) : Nat) : Int)).toNat) = s[i] :: (s.drop (i + 1)).take (spanN wrdU (s.drop (i + 1))) := by rw [hx]; exact bs_data _
  rw [htx] at hnu
  have k45 : s[i] = 45 → ((byteAt (bs s) ((i : Int)).toNat == 45) == false) = true → False := fun h h2 => by
    have e : (byteAt (bs s) ((i : Int)).toNat == 45) = true := (q 45 (by omega)).trans (by rw [h]; rfl)
    rw [e] at h2; cases h2
  have kn45 : s[i] ≠ 45 → ((byteAt (bs s) ((i : Int)).toNat == 45) == false) = false → False := fun h h2 => by
    have e : (byteAt (bs s) ((i : Int)).toNat == 45) = false := (q 45 (by omega)).trans (by simpa using h)
    rw [e] at h2; cases h2
  have kge : 48 ≤ s[i].toNat → (decide (byteAt (bs s) ((i : Int)).toNat ≥ 48) == true) = false → False := fun h h2 => by
    rw [hbt, decide_eq_true (show ((s[i].toNat : Nat) : Int) ≥ 48 by omega)] at h2; cases h2
  have kng : s[i].toNat < 48 → (decide (byteAt (bs s) ((i : Int)).toNat ≥ 48) == true) = true → False := fun h h2 => by
    rw [hbt, decide_eq_false (show ¬ ((s[i].toNat : Nat) : Int) ≥ 48 by omega)] at h2; cases h2
  rcases h with h | ⟨h, hd⟩
  · have f2 : (byteAt (bs s) ((i : Int)).toNat == 45) = true := (q 45 (by omega)).trans (by rw [h]; rfl)
    have k1 := k45 h
    refine ac_enter 116 Tryz.func85 rfl rfl rfl rfl ?_
    intro s0 w he
    repeat' (first
 | (apply aw_cond_kf
    · conv => lhs; whnf
    · assumption)
 | exact (k1 (by assumption)).elim
 | refine aw_seq ?_
 | refine aw_region ?_
 | refine awo_nil ?_
 | refine k_seq ?_
 | refine aw_block ?_
 | (apply s_pick_t rfl rfl
    · conv => lhs; whnf
    · conv => lhs; whnf
    · first | exact bT1 (by assumption) | exact bT2 (by assumption))
 | (apply s_val rfl
    · conv => lhs; whnf
    · conv => lhs; whnf; arg 2; whnf)
 | (apply s_call rfl
    · conv => lhs; whnf
    · conv => lhs; whnf
    · first | exact hsg | exact hsp | exact hnu)
 | (apply s_alloc rfl rfl rfl rfl
    · conv => lhs; whnf; arg 1; whnf
    · rfl)
 | (apply s_store rfl rfl rfl
    · conv => lhs; whnf
    · conv => lhs; whnf; arg 1; whnf
    · conv => lhs; whnf; arg 1; whnf
    · exact ⟨by kernel_rfl, by kernel_rfl⟩
    · rfl)
 | (apply s_skipU rfl
    · conv => lhs; whnf
    · conv => lhs; whnf
    · first | rfl | assumption)
 | (apply s_dead rfl
    · conv => lhs; whnf
    · rfl
    · rfl)
 | (apply s_guard_valU rfl
    · conv => lhs; whnf
    · conv => lhs; whnf
    · conv => lhs; whnf; arg 2; whnf)
 | (apply aw_cond_t
    · conv => lhs; whnf; arg 1; arg 1; whnf)
 | refine aw_ret ?_
 | refine k_seq_ret ?_
 | refine k_block_ret ?_
 | refine k_end_ret ?_
 | exact trivial
 | intro hg)
    · refine ⟨_, _, _, rfl, rfl, rfl, ?_⟩
      show _ = V.tup [.agg [.c (.int .i64 3), .c (.string ((bs s).extract ((i : Int)).toNat (((i + 1 + spanN wrdU (s.drop (i + 1)) : Nat) : Int)).toNat)), .c (.int .i64 (i : Int))], .c (.int .i64 ((i + 1 + spanN wrdU (s.drop (i + 1)) : Nat) : Int)), .c (.int .i64 (nerU (numU (s[i] :: (s.drop (i + 1)).take (spanN wrdU (s.drop (i + 1)))))))]
      rw [hx]; rfl
    all_goals first
      | exact i64_ok (by omega)
      | exact ⟨by kernel_rfl, by omega, by omega⟩
      | exact ⟨by kernel_rfl, by omega, by omega, by omega⟩
      | (rw [hbt]; exact byte_i32 _)
      | exact (show Tryz.prog.underlying _ = some TypeDesc.string by kernel_rfl)
      | skip
  · have f2 : (byteAt (bs s) ((i : Int)).toNat == 45) = false := (q 45 (by omega)).trans (by simpa using h)
    have hd2 : 48 ≤ s[i].toNat ∧ s[i].toNat ≤ 57 := by simpa [digU] using hd
    have f3 : decide (byteAt (bs s) ((i : Int)).toNat ≥ 48) = true := by rw [hbt]; exact decide_eq_true (by omega)
    have f4 : decide (byteAt (bs s) ((i : Int)).toNat ≤ 57) = true := by rw [hbt]; exact decide_eq_true (by omega)
    have k1 := kn45 h
    have k2 := kge hd2.1
    refine ac_enter 116 Tryz.func85 rfl rfl rfl rfl ?_
    intro s0 w he
    repeat' (first
 | (apply s_wpick_t rfl rfl rfl
    · conv => lhs; whnf
    · first | rfl | assumption
    · conv => lhs; whnf
    · first | exact bT1 (by assumption) | exact bT2 (by assumption) | rfl)
 | (apply aw_cond_kt
    · conv => lhs; whnf
    · assumption)
 | (apply aw_cond_kf
    · conv => lhs; whnf
    · assumption)
 | exact (k1 (by assumption)).elim
 | exact (k2 (by assumption)).elim
 | refine aw_seq ?_
 | refine aw_region ?_
 | refine awo_nil ?_
 | refine k_seq ?_
 | refine aw_block ?_
 | (apply s_pick_f rfl rfl
    · conv => lhs; whnf
    · conv => lhs; whnf
    · first | exact bF1 (by assumption) | exact bF2 (by assumption))
 | (apply s_val rfl
    · conv => lhs; whnf
    · conv => lhs; whnf; arg 2; whnf)
 | (apply s_call rfl
    · conv => lhs; whnf
    · conv => lhs; whnf
    · first | exact hsg | exact hsp | exact hnu)
 | (apply s_alloc rfl rfl rfl rfl
    · conv => lhs; whnf; arg 1; whnf
    · rfl)
 | (apply s_store rfl rfl rfl
    · conv => lhs; whnf
    · conv => lhs; whnf; arg 1; whnf
    · conv => lhs; whnf; arg 1; whnf
    · exact ⟨by kernel_rfl, by kernel_rfl⟩
    · rfl)
 | (apply s_wanted_val rfl
    · conv => lhs; whnf
    · conv => lhs; whnf
    · first | rfl | assumption
    · conv => lhs; whnf; arg 2; whnf)
 | (apply s_guard_valU rfl
    · conv => lhs; whnf
    · conv => lhs; whnf
    · conv => lhs; whnf; arg 2; whnf)
 | refine aw_ret ?_
 | refine k_seq_ret ?_
 | refine k_block_ret ?_
 | refine k_end_ret ?_
 | exact trivial
 | intro hg)
    · refine ⟨_, _, _, rfl, rfl, rfl, ?_⟩
      show _ = V.tup [.agg [.c (.int .i64 3), .c (.string ((bs s).extract ((i : Int)).toNat (((i + 1 + spanN wrdU (s.drop (i + 1)) : Nat) : Int)).toNat)), .c (.int .i64 (i : Int))], .c (.int .i64 ((i + 1 + spanN wrdU (s.drop (i + 1)) : Nat) : Int)), .c (.int .i64 (nerU (numU (s[i] :: (s.drop (i + 1)).take (spanN wrdU (s.drop (i + 1)))))))]
      rw [hx]; rfl
    all_goals first
      | exact i64_ok (by omega)
      | exact ⟨by kernel_rfl, by omega, by omega⟩
      | exact ⟨by kernel_rfl, by omega, by omega, by omega⟩
      | (rw [hbt]; exact byte_i32 _)
      | exact (show Tryz.prog.underlying _ = some TypeDesc.string by kernel_rfl)
      | skip
set_option maxHeartbeats 8000000 in
set_option maxRecDepth 100000 in
theorem read_word (h0 : signB s[i] = false) (h46 : s[i] ≠ 46) (h45 : s[i] ≠ 45) (hr : s[i].toNat < 48 ∨ 57 < s[i].toNat) (hw : wrdU s[i] = true) (hlen : spanN wrdU (s.drop (i + 1)) + 1 ≤ 64) : AC EN5 Tryz.prog 85 [.c (.string (bs s)), .c (.int .i64 (i : Int))] (tupR ⟨2, s[i] :: (s.drop (i + 1)).take (spanN wrdU (s.drop (i + 1))), i⟩ (i + 1 + spanN wrdU (s.drop (i + 1))) 0) := by
  have hz := bs_size s
  have hbt := byte_at hi
  have hgd := at_bs hi
  have hdr : s.drop i = s[i] :: s.drop (i + 1) := List.drop_eq_getElem_cons hi
  have q : ∀ n : Nat, n < 256 → (byteAt (bs s) ((i : Int)).toNat == (n : Int)) = (s[i] == UInt8.ofNat n) := fun n hn => by rw [hbt]; exact u8_eq _ n hn
  have hsg := containsSign_ac ((bs s).data.toList.getD ((i : Int)).toNat 0)
  have f0 : signB ((bs s).data.toList.getD ((i : Int)).toNat 0) = false := by rw [Int.toNat_natCast, hgd]; exact h0
  have hle := spanN_le wrdU (s.drop (i + 1))
  rw [List.length_drop] at hle
  have f1 : (byteAt (bs s) ((i : Int)).toNat == 46) = false := (q 46 (by omega)).trans (by simpa using h46)
  have k45 : s[i] = 45 → ((byteAt (bs s) ((i : Int)).toNat == 45) == false) = true → False := fun h h2 => by
    have e : (byteAt (bs s) ((i : Int)).toNat == 45) = true := (q 45 (by omega)).trans (by rw [h]; rfl)
    rw [e] at h2; cases h2
  have kn45 : s[i] ≠ 45 → ((byteAt (bs s) ((i : Int)).toNat == 45) == false) = false → False := fun h h2 => by
    have e : (byteAt (bs s) ((i : Int)).toNat == 45) = false := (q 45 (by omega)).trans (by simpa using h)
    rw [e] at h2; cases h2
  have kge : 48 ≤ s[i].toNat → (decide (byteAt (bs s) ((i : Int)).toNat ≥ 48) == true) = false → False := fun h h2 => by
    rw [hbt, decide_eq_true (show ((s[i].toNat : Nat) : Int) ≥ 48 by omega)] at h2; cases h2
  have kng : s[i].toNat < 48 → (decide (byteAt (bs s) ((i : Int)).toNat ≥ 48) == true) = true → False := fun h h2 => by
    rw [hbt, decide_eq_false (show ¬ ((s[i].toNat : Nat) : Int) ≥ 48 by omega)] at h2; cases h2
  have hlt := letter_ac ((bs s).data.toList.getD ((i : Int)).toNat 0)
  have f5 : wrdU ((bs s).data.toList.getD ((i : Int)).toNat 0) = true := by rw [Int.toNat_natCast, hgd]; exact hw
  have hsp := span_ac s i (by omega) (by omega)
  have hse : i + spanN wrdU (s.drop i) = i + 1 + spanN wrdU (s.drop (i + 1)) := by rw [hdr, spanN, if_pos hw]; omega
  rw [hse] at hsp
  have hx : (bs s).extract ((i : Int)).toNat (((i + 1 + spanN wrdU (s.drop (i + 1)) : Nat) : Int)).toNat = bs (s[i] :: (s.drop (i + 1)).take (spanN wrdU (s.drop (i + 1)))) := by
    rw [Int.toNat_natCast, Int.toNat_natCast, ext_bs s (by omega) (by omega), hdr, show i + 1 + spanN wrdU (s.drop (i + 1)) - i = spanN wrdU (s.drop (i + 1)) + 1 by omega, List.take_succ_cons]
  have f6 : decide (((i + 1 + spanN wrdU (s.drop (i + 1)) : Nat) : Int) - (i : Int) > 64) = false := decide_eq_false (by omega)
  rcases hr with hr | hr
  · have f2 : (byteAt (bs s) ((i : Int)).toNat == 45) = false := (q 45 (by omega)).trans (by simpa using h45)
    have k1 := kn45 h45
    have k2 := kng hr
    have f3 : decide (byteAt (bs s) ((i : Int)).toNat ≥ 48) = false := by rw [hbt]; exact decide_eq_false (by omega)
    refine ac_enter 116 Tryz.func85 rfl rfl rfl rfl ?_
    intro s0 w he
    repeat' (first
 | (apply s_wpick_f rfl rfl rfl
    · conv => lhs; whnf
    · first | rfl | assumption
    · conv => lhs; whnf
    · first | exact bF1 (by assumption) | exact bF2 (by assumption) | rfl)
 | (apply aw_cond_kt
    · conv => lhs; whnf
    · assumption)
 | (apply aw_cond_kf
    · conv => lhs; whnf
    · assumption)
 | exact (k1 (by assumption)).elim
 | exact (k2 (by assumption)).elim
 | refine aw_seq ?_
 | refine aw_region ?_
 | refine awo_nil ?_
 | refine k_seq ?_
 | refine aw_block ?_
 | refine aw_skip ?_
 | (apply s_pick_f rfl rfl
    · conv => lhs; whnf
    · conv => lhs; whnf
    · first | exact bF1 (by assumption) | exact bF2 (by assumption))
 | (apply s_val rfl
    · conv => lhs; whnf
    · conv => lhs; whnf; arg 2; whnf)
 | (apply s_call rfl
    · conv => lhs; whnf
    · conv => lhs; whnf
    · first | exact hsg | exact hlt | exact hsp)
 | (apply s_alloc rfl rfl rfl rfl
    · conv => lhs; whnf; arg 1; whnf
    · rfl)
 | (apply s_store rfl rfl rfl
    · conv => lhs; whnf
    · conv => lhs; whnf; arg 1; whnf
    · conv => lhs; whnf; arg 1; whnf
    · exact ⟨by kernel_rfl, by kernel_rfl⟩
    · rfl)
 | (apply s_wanted_val rfl
    · conv => lhs; whnf
    · conv => lhs; whnf
    · first | rfl | assumption
    · conv => lhs; whnf; arg 2; whnf)
 | (apply s_skipU rfl
    · conv => lhs; whnf
    · conv => lhs; whnf
    · first | rfl | assumption)
 | (apply s_guard_valU rfl
    · conv => lhs; whnf
    · conv => lhs; whnf
    · conv => lhs; whnf; arg 2; whnf)
 | (apply aw_cond_f
    · conv => lhs; whnf; arg 1; arg 1; whnf)
 | refine aw_ret ?_
 | refine k_seq_ret ?_
 | refine k_block_ret ?_
 | refine k_end_ret ?_
 | exact trivial
 | intro hg)
    · refine ⟨_, _, _, rfl, rfl, rfl, ?_⟩
      show _ = V.tup [.agg [.c (.int .i64 2), .c (.string ((bs s).extract ((i : Int)).toNat (((i + 1 + spanN wrdU (s.drop (i + 1)) : Nat) : Int)).toNat)), .c (.int .i64 (i : Int))], .c (.int .i64 ((i + 1 + spanN wrdU (s.drop (i + 1)) : Nat) : Int)), .c (.int .i64 0)]
      rw [hx]; rfl
    all_goals first
      | exact i64_ok (by omega)
      | exact ⟨by kernel_rfl, by omega, by omega⟩
      | exact ⟨by kernel_rfl, by omega, by omega, by omega⟩
      | (rw [hbt]; exact byte_i32 _)
      | exact (show Tryz.prog.underlying _ = some TypeDesc.string by kernel_rfl)
      | skip
  · have f2 : (byteAt (bs s) ((i : Int)).toNat == 45) = false := (q 45 (by omega)).trans (by simpa using h45)
    have k1 := kn45 h45
    have k2 := kge (by omega)
    have f3 : decide (byteAt (bs s) ((i : Int)).toNat ≥ 48) = true := by rw [hbt]; exact decide_eq_true (by omega)
    have f4 : decide (byteAt (bs s) ((i : Int)).toNat ≤ 57) = false := by rw [hbt]; exact decide_eq_false (by omega)
    refine ac_enter 116 Tryz.func85 rfl rfl rfl rfl ?_
    intro s0 w he
    repeat' (first
 | (apply s_wpick_t rfl rfl rfl
    · conv => lhs; whnf
    · first | rfl | assumption
    · conv => lhs; whnf
    · first | exact bT1 (by assumption) | exact bT2 (by assumption) | rfl)
 | (apply aw_cond_kt
    · conv => lhs; whnf
    · assumption)
 | (apply aw_cond_kf
    · conv => lhs; whnf
    · assumption)
 | exact (k1 (by assumption)).elim
 | exact (k2 (by assumption)).elim
 | refine aw_seq ?_
 | refine aw_region ?_
 | refine awo_nil ?_
 | refine k_seq ?_
 | refine aw_block ?_
 | refine aw_skip ?_
 | (apply s_pick_f rfl rfl
    · conv => lhs; whnf
    · conv => lhs; whnf
    · first | exact bF1 (by assumption) | exact bF2 (by assumption))
 | (apply s_val rfl
    · conv => lhs; whnf
    · conv => lhs; whnf; arg 2; whnf)
 | (apply s_call rfl
    · conv => lhs; whnf
    · conv => lhs; whnf
    · first | exact hsg | exact hlt | exact hsp)
 | (apply s_alloc rfl rfl rfl rfl
    · conv => lhs; whnf; arg 1; whnf
    · rfl)
 | (apply s_store rfl rfl rfl
    · conv => lhs; whnf
    · conv => lhs; whnf; arg 1; whnf
    · conv => lhs; whnf; arg 1; whnf
    · exact ⟨by kernel_rfl, by kernel_rfl⟩
    · rfl)
 | (apply s_wanted_val rfl
    · conv => lhs; whnf
    · conv => lhs; whnf
    · first | rfl | assumption
    · conv => lhs; whnf; arg 2; whnf)
 | (apply s_guard_valU rfl
    · conv => lhs; whnf
    · conv => lhs; whnf
    · conv => lhs; whnf; arg 2; whnf)
 | refine aw_ret ?_
 | refine k_seq_ret ?_
 | refine k_block_ret ?_
 | refine k_end_ret ?_
 | exact trivial
 | intro hg)
    · refine ⟨_, _, _, rfl, rfl, rfl, ?_⟩
      show _ = V.tup [.agg [.c (.int .i64 2), .c (.string ((bs s).extract ((i : Int)).toNat (((i + 1 + spanN wrdU (s.drop (i + 1)) : Nat) : Int)).toNat)), .c (.int .i64 (i : Int))], .c (.int .i64 ((i + 1 + spanN wrdU (s.drop (i + 1)) : Nat) : Int)), .c (.int .i64 0)]
      rw [hx]; rfl
    all_goals first
      | exact i64_ok (by omega)
      | exact ⟨by kernel_rfl, by omega, by omega⟩
      | exact ⟨by kernel_rfl, by omega, by omega, by omega⟩
      | (rw [hbt]; exact byte_i32 _)
      | exact (show Tryz.prog.underlying _ = some TypeDesc.string by kernel_rfl)
      | skip
set_option maxHeartbeats 8000000 in
set_option maxRecDepth 100000 in
theorem read_long (h0 : signB s[i] = false) (h46 : s[i] ≠ 46) (h45 : s[i] ≠ 45) (hr : s[i].toNat < 48 ∨ 57 < s[i].toNat) (hw : wrdU s[i] = true) (hlen : ¬ spanN wrdU (s.drop (i + 1)) + 1 ≤ 64) : AC EN5 Tryz.prog 85 [.c (.string (bs s)), .c (.int .i64 (i : Int))] failR := by
  have hz := bs_size s
  have hbt := byte_at hi
  have hgd := at_bs hi
  have hdr : s.drop i = s[i] :: s.drop (i + 1) := List.drop_eq_getElem_cons hi
  have q : ∀ n : Nat, n < 256 → (byteAt (bs s) ((i : Int)).toNat == (n : Int)) = (s[i] == UInt8.ofNat n) := fun n hn => by rw [hbt]; exact u8_eq _ n hn
  have hsg := containsSign_ac ((bs s).data.toList.getD ((i : Int)).toNat 0)
  have f0 : signB ((bs s).data.toList.getD ((i : Int)).toNat 0) = false := by rw [Int.toNat_natCast, hgd]; exact h0
  have hle := spanN_le wrdU (s.drop (i + 1))
  rw [List.length_drop] at hle
  have f1 : (byteAt (bs s) ((i : Int)).toNat == 46) = false := (q 46 (by omega)).trans (by simpa using h46)
  have k45 : s[i] = 45 → ((byteAt (bs s) ((i : Int)).toNat == 45) == false) = true → False := fun h h2 => by
    have e : (byteAt (bs s) ((i : Int)).toNat == 45) = true := (q 45 (by omega)).trans (by rw [h]; rfl)
    rw [e] at h2; cases h2
  have kn45 : s[i] ≠ 45 → ((byteAt (bs s) ((i : Int)).toNat == 45) == false) = false → False := fun h h2 => by
    have e : (byteAt (bs s) ((i : Int)).toNat == 45) = false := (q 45 (by omega)).trans (by simpa using h)
    rw [e] at h2; cases h2
  have kge : 48 ≤ s[i].toNat → (decide (byteAt (bs s) ((i : Int)).toNat ≥ 48) == true) = false → False := fun h h2 => by
    rw [hbt, decide_eq_true (show ((s[i].toNat : Nat) : Int) ≥ 48 by omega)] at h2; cases h2
  have kng : s[i].toNat < 48 → (decide (byteAt (bs s) ((i : Int)).toNat ≥ 48) == true) = true → False := fun h h2 => by
    rw [hbt, decide_eq_false (show ¬ ((s[i].toNat : Nat) : Int) ≥ 48 by omega)] at h2; cases h2
  have hlt := letter_ac ((bs s).data.toList.getD ((i : Int)).toNat 0)
  have f5 : wrdU ((bs s).data.toList.getD ((i : Int)).toNat 0) = true := by rw [Int.toNat_natCast, hgd]; exact hw
  have hsp := span_ac s i (by omega) (by omega)
  have hse : i + spanN wrdU (s.drop i) = i + 1 + spanN wrdU (s.drop (i + 1)) := by rw [hdr, spanN, if_pos hw]; omega
  rw [hse] at hsp
  have f6 : decide (((i + 1 + spanN wrdU (s.drop (i + 1)) : Nat) : Int) - (i : Int) > 64) = true := decide_eq_true (by omega)
  rcases hr with hr | hr
  · have f2 : (byteAt (bs s) ((i : Int)).toNat == 45) = false := (q 45 (by omega)).trans (by simpa using h45)
    have k1 := kn45 h45
    have k2 := kng hr
    have f3 : decide (byteAt (bs s) ((i : Int)).toNat ≥ 48) = false := by rw [hbt]; exact decide_eq_false (by omega)
    refine ac_enter 116 Tryz.func85 rfl rfl rfl rfl ?_
    intro s0 w he
    repeat' (first
 | (apply s_wpick_f rfl rfl rfl
    · conv => lhs; whnf
    · first | rfl | assumption
    · conv => lhs; whnf
    · first | exact bF1 (by assumption) | exact bF2 (by assumption) | rfl)
 | (apply aw_cond_kt
    · conv => lhs; whnf
    · assumption)
 | (apply aw_cond_kf
    · conv => lhs; whnf
    · assumption)
 | exact (k1 (by assumption)).elim
 | exact (k2 (by assumption)).elim
 | refine aw_seq ?_
 | refine aw_region ?_
 | refine awo_nil ?_
 | refine k_seq ?_
 | refine aw_block ?_
 | (apply s_pick_f rfl rfl
    · conv => lhs; whnf
    · conv => lhs; whnf
    · first | exact bF1 (by assumption) | exact bF2 (by assumption))
 | (apply s_val rfl
    · conv => lhs; whnf
    · conv => lhs; whnf; arg 2; whnf)
 | (apply s_call rfl
    · conv => lhs; whnf
    · conv => lhs; whnf
    · first | exact hsg | exact hlt | exact hsp)
 | (apply s_alloc rfl rfl rfl rfl
    · conv => lhs; whnf; arg 1; whnf
    · rfl)
 | (apply s_store rfl rfl rfl
    · conv => lhs; whnf
    · conv => lhs; whnf; arg 1; whnf
    · conv => lhs; whnf; arg 1; whnf
    · exact ⟨by kernel_rfl, by kernel_rfl⟩
    · rfl)
 | (apply s_wanted_val rfl
    · conv => lhs; whnf
    · conv => lhs; whnf
    · first | rfl | assumption
    · conv => lhs; whnf; arg 2; whnf)
 | (apply s_skipU rfl
    · conv => lhs; whnf
    · conv => lhs; whnf
    · first | rfl | assumption)
 | (apply s_guard_valU rfl
    · conv => lhs; whnf
    · conv => lhs; whnf
    · conv => lhs; whnf; arg 2; whnf)
 | (apply aw_cond_f
    · conv => lhs; whnf; arg 1; arg 1; whnf)
 | refine aw_ret ?_
 | refine k_seq_ret ?_
 | refine k_block_ret ?_
 | refine k_end_ret ?_
 | exact trivial
 | intro hg)
    · exact ⟨_, _, _, rfl, rfl, rfl, rfl⟩
    all_goals first
      | exact i64_ok (by omega)
      | exact ⟨by kernel_rfl, by omega, by omega⟩
      | exact ⟨by kernel_rfl, by omega, by omega, by omega⟩
      | (rw [hbt]; exact byte_i32 _)
      | exact (show Tryz.prog.underlying _ = some TypeDesc.string by kernel_rfl)
      | skip
  · have f2 : (byteAt (bs s) ((i : Int)).toNat == 45) = false := (q 45 (by omega)).trans (by simpa using h45)
    have k1 := kn45 h45
    have k2 := kge (by omega)
    have f3 : decide (byteAt (bs s) ((i : Int)).toNat ≥ 48) = true := by rw [hbt]; exact decide_eq_true (by omega)
    have f4 : decide (byteAt (bs s) ((i : Int)).toNat ≤ 57) = false := by rw [hbt]; exact decide_eq_false (by omega)
    refine ac_enter 116 Tryz.func85 rfl rfl rfl rfl ?_
    intro s0 w he
    repeat' (first
 | (apply s_wpick_t rfl rfl rfl
    · conv => lhs; whnf
    · first | rfl | assumption
    · conv => lhs; whnf
    · first | exact bT1 (by assumption) | exact bT2 (by assumption) | rfl)
 | (apply aw_cond_kt
    · conv => lhs; whnf
    · assumption)
 | (apply aw_cond_kf
    · conv => lhs; whnf
    · assumption)
 | exact (k1 (by assumption)).elim
 | exact (k2 (by assumption)).elim
 | refine aw_seq ?_
 | refine aw_region ?_
 | refine awo_nil ?_
 | refine k_seq ?_
 | refine aw_block ?_
 | (apply s_pick_f rfl rfl
    · conv => lhs; whnf
    · conv => lhs; whnf
    · first | exact bF1 (by assumption) | exact bF2 (by assumption))
 | (apply s_val rfl
    · conv => lhs; whnf
    · conv => lhs; whnf; arg 2; whnf)
 | (apply s_call rfl
    · conv => lhs; whnf
    · conv => lhs; whnf
    · first | exact hsg | exact hlt | exact hsp)
 | (apply s_alloc rfl rfl rfl rfl
    · conv => lhs; whnf; arg 1; whnf
    · rfl)
 | (apply s_store rfl rfl rfl
    · conv => lhs; whnf
    · conv => lhs; whnf; arg 1; whnf
    · conv => lhs; whnf; arg 1; whnf
    · exact ⟨by kernel_rfl, by kernel_rfl⟩
    · rfl)
 | (apply s_wanted_val rfl
    · conv => lhs; whnf
    · conv => lhs; whnf
    · first | rfl | assumption
    · conv => lhs; whnf; arg 2; whnf)
 | (apply s_guard_valU rfl
    · conv => lhs; whnf
    · conv => lhs; whnf
    · conv => lhs; whnf; arg 2; whnf)
 | refine aw_ret ?_
 | refine k_seq_ret ?_
 | refine k_block_ret ?_
 | refine k_end_ret ?_
 | exact trivial
 | intro hg)
    · exact ⟨_, _, _, rfl, rfl, rfl, rfl⟩
    all_goals first
      | exact i64_ok (by omega)
      | exact ⟨by kernel_rfl, by omega, by omega⟩
      | exact ⟨by kernel_rfl, by omega, by omega, by omega⟩
      | (rw [hbt]; exact byte_i32 _)
      | exact (show Tryz.prog.underlying _ = some TypeDesc.string by kernel_rfl)
      | skip
set_option maxHeartbeats 8000000 in
set_option maxRecDepth 100000 in
theorem read_none (h0 : signB s[i] = false) (h46 : s[i] ≠ 46) (h45 : s[i] ≠ 45) (hr : s[i].toNat < 48 ∨ 57 < s[i].toNat) (hw : wrdU s[i] = false) (h34 : s[i] ≠ 34) : AC EN5 Tryz.prog 85 [.c (.string (bs s)), .c (.int .i64 (i : Int))] failR := by
  have hz := bs_size s
  have hbt := byte_at hi
  have hgd := at_bs hi
  have hdr : s.drop i = s[i] :: s.drop (i + 1) := List.drop_eq_getElem_cons hi
  have q : ∀ n : Nat, n < 256 → (byteAt (bs s) ((i : Int)).toNat == (n : Int)) = (s[i] == UInt8.ofNat n) := fun n hn => by rw [hbt]; exact u8_eq _ n hn
  have hsg := containsSign_ac ((bs s).data.toList.getD ((i : Int)).toNat 0)
  have f0 : signB ((bs s).data.toList.getD ((i : Int)).toNat 0) = false := by rw [Int.toNat_natCast, hgd]; exact h0
  have hle := spanN_le wrdU (s.drop (i + 1))
  rw [List.length_drop] at hle
  have f1 : (byteAt (bs s) ((i : Int)).toNat == 46) = false := (q 46 (by omega)).trans (by simpa using h46)
  have k45 : s[i] = 45 → ((byteAt (bs s) ((i : Int)).toNat == 45) == false) = true → False := fun h h2 => by
    have e : (byteAt (bs s) ((i : Int)).toNat == 45) = true := (q 45 (by omega)).trans (by rw [h]; rfl)
    rw [e] at h2; cases h2
  have kn45 : s[i] ≠ 45 → ((byteAt (bs s) ((i : Int)).toNat == 45) == false) = false → False := fun h h2 => by
    have e : (byteAt (bs s) ((i : Int)).toNat == 45) = false := (q 45 (by omega)).trans (by simpa using h)
    rw [e] at h2; cases h2
  have kge : 48 ≤ s[i].toNat → (decide (byteAt (bs s) ((i : Int)).toNat ≥ 48) == true) = false → False := fun h h2 => by
    rw [hbt, decide_eq_true (show ((s[i].toNat : Nat) : Int) ≥ 48 by omega)] at h2; cases h2
  have kng : s[i].toNat < 48 → (decide (byteAt (bs s) ((i : Int)).toNat ≥ 48) == true) = true → False := fun h h2 => by
    rw [hbt, decide_eq_false (show ¬ ((s[i].toNat : Nat) : Int) ≥ 48 by omega)] at h2; cases h2
  have hlt := letter_ac ((bs s).data.toList.getD ((i : Int)).toNat 0)
  have f5 : wrdU ((bs s).data.toList.getD ((i : Int)).toNat 0) = false := by rw [Int.toNat_natCast, hgd]; exact hw
  have f6 : (byteAt (bs s) ((i : Int)).toNat == 34) = false := (q 34 (by omega)).trans (by simpa using h34)
  rcases hr with hr | hr
  · have f2 : (byteAt (bs s) ((i : Int)).toNat == 45) = false := (q 45 (by omega)).trans (by simpa using h45)
    have k1 := kn45 h45
    have k2 := kng hr
    have f3 : decide (byteAt (bs s) ((i : Int)).toNat ≥ 48) = false := by rw [hbt]; exact decide_eq_false (by omega)
    refine ac_enter 116 Tryz.func85 rfl rfl rfl rfl ?_
    intro s0 w he
    repeat' (first
 | (apply s_wpick_f rfl rfl rfl
    · conv => lhs; whnf
    · first | rfl | assumption
    · conv => lhs; whnf
    · first | exact bF1 (by assumption) | exact bF2 (by assumption) | rfl)
 | (apply aw_cond_kf
    · conv => lhs; whnf
    · assumption)
 | exact (k1 (by assumption)).elim
 | exact (k2 (by assumption)).elim
 | refine aw_seq ?_
 | refine aw_region ?_
 | refine awo_nil ?_
 | refine k_seq ?_
 | refine k_block ?_
 | refine aw_block ?_
 | refine aw_skip ?_
 | (apply s_pick_f rfl rfl
    · conv => lhs; whnf
    · conv => lhs; whnf
    · first | exact bF1 (by assumption) | exact bF2 (by assumption))
 | (apply s_val rfl
    · conv => lhs; whnf
    · conv => lhs; whnf; arg 2; whnf)
 | (apply s_call rfl
    · conv => lhs; whnf
    · conv => lhs; whnf
    · first | exact hsg | exact hlt)
 | (apply s_alloc rfl rfl rfl rfl
    · conv => lhs; whnf; arg 1; whnf
    · rfl)
 | (apply s_store rfl rfl rfl
    · conv => lhs; whnf
    · conv => lhs; whnf; arg 1; whnf
    · conv => lhs; whnf; arg 1; whnf
    · exact ⟨by kernel_rfl, by kernel_rfl⟩
    · rfl)
 | (apply s_wanted_val rfl
    · conv => lhs; whnf
    · conv => lhs; whnf
    · first | rfl | assumption
    · conv => lhs; whnf; arg 2; whnf)
 | (apply s_skipU rfl
    · conv => lhs; whnf
    · conv => lhs; whnf
    · first | rfl | assumption)
 | (apply s_guard_valU rfl
    · conv => lhs; whnf
    · conv => lhs; whnf
    · conv => lhs; whnf; arg 2; whnf)
 | (apply aw_cond_f
    · conv => lhs; whnf; arg 1; arg 1; whnf)
 | refine aw_ret ?_
 | refine k_end_ret ?_
 | exact trivial
 | intro hg)
    · exact ⟨_, _, _, rfl, rfl, rfl, rfl⟩
    all_goals first
      | exact i64_ok (by omega)
      | exact ⟨by kernel_rfl, by omega, by omega⟩
      | exact ⟨by kernel_rfl, by omega, by omega, by omega⟩
      | (rw [hbt]; exact byte_i32 _)
      | exact (show Tryz.prog.underlying _ = some TypeDesc.string by kernel_rfl)
      | skip
  · have f2 : (byteAt (bs s) ((i : Int)).toNat == 45) = false := (q 45 (by omega)).trans (by simpa using h45)
    have k1 := kn45 h45
    have k2 := kge (by omega)
    have f3 : decide (byteAt (bs s) ((i : Int)).toNat ≥ 48) = true := by rw [hbt]; exact decide_eq_true (by omega)
    have f4 : decide (byteAt (bs s) ((i : Int)).toNat ≤ 57) = false := by rw [hbt]; exact decide_eq_false (by omega)
    refine ac_enter 116 Tryz.func85 rfl rfl rfl rfl ?_
    intro s0 w he
    repeat' (first
 | (apply s_wpick_t rfl rfl rfl
    · conv => lhs; whnf
    · first | rfl | assumption
    · conv => lhs; whnf
    · first | exact bT1 (by assumption) | exact bT2 (by assumption) | rfl)
 | (apply aw_cond_kf
    · conv => lhs; whnf
    · assumption)
 | exact (k1 (by assumption)).elim
 | exact (k2 (by assumption)).elim
 | refine aw_seq ?_
 | refine aw_region ?_
 | refine awo_nil ?_
 | refine k_seq ?_
 | refine k_block ?_
 | refine aw_block ?_
 | refine aw_skip ?_
 | (apply s_pick_f rfl rfl
    · conv => lhs; whnf
    · conv => lhs; whnf
    · first | exact bF1 (by assumption) | exact bF2 (by assumption))
 | (apply s_val rfl
    · conv => lhs; whnf
    · conv => lhs; whnf; arg 2; whnf)
 | (apply s_call rfl
    · conv => lhs; whnf
    · conv => lhs; whnf
    · first | exact hsg | exact hlt)
 | (apply s_alloc rfl rfl rfl rfl
    · conv => lhs; whnf; arg 1; whnf
    · rfl)
 | (apply s_store rfl rfl rfl
    · conv => lhs; whnf
    · conv => lhs; whnf; arg 1; whnf
    · conv => lhs; whnf; arg 1; whnf
    · exact ⟨by kernel_rfl, by kernel_rfl⟩
    · rfl)
 | (apply s_wanted_val rfl
    · conv => lhs; whnf
    · conv => lhs; whnf
    · first | rfl | assumption
    · conv => lhs; whnf; arg 2; whnf)
 | (apply s_guard_valU rfl
    · conv => lhs; whnf
    · conv => lhs; whnf
    · conv => lhs; whnf; arg 2; whnf)
 | refine aw_ret ?_
 | refine k_end_ret ?_
 | exact trivial
 | intro hg)
    · exact ⟨_, _, _, rfl, rfl, rfl, rfl⟩
    all_goals first
      | exact i64_ok (by omega)
      | exact ⟨by kernel_rfl, by omega, by omega⟩
      | exact ⟨by kernel_rfl, by omega, by omega, by omega⟩
      | (rw [hbt]; exact byte_i32 _)
      | exact (show Tryz.prog.underlying _ = some TypeDesc.string by kernel_rfl)
      | skip
end
end Go.Proofs.YthjiclhfhjdjpaaGreatDoor
