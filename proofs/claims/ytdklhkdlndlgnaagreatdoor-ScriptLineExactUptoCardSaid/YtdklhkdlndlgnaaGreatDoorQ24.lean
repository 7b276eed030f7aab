/- Parts of a proof, merged by a program (shake.py). -/
import Derived.Laws.IdiomStrings
import Derived.Test.YtdklhkdlndlgnaaGreatDoorQ23
set_option linter.unusedVariables false
set_option linter.unusedSimpArgs false
namespace Go.Proofs.YtdklhkdlndlgnaaGreatDoor
open Go.RowKit
attribute [local irreducible] wpList Calls Code.wp
theorem hexR (v : Int) (w : World) (h0 : 0 ≤ v) (h1 : v < 16) : Calls Tryz.prog 72 #[.int .u8 v] w fun e w' => e = .returned (.int .u8 (hexd v)) ∧ w = w' := by
  by_cases h : v < 10
  · rw [show hexd v = 48 + v from by unfold hexd; rw [if_pos h]]
    go_enter Tryz.func72, Tryz.ntmps72
    go_wp2
    go_ret
    exact ⟨rfl, rfl⟩
  · rw [show hexd v = 87 + v from by unfold hexd; rw [if_neg h]]
    go_enter Tryz.func72, Tryz.ntmps72
    go_wp2
    go_ret
    exact ⟨rfl, rfl⟩
/-- string([]byte{..}) -/
theorem conv_new (w : World) (cs : Array Value) (l : List UInt8) (n : Nat) (hn : n = l.length) (hcs : cs = (Lib.byteCells l).toArray) :
    (convert 62 9 (.slice (some ⟨w.heap.size, 0, none⟩) n n)).run Tryz.prog (w.alloc (.cells cs 5)) = .ok (.string (bs l)) (w.alloc (.cells cs 5)) := by
  subst hn; subst hcs
  refine run_convert_bytes_back _ 62 9 5 _ _ l Tryz.underlying62 Tryz.underlying5 Tryz.underlying9 (fun j hj => ?_)
  rw [add_plain, Nat.zero_add, cell_of_row _ w.heap.size j _ 5 (0, 0) (heap_at rfl)]
  simp [Lib.byteCells, List.getElem?_eq_getElem hj]
set_option maxRecDepth 100000 in
set_option maxHeartbeats 2000000 in
theorem escapeR (c : UInt8) (v : Int) (w : World) (hvc : v = (c.toNat : Int)) : Calls Tryz.prog 54 #[.int .u8 v] w (St (escU c) w) := by
  have hr := c.toNat_lt
  by_cases c34 : c = 34
  · subst c34; subst hvc
    go_enter Tryz.func54, Tryz.ntmps54
    go_wp2
    go_ret
    exact ⟨rfl, Below.refl _ _⟩
  by_cases c92 : c = 92
  · subst c92; subst hvc
    go_enter Tryz.func54, Tryz.ntmps54
    go_wp2
    go_ret
    exact ⟨rfl, Below.refl _ _⟩
  by_cases c10 : c = 10
  · subst c10; subst hvc
    go_enter Tryz.func54, Tryz.ntmps54
    go_wp2
    go_ret
    exact ⟨rfl, Below.refl _ _⟩
  by_cases c13 : c = 13
  · subst c13; subst hvc
    go_enter Tryz.func54, Tryz.ntmps54
    go_wp2
    go_ret
    exact ⟨rfl, Below.refl _ _⟩
  by_cases c9 : c = 9
  · subst c9; subst hvc
    go_enter Tryz.func54, Tryz.ntmps54
    go_wp2
    go_ret
    exact ⟨rfl, Below.refl _ _⟩
  have he := escU_other c34 c92 c10 c13 c9
  have n34 := u8_ne (n := 34) (by omega) c34
  have n92 := u8_ne (n := 92) (by omega) c92
  have n10 := u8_ne (n := 10) (by omega) c10
  have n13 := u8_ne (n := 13) (by omega) c13
  have n9 := u8_ne (n := 9) (by omega) c9
  rw [← hvc] at n34 n92 n10 n13 n9
  have Hvc := Lib.hid hvc
  have q34 : (v == 34) = false := beq_false_of_ne n34
  have q92 : (v == 92) = false := beq_false_of_ne n92
  have q10 : (v == 10) = false := beq_false_of_ne n10
  have q13 : (v == 13) = false := beq_false_of_ne n13
  have q9 : (v == 9) = false := beq_false_of_ne n9
  clear c34 c92 c10 c13 c9
  have h0 : 0 ≤ v := by omega
  have h255 : v ≤ 255 := by omega
  by_cases hp : 32 ≤ v ∧ v ≤ 126
  · obtain ⟨hp1, hp2⟩ := hp
    have He := Lib.hid (he.trans (if_pos (by omega)))
    have f1 : ¬ v < 32 := by omega
    have f2 : decide (v > 126) = false := decide_eq_false (by omega)
    have hcv := conv_new w #[.int .u8 v] [c] 1 rfl (by rw [hvc]; rfl)
    clear he hvc
    go_enter Tryz.func54, Tryz.ntmps54
    go_wp2
    go_ret
    exact ⟨by rw [He.out]; rfl, (Below.refl _ _).alloc (Nat.le_refl _) _⟩
  · have He := Lib.hid (he.trans (if_neg (by omega)))
    have U1 := Lib.hid (show hexd (v / 16) = ((hexU (c.toNat / 16)).toNat : Int) by rw [← hexd_U _ (by omega)]; congr 1; omega)
    have U2 := Lib.hid (show hexd (v % 16) = ((hexU (c.toNat % 16)).toNat : Int) by rw [← hexd_U _ (by omega)]; congr 1; omega)
    have hcv := conv_new w #[.int .u8 (hexd (v / 16)), .int .u8 (hexd (v % 16))] [hexU (c.toNat / 16), hexU (c.toNat % 16)] 2 rfl (by rw [U1.out, U2.out]; rfl)
    have hsz := bs_size [hexU (c.toNat / 16), hexU (c.toNat % 16)]
    have Hap := Lib.hid (bs_append [92, 117, 48, 48] [hexU (c.toNat / 16), hexU (c.toNat % 16)])
    have hs2 : (bs [hexU (c.toNat / 16), hexU (c.toNat % 16)]).size ≤ 2 := by rw [hsz]; simp
    have hcs : v < 32 ∨ 126 < v := by omega
    clear he hvc hp hsz
    generalize bs [hexU (c.toNat / 16), hexU (c.toNat % 16)] = h2 at *
    rcases hcs with hcs | hcs
    all_goals
      go_enter Tryz.func54, Tryz.ntmps54
      go_wp2_with fail
      refine (hexR _ _ (by omega) (by omega)).mono ?_
      rintro e w' ⟨rfl, rfl⟩
      go_wp2_with fail
      refine (hexR _ _ (by omega) (by omega)).mono ?_
      rintro e w' ⟨rfl, rfl⟩
      go_wp2
      go_ret
      exact ⟨by rw [He.out]; exact congrArg (fun x => Ending.returned (.string x)) Hap.out, (Below.refl _ _).alloc (Nat.le_refl _) _⟩
set_option maxRecDepth 100000 in
set_option maxHeartbeats 2000000 in
theorem quoteR (s : ByteArray) (w : World) (hs : s.size ≤ 8388608) : Calls Tryz.prog 46 #[.string s] w (St (quoteU s.data.toList) w) := by
  go_enter Tryz.func46, Tryz.ntmps46
  go_wp2
  go_loopg [3, 4] s.size (fun j o i wr => ∃ m : Nat, m + j = s.size ∧ i = .int .i64 m ∧ o = .string (bs ([34] ++ escL (tk s m))) ∧ Below w.heap.size w wr)
  case atStart => exact ⟨0, by omega, rfl, rfl, Below.refl _ _⟩
  case round =>
    obtain ⟨x, hmj, rfl, rfl, hb⟩ := hrel
    have Hmj := Lib.hid hmj; have hmn : x ≤ s.size := by omega
    have Hb := Lib.hid hb
    clear hmj hb
    have hel := escL_length (tk s x)
    have htl := tk_length s x
    have hlen : (bs ([34] ++ escL (tk s x))).size ≤ 56000000 := by rw [bs_size]; simp; omega
    by_cases hlt : x < s.size
    · have hbv := bV_at hlt
      rw [bV_bC] at hbv
      have Hnext := Lib.hid (show bs ([34] ++ escL (tk s (x + 1))) = bs ([34] ++ escL (tk s x)) ++ bs (escU (bC s x)) by rw [tk_succ hlt, escL_snoc, bs_append, List.append_assoc])
      have hes : (bs (escU (bC s x))).size ≤ 6 := by rw [bs_size]; exact escU_length _
      generalize bC s x = c at *
      generalize bs ([34] ++ escL (tk s x)) = acc at *
      have He := Lib.hid (escapeR c (c.toNat : Int) wr rfl)
      unfold St at He
      generalize bs (escU c) = ec at *
      go_wp2_with fail
      refine He.out.mono ?_
      rintro e w2 ⟨rfl, hb2⟩
      have Hb2 := Lib.hid (Hb.out.trans (hb2.mono Hb.out.size))
      clear hb2
      go_wp2
      go_roundg (gk - 1)
      case measure => have := Hmj.out; omega
      case rel => exact ⟨x + 1, by have := Hmj.out; omega, by go_num, by rw [Hnext.out], Hb2.out⟩
    · obtain rfl : x = s.size := by omega
      have Hq := Lib.hid (show bs (quoteU s.data.toList) = bs ([34] ++ escL (tk s s.size)) ++ bs [34] by rw [tk_all, bs_append]; rfl)
      generalize bs ([34] ++ escL (tk s s.size)) = acc at *
      go_wp2
      go_ret
      exact ⟨by rw [Hq.out]; rfl, Hb.out⟩
end Go.Proofs.YtdklhkdlndlgnaaGreatDoor
