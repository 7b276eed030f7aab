/- Parts of a proof, merged by a program (shake.py). -/
import Derived.Deep.Cut
import Derived.Test.YtdklhkdlndlgnaaGreatDoorQ22
set_option linter.unusedVariables false
set_option linter.unusedSimpArgs false
namespace Go.Proofs.YtdklhkdlndlgnaaGreatDoor
open Go.RowKit
attribute [local irreducible] wpList Calls Code.wp
theorem cells_snoc (l : List UInt8) (c : UInt8) (v : Int) (hv : v = (c.toNat : Int)) : Lib.byteCells l ++ [.int .u8 v] = Lib.byteCells (l ++ [c]) := by subst hv; simp [Lib.byteCells]
theorem strCells_of (l : List UInt8) : Lib.strCells ⟨l.toArray⟩ = Lib.byteCells l := by simp [Lib.strCells, Lib.byteCells]
theorem wB (B b : Nat) (l : List UInt8) (c : UInt8) (v : Int) (w : World) (hv : v = (c.toNat : Int)) (h : IsB B b (Lib.byteCells l) w) (hlen : l.length ≤ 1000000000) (hBw : B ≤ w.heap.size) :
    Calls Tryz.prog 43 #[.pointer (some ⟨b, 0, none⟩), .int .u8 v] w fun e w' => e = .returned .nilIface ∧ IsB B b (Lib.byteCells (l ++ [c])) w' ∧ Below B w w' := by
  refine (writeByte B b _ v w h (by rw [Lib.byteCells_length]; omega) hBw).mono fun e w' h => ?_
  rw [cells_snoc l c v hv] at h
  exact h
theorem wS (B b : Nat) (l m : List UInt8) (s : ByteArray) (w : World) (hs : s = ⟨m.toArray⟩) (h : IsB B b (Lib.byteCells l) w) (hlen : l.length + m.length ≤ 1000000000) (hBw : B ≤ w.heap.size) :
    Calls Tryz.prog 41 #[.pointer (some ⟨b, 0, none⟩), .string s] w fun e w' => e = .returned (.tuple #[.int .i64 s.size, .nilIface]) ∧ IsB B b (Lib.byteCells (l ++ m)) w' ∧ Below B w w' := by
  subst hs
  have hsz : (⟨m.toArray⟩ : ByteArray).size = m.length := by show m.toArray.size = _; simp
  refine (writeString B b _ ⟨m.toArray⟩ w h (by rw [Lib.byteCells_length, hsz]; omega) hBw).mono fun e w' h => ?_
  rw [strCells_of, ← Lib.byteCells_append] at h
  exact h
def hexd (n : Int) : Int := if n < 10 then 48 + n else 87 + n
theorem hexd_U (n : Nat) (h : n < 16) : hexd (n : Int) = ((hexU n).toNat : Int) := by
  have : ∀ i : Fin 16, hexd (i.val : Int) = ((hexU i.val).toNat : Int) := by decide +kernel
  exact this ⟨n, h⟩
theorem hex_at (j : Nat) (hj : j < 16) (w : World) : (Instr.index 9 (.string { data := #[48, 49, 50, 51, 52, 53, 54, 55, 56, 57, 97, 98, 99, 100, 101, 102] }) (.int .u8 (j : Int))).run Tryz.prog w = .ok (.int .u8 (hexd (j : Int))) w := by
  rcases j with _ | _ | _ | _ | _ | _ | _ | _ | _ | _ | _ | _ | _ | _ | _ | _ | j
  · kernel_rfl
  · kernel_rfl
  · kernel_rfl
  · kernel_rfl
  · kernel_rfl
  · kernel_rfl
  · kernel_rfl
  · kernel_rfl
  · kernel_rfl
  · kernel_rfl
  · kernel_rfl
  · kernel_rfl
  · kernel_rfl
  · kernel_rfl
  · kernel_rfl
  · kernel_rfl
  · omega
theorem hex_idx (x y : Int) (h0 : 0 ≤ x) (h1 : x < 16) (hxy : x = y) (w : World) : (Instr.index 9 (.string { data := #[48, 49, 50, 51, 52, 53, 54, 55, 56, 57, 97, 98, 99, 100, 101, 102] }) (.int .u8 x)).run Tryz.prog w = .ok (.int .u8 (hexd y)) w := by
  subst hxy
  have h := hex_at x.toNat (by omega) w
  rw [Int.toNat_of_nonneg h0] at h
  exact h
/-- the byte at an index -/
def bC (s : ByteArray) (i : Nat) : UInt8 := s.data.toList.getD i 0
theorem bV_bC (s : ByteArray) (i : Nat) : bV s i = ((bC s i).toNat : Int) := rfl
def tk (s : ByteArray) (k : Nat) : List UInt8 := s.data.toList.take k
theorem tk_succ {s : ByteArray} {k : Nat} (h : k < s.size) : tk s (k + 1) = tk s k ++ [bC s k] := by
  have h' : k < s.data.toList.length := by simpa using h
  unfold tk bC
  rw [List.take_succ_eq_append_getElem h']
  simp [List.getElem?_eq_getElem h']
theorem tk_all (s : ByteArray) : tk s s.size = s.data.toList := by
  unfold tk
  exact List.take_of_length_le (by simp)
theorem tk_length (s : ByteArray) (k : Nat) : (tk s k).length ≤ k := by unfold tk; exact List.length_take_le _ _
theorem escU_other {c : UInt8} (h1 : c ≠ 34) (h2 : c ≠ 92) (h3 : c ≠ 10) (h4 : c ≠ 13) (h5 : c ≠ 9) : escU c = if 32 ≤ c.toNat ∧ c.toNat ≤ 126 then [c] else [92, 117, 48, 48, hexU (c.toNat / 16), hexU (c.toNat % 16)] := by
  unfold escU
  rw [if_neg h1, if_neg h2, if_neg h3, if_neg h4, if_neg h5]
theorem u8_ne {c : UInt8} {n : Nat} (hn : n < 256) (h : c ≠ UInt8.ofNat n) : (c.toNat : Int) ≠ (n : Int) := by
  intro e
  apply h
  apply UInt8.toNat_inj.1
  rw [UInt8.toNat_ofNat', Nat.mod_eq_of_lt hn]
  omega
/-- a string, by its bytes -/
def bs (l : List UInt8) : ByteArray := ⟨l.toArray⟩
theorem bs_append (l m : List UInt8) : bs l ++ bs m = bs (l ++ m) := by
  unfold bs
  rw [ByteArray.mk_append_mk]
  try simp
theorem bs_size (l : List UInt8) : (bs l).size = l.length := by show l.toArray.size = _; simp
/-- a string comes back, and nothing that was there has turned -/
def St (l : List UInt8) (w : World) (e : Ending) (w' : World) : Prop := e = .returned (.string (bs l)) ∧ Below w.heap.size w w'
set_option maxRecDepth 100000 in
set_option maxHeartbeats 4000000 in
theorem quoteP (s : ByteArray) (w : World) (hs : s.size ≤ 8388608) : Calls Tryz.prog 42 #[.string s] w (St (quoteU s.data.toList) w) := by
  go_enter Tryz.func42, Tryz.ntmps42
  go_wp2_with fail
  have h0 := Lib.IsBuilderF.of (Lib.fresh_isBuilder 64 5 w)
  refine (wB w.heap.size w.heap.size [] 34 34 _ rfl h0 (by simp) (by simp)).mono ?_
  rintro e w1 ⟨rfl, h1, hb1⟩
  have H1 := Lib.hid h1
  have Hb1 := Lib.hid (((Below.refl w.heap.size w).alloc (Nat.le_refl _) (.cells #[.pointer none, .slice none 0 0] 64)).trans hb1)
  clear h0 h1 hb1
  go_wp2
  go_loopg [9] s.size (fun j i wr => ∃ m : Nat, m + j = s.size ∧ i = .int .i64 m ∧ Below w.heap.size w wr ∧ IsB w.heap.size w.heap.size (Lib.byteCells ([34] ++ escL (tk s m))) wr)
  case atStart => exact ⟨0, by omega, rfl, Hb1.out, H1.out⟩
  case round =>
    obtain ⟨x, hmj, rfl, hb, hI⟩ := hrel
    have Hmj := Lib.hid hmj; have hmn : x ≤ s.size := by omega
    have Hb := Lib.hid hb; have HI := Lib.hid hI
    clear hmj hb hI
    have hel := escL_length (tk s x)
    have htl := tk_length s x
    have hlen : ([34] ++ escL (tk s x)).length ≤ 56000000 := by simp; omega
    by_cases hlt : x < s.size
    · have hbv := bV_at hlt
      have hr := bV_range s x
      rw [bV_bC] at hbv hr
      have Hnext := Lib.hid (show [34] ++ escL (tk s (x + 1)) = [34] ++ escL (tk s x) ++ escU (bC s x) by rw [tk_succ hlt, escL_snoc, List.append_assoc])
      generalize bC s x = c at *
      generalize [34] ++ escL (tk s x) = acc at *
      have Hl := Lib.hid hlen
      by_cases c34 : c = 34
      · subst c34
        have hv : (s[x].toNat : Int) = 34 := hbv
        have He := Lib.hid (show escU 34 = [92, 34] from rfl)
        clear hbv
        go_wp2_with fail
        refine (wB w.heap.size w.heap.size acc 92 92 _ rfl HI.out (by have := Hl.out; omega) Hb.out.size).mono ?_
        rintro e w2 ⟨rfl, h2, hb2⟩
        have H2 := Lib.hid h2; have Hb2 := Lib.hid (Hb.out.trans hb2)
        clear h2 hb2
        go_wp2_with fail
        refine (wB w.heap.size w.heap.size (acc ++ [92]) 34 34 _ rfl H2.out (by have := Hl.out; simp; omega) Hb2.out.size).mono ?_
        rintro e w3 ⟨rfl, h3, hb3⟩
        have H3 := Lib.hid h3; have Hb3 := Lib.hid (Hb2.out.trans hb3)
        clear h3 hb3
        go_wp2
        all_goals
          go_roundg (gk - 1)
          case measure => have := Hmj.out; omega
          case rel => exact ⟨x + 1, by have := Hmj.out; omega, by go_num, Hb3.out, by rw [Hnext.out, He.out]; simpa using H3.out⟩
      by_cases c92 : c = 92
      · subst c92
        have hv : (s[x].toNat : Int) = 92 := hbv
        have He := Lib.hid (show escU 92 = [92, 92] from rfl)
        clear hbv
        go_wp2_with fail
        refine (wB w.heap.size w.heap.size acc 92 92 _ rfl HI.out (by have := Hl.out; omega) Hb.out.size).mono ?_
        rintro e w2 ⟨rfl, h2, hb2⟩
        have H2 := Lib.hid h2; have Hb2 := Lib.hid (Hb.out.trans hb2)
        clear h2 hb2
        go_wp2_with fail
        refine (wB w.heap.size w.heap.size (acc ++ [92]) 92 92 _ rfl H2.out (by have := Hl.out; simp; omega) Hb2.out.size).mono ?_
        rintro e w3 ⟨rfl, h3, hb3⟩
        have H3 := Lib.hid h3; have Hb3 := Lib.hid (Hb2.out.trans hb3)
        clear h3 hb3
        go_wp2
        all_goals
          go_roundg (gk - 1)
          case measure => have := Hmj.out; omega
          case rel => exact ⟨x + 1, by have := Hmj.out; omega, by go_num, Hb3.out, by rw [Hnext.out, He.out]; simpa using H3.out⟩
      by_cases c10 : c = 10
      · subst c10
        have hv : (s[x].toNat : Int) = 10 := hbv
        have He := Lib.hid (show escU 10 = [92, 110] from rfl)
        clear hbv
        go_wp2_with fail
        refine (wS w.heap.size w.heap.size acc [92, 110] _ _ rfl HI.out (by have := Hl.out; simp; omega) Hb.out.size).mono ?_
        rintro e w2 ⟨rfl, h2, hb2⟩
        have H2 := Lib.hid h2; have Hb2 := Lib.hid (Hb.out.trans hb2)
        clear h2 hb2
        go_wp2
        all_goals
          go_roundg (gk - 1)
          case measure => have := Hmj.out; omega
          case rel => exact ⟨x + 1, by have := Hmj.out; omega, by go_num, Hb2.out, by rw [Hnext.out, He.out]; simpa using H2.out⟩
      by_cases c13 : c = 13
      · subst c13
        have hv : (s[x].toNat : Int) = 13 := hbv
        have He := Lib.hid (show escU 13 = [92, 114] from rfl)
        clear hbv
        go_wp2_with fail
        refine (wS w.heap.size w.heap.size acc [92, 114] _ _ rfl HI.out (by have := Hl.out; simp; omega) Hb.out.size).mono ?_
        rintro e w2 ⟨rfl, h2, hb2⟩
        have H2 := Lib.hid h2; have Hb2 := Lib.hid (Hb.out.trans hb2)
        clear h2 hb2
        go_wp2
        all_goals
          go_roundg (gk - 1)
          case measure => have := Hmj.out; omega
          case rel => exact ⟨x + 1, by have := Hmj.out; omega, by go_num, Hb2.out, by rw [Hnext.out, He.out]; simpa using H2.out⟩
      by_cases c9 : c = 9
      · subst c9
        have hv : (s[x].toNat : Int) = 9 := hbv
        have He := Lib.hid (show escU 9 = [92, 116] from rfl)
        clear hbv
        go_wp2_with fail
        refine (wS w.heap.size w.heap.size acc [92, 116] _ _ rfl HI.out (by have := Hl.out; simp; omega) Hb.out.size).mono ?_
        rintro e w2 ⟨rfl, h2, hb2⟩
        have H2 := Lib.hid h2; have Hb2 := Lib.hid (Hb.out.trans hb2)
        clear h2 hb2
        go_wp2
        all_goals
          go_roundg (gk - 1)
          case measure => have := Hmj.out; omega
          case rel => exact ⟨x + 1, by have := Hmj.out; omega, by go_num, Hb2.out, by rw [Hnext.out, He.out]; simpa using H2.out⟩
      have he := escU_other c34 c92 c10 c13 c9
      have n34 := u8_ne (n := 34) (by omega) c34
      have n92 := u8_ne (n := 92) (by omega) c92
      have n10 := u8_ne (n := 10) (by omega) c10
      have n13 := u8_ne (n := 13) (by omega) c13
      have n9 := u8_ne (n := 9) (by omega) c9
      clear c34 c92 c10 c13 c9
      obtain ⟨v, hvc⟩ : ∃ v : Int, v = (c.toNat : Int) := ⟨_, rfl⟩
      rw [← hvc] at hbv hr n34 n92 n10 n13 n9
      have Hvc := Lib.hid hvc
      have q34 : (v == 34) = false := beq_false_of_ne n34
      have q92 : (v == 92) = false := beq_false_of_ne n92
      have q10 : (v == 10) = false := beq_false_of_ne n10
      have q13 : (v == 13) = false := beq_false_of_ne n13
      have q9 : (v == 9) = false := beq_false_of_ne n9
      by_cases hp : 32 ≤ v ∧ v ≤ 126
      · obtain ⟨hp1, hp2⟩ := hp
        have He := Lib.hid (he.trans (if_pos (by omega)))
        have f2 : decide (v ≤ 126) = true := decide_eq_true hp2
        clear he hvc
        go_wp2_with fail
        refine (wB w.heap.size w.heap.size acc c v _ Hvc.out HI.out (by have := Hl.out; omega) Hb.out.size).mono ?_
        rintro e w2 ⟨rfl, h2, hb2⟩
        have H2 := Lib.hid h2; have Hb2 := Lib.hid (Hb.out.trans hb2)
        clear h2 hb2
        go_wp2
        all_goals
          go_roundg (gk - 1)
          case measure => have := Hmj.out; omega
          case rel => exact ⟨x + 1, by have := Hmj.out; omega, by go_num, Hb2.out, by rw [Hnext.out, He.out]; simpa using H2.out⟩
      · have He := Lib.hid (he.trans (if_neg (by omega)))
        have i1 := hex_idx (v / 16) (v / 16) (by omega) (by omega) rfl
        have i2 := hex_idx (v % 16) (v % 16) (by omega) (by omega) rfl
        have U1 := Lib.hid (show hexd (v / 16) = ((hexU (c.toNat / 16)).toNat : Int) by rw [← hexd_U _ (by omega)]; congr 1; omega)
        have U2 := Lib.hid (show hexd (v % 16) = ((hexU (c.toNat % 16)).toNat : Int) by rw [← hexd_U _ (by omega)]; congr 1; omega)
        have hcs : v < 32 ∨ 126 < v := by omega
        clear he hvc hp
        rcases hcs with hcs | hcs
        all_goals
          go_wp2_with fail
          refine (wS w.heap.size w.heap.size acc [92, 117, 48, 48] _ _ rfl HI.out (by have := Hl.out; simp; omega) Hb.out.size).mono ?_
          rintro e w2 ⟨rfl, h2, hb2⟩
          have H2 := Lib.hid h2; have Hb2 := Lib.hid (Hb.out.trans hb2)
          clear h2 hb2
          go_wp2_with fail
          refine (wB w.heap.size w.heap.size (acc ++ [92, 117, 48, 48]) (hexU (c.toNat / 16)) (hexd (v / 16)) _ U1.out H2.out (by have := Hl.out; simp; omega) Hb2.out.size).mono ?_
          rintro e w3 ⟨rfl, h3, hb3⟩
          have H3 := Lib.hid h3; have Hb3 := Lib.hid (Hb2.out.trans hb3)
          clear h3 hb3
          go_wp2_with fail
          refine (wB w.heap.size w.heap.size (acc ++ [92, 117, 48, 48] ++ [hexU (c.toNat / 16)]) (hexU (c.toNat % 16)) (hexd (v % 16)) _ U2.out H3.out (by have := Hl.out; simp; omega) Hb3.out.size).mono ?_
          rintro e w4 ⟨rfl, h4, hb4⟩
          have H4 := Lib.hid h4; have Hb4 := Lib.hid (Hb3.out.trans hb4)
          clear h4 hb4
          go_wp2
          all_goals
            go_roundg (gk - 1)
            case measure => have := Hmj.out; omega
            case rel => exact ⟨x + 1, by have := Hmj.out; omega, by go_num, Hb4.out, by rw [Hnext.out, He.out]; simpa using H4.out⟩
    · obtain rfl : x = s.size := by omega
      have Hq := Lib.hid (show [34] ++ escL (tk s s.size) ++ [34] = quoteU s.data.toList by rw [tk_all]; rfl)
      generalize [34] ++ escL (tk s s.size) = acc at *
      have Hl := Lib.hid hlen
      go_wp2_with fail
      refine (wB w.heap.size w.heap.size acc 34 34 _ rfl HI.out (by have := Hl.out; omega) Hb.out.size).mono ?_
      rintro e w2 ⟨rfl, h2, hb2⟩
      have H2 := Lib.hid h2; have Hb2 := Lib.hid (Hb.out.trans hb2)
      clear h2 hb2
      go_wp2_with fail
      refine (Tryz.Builder_String_any_k w.heap.size w.heap.size (acc ++ [34]) _ H2.out Hb2.out.size).mono ?_
      rintro e w3 ⟨rfl, _, hb3, _⟩
      have Hb3 := Lib.hid (Hb2.out.trans hb3)
      clear hb3
      go_wp2
      go_ret
      exact ⟨by rw [← Hq.out]; rfl, Hb3.out⟩
end Go.Proofs.YtdklhkdlndlgnaaGreatDoor
