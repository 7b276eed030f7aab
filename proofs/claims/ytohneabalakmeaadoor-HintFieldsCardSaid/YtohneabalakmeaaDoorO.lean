/- A quoted string read, in the reference's text. -/
import Derived.Test.YtohneabalakmeaaDoorN
namespace Go.Proofs.YtohneabalakmeaaDoor
open Go.RowKit
attribute [local irreducible] wpList Calls Code.wp
theorem unq_step {L acc : List UInt8} {m m' : Nat} {y : UInt8} (h : unqU L = (unqU (L.drop m)).map (acc ++ ·)) (h2 : unqU (L.drop m) = (unqU (L.drop m')).map (y :: ·)) : unqU L = (unqU (L.drop m')).map ((acc ++ [y]) ++ ·) := by
  rw [h, h2, Option.map_map]
  congr 1
  funext r
  simp
theorem unq_none {L acc : List UInt8} {m : Nat} (h : unqU L = (unqU (L.drop m)).map (acc ++ ·)) (h2 : unqU (L.drop m) = none) : unqU L = none := by rw [h, h2]; rfl
theorem unq_end {L acc : List UInt8} {m : Nat} (h : unqU L = (unqU (L.drop m)).map (acc ++ ·)) (hm : L.length ≤ m) : unqU L = some acc := by rw [h, List.drop_of_length_le hm, unqU_nil]; simp
def uqV : Option (List UInt8) → Value
  | some x => .tuple #[.string (bs x), .int .i64 0]
  | none => .tuple #[.string ⟨#[]⟩, .int .i64 3]
def Uq (r : Option (List UInt8)) (w : World) (e : Ending) (w' : World) : Prop := e = .returned (uqV r) ∧ Below w.heap.size w w'
theorem mid_bs (s : ByteArray) : s.extract 1 (s.size - 1) = bs ((s.data.toList.drop 1).take (s.data.toList.length - 2)) := by
  apply ByteArray.ext
  apply Array.toList_inj.1
  simp [bs, List.extract]
  omega
theorem cut_list (d : ByteArray) (x : Nat) : (d.extract (x + 2) (x + 6)).data.toList = (d.data.toList.drop (x + 2)).take 4 := by
  simp [List.extract]
theorem bV_get {s : ByteArray} {k : Nat} (h : k < s.size) : s.data.toList.getD k 0 = 34 ↔ bV s k = 34 := by
  unfold bV
  constructor
  · intro e; rw [e]; rfl
  · intro e
    apply UInt8.toNat_inj.1
    have : UInt8.toNat 34 = 34 := rfl
    omega
/-- what stands between the marks, or nothing -/
theorem unq_of {s : ByteArray} (h0 : 2 ≤ s.size) (h1 : bV s 0 = 34) (h2 : bV s (s.size - 1) = 34) : unquoteU s.data.toList = unqU (s.extract 1 (s.size - 1)).data.toList := by
  have hl : s.data.toList.length = s.size := by simp
  rw [mid_bs, bs_data]
  unfold unquoteU
  rw [if_pos ⟨by rw [hl]; exact h0, (bV_get (by omega)).2 h1, by rw [hl]; exact (bV_get (by omega)).2 h2⟩]
theorem unq_not {s : ByteArray} (h : ¬ (2 ≤ s.size ∧ bV s 0 = 34 ∧ bV s (s.size - 1) = 34)) : unquoteU s.data.toList = none := by
  have hl : s.data.toList.length = s.size := by simp
  unfold unquoteU
  rw [if_neg]
  rintro ⟨h0, h1, h2⟩
  rw [hl] at h0 h2
  exact h ⟨h0, (bV_get (by omega)).1 h1, (bV_get (by omega)).1 h2⟩
set_option maxRecDepth 100000 in
set_option maxHeartbeats 8000000 in
theorem unquoteR (s : ByteArray) (w : World) (hs : s.size ≤ 100000) : Calls Tryd.prog 28 #[.string s] w (Uq (unquoteU s.data.toList) w) := by
  by_cases hlen : s.size < 2
  · have Hno := Lib.hid (unq_not (s := s) (fun h => by omega))
    have q0 : decide ((s.size : Int) < 2) = true := decide_eq_true (by omega)
    go_enter Tryd.func28, Tryd.ntmps28
    go_wp2
    go_ret2
    exact ⟨by rw [Hno.out]; rfl, Below.refl _ _⟩
  have q0 : decide ((s.size : Int) < 2) = false := decide_eq_false (by omega)
  have i0 : (0 : Int) < (s.size : Int) := by omega
  have hb0 := bV_at (show 0 < s.size by omega)
  have hr0 := bV_range s 0
  by_cases h0 : bV s 0 = 34
  case neg =>
    have Hno := Lib.hid (unq_not (s := s) (fun h => h0 h.2.1))
    have q1 : (bV s 0 == 34) = false := beq_false_of_ne h0
    generalize bV s 0 = v0 at *
    go_enter Tryd.func28, Tryd.ntmps28
    go_wp2
    go_ret2
    exact ⟨by rw [Hno.out]; rfl, Below.refl _ _⟩
  have hbz := bV_at (show s.size - 1 < s.size by omega)
  have hrz := bV_range s (s.size - 1)
  by_cases hz : bV s (s.size - 1) = 34
  case neg =>
    have Hno := Lib.hid (unq_not (s := s) (fun h => hz h.2.2))
    have q1 : (bV s (s.size - 1) == 34) = false := beq_false_of_ne hz
    rw [h0] at hb0
    generalize bV s (s.size - 1) = v1 at *
    go_enter Tryd.func28, Tryd.ntmps28
    go_wp2
    go_ret2
    exact ⟨by rw [Hno.out]; rfl, Below.refl _ _⟩
  have Hu := Lib.hid (unq_of (by omega) h0 hz)
  rw [h0] at hb0
  rw [hz] at hbz
  clear h0 hz hr0 hrz
  have hdz : (s.extract 1 (s.size - 1)).size ≤ 100000 := by rw [mid_bs, bs_size]; simp; omega
  obtain ⟨d, hd⟩ : ∃ d, s.extract 1 (s.size - 1) = d := ⟨_, rfl⟩
  rw [hd] at Hu hdz
  go_enter Tryd.func28, Tryd.ntmps28
  go_wp2
  clear hb0 hbz i0 q0
  go_loopg [5, 6] d.size (fun j o i wr => ∃ (m : Nat) (acc : List UInt8), m + j = d.size ∧ i = .int .i64 m ∧ o = .string (bs acc) ∧ acc.length ≤ m ∧ unqU d.data.toList = (unqU (d.data.toList.drop m)).map (acc ++ ·) ∧ Below w.heap.size w wr)
  case atStart => exact ⟨0, [], by omega, rfl, rfl, by simp, by simp, Below.refl _ _⟩
  case round =>
    obtain ⟨x, acc, hmj, rfl, rfl, hac, hun, hb⟩ := hrel
    have Hmj := Lib.hid hmj; have hmn : x ≤ d.size := by omega
    have Hun := Lib.hid hun
    have Hb := Lib.hid hb
    clear hmj hun hb
    have hasz : (bs acc).size ≤ 100000 := by rw [bs_size]; omega
    have Hac := Lib.hid hac
    clear hac
    by_cases hlt : x < d.size
    · have hxi : (x : Int) < (d.size : Int) := by omega
      have hb := bV_at hlt
      rw [bV_bC] at hb
      have HL := Lib.hid (drop_at hlt)
      have hc256 := (bC d x).toNat_lt
      generalize bC d x = c at *
      obtain ⟨v, hv⟩ : ∃ v : Int, (c.toNat : Int) = v := ⟨_, rfl⟩
      rw [hv] at hb
      by_cases hbad : c.toNat < 32 ∨ 126 < c.toNat ∨ c = 34
      · have Hno := Lib.hid (Hu.out.trans (unq_none Hun.out (by rw [HL.out]; exact unqU_bad hbad)))
        have hbv : v < 32 ∨ 126 < v ∨ v = 34 := by
          rcases hbad with h | h | h
          · exact .inl (by omega)
          · exact .inr (.inl (by omega))
          · exact .inr (.inr (by rw [← hv, h]; rfl))
        clear hbad hv
        generalize bs acc = a at *
        rcases hbv with h | h | h
        · go_wp2
          go_ret2
          exact ⟨by rw [Hno.out]; rfl, Hb.out⟩
        · go_wp2
          all_goals first
            | (exfalso; omega)
            | (go_ret2
               exact ⟨by rw [Hno.out]; rfl, Hb.out⟩)
        · subst h
          go_wp2
          go_ret2
          exact ⟨by rw [Hno.out]; rfl, Hb.out⟩
      have hc34 : v ≠ 34 := by
        rw [← hv]
        exact u8_ne (n := 34) (by omega) (fun e => hbad (.inr (.inr e)))
      have f1 : decide (v < 32) = false := decide_eq_false (by omega)
      have f1' : ¬ v < 32 := by omega
      have f2 : decide (v > 126) = false := decide_eq_false (by omega)
      have f3 : (v == 34) = false := beq_false_of_ne hc34
      by_cases h92 : c = 92
      case neg =>
        have q92 : (v == 92) = false := beq_false_of_ne (by rw [← hv]; exact u8_ne (n := 92) (by omega) h92)
        have Hst := Lib.hid (unq_step (m' := x + 1) Hun.out (by rw [HL.out]; exact unqU_plain hbad h92))
        have hcv := conv_new wr #[.int .u8 v] [c] 1 rfl (by rw [← hv]; rfl)
        have Hnx := Lib.hid (show bs acc ++ bs [c] = bs (acc ++ [c]) from bs_append _ _)
        have hk1 : (bs [c]).size ≤ 1 := by rw [bs_size]; simp
        have Hv := Lib.hid hv
        clear hbad hv h92
        generalize bs acc = a at *
        generalize bs [c] = k at *
        go_wp2
        go_roundg (gk - 1)
        case measure => have := Hmj.out; omega
        case rel => exact ⟨x + 1, acc ++ [c], by have := Hmj.out; omega, by go_num, by rw [Hnx.out], by have := Hac.out; simp; omega, Hst.out, Hb.out.alloc Hb.out.size _⟩
      subst h92
      obtain rfl : v = 92 := by rw [← hv]; rfl
      clear hbad hv hc34 f1 f1' f2 f3 hc256
      by_cases hlt1 : x + 1 < d.size
      case neg =>
        have Hno := Lib.hid (Hu.out.trans (unq_none Hun.out (by rw [HL.out, List.drop_of_length_le (by simp; omega)]; exact unqU_last)))
        have q1 : decide ((x : Int) + 1 ≥ (d.size : Int)) = true := decide_eq_true (by omega)
        generalize bs acc = a at *
        go_wp2
        go_ret2
        exact ⟨by rw [Hno.out]; rfl, Hb.out⟩
      have q1 : decide ((x : Int) + 1 ≥ (d.size : Int)) = false := decide_eq_false (by omega)
      have hxi1 : (x : Int) + 1 < (d.size : Int) := by omega
      have hb1 := bV_at hlt1
      rw [bV_bC] at hb1
      have HL1 := Lib.hid (HL.out.trans (by rw [drop_at hlt1]))
      clear HL
      have HS := Lib.hid (simpleR (bC d (x + 1)) _ rfl wr)
      unfold Sm at HS
      generalize bC d (x + 1) = e at *
      cases hsim : simU e with
      | some y =>
        rw [hsim] at HS
        unfold simV at HS
        have Hst := Lib.hid (unq_step (m' := x + 2) Hun.out (by rw [HL1.out]; exact unqU_sim hsim))
        have hcv := conv_new wr #[.int .u8 (y.toNat : Int)] [y] 1 rfl rfl
        have Hnx := Lib.hid (show bs acc ++ bs [y] = bs (acc ++ [y]) from bs_append _ _)
        have hk1 : (bs [y]).size ≤ 1 := by rw [bs_size]; simp
        clear hsim
        generalize bs acc = a at *
        generalize bs [y] = k at *
        generalize (e.toNat : Int) = ev at *
        go_wp2_with fail
        refine HS.out.mono ?_
        rintro e2 w2 ⟨rfl, rfl⟩
        go_wp2
        go_roundg (gk - 2)
        case measure => have := Hmj.out; omega
        case rel => exact ⟨x + 2, acc ++ [y], by have := Hmj.out; omega, by go_num, by rw [Hnx.out], by have := Hac.out; simp; omega, Hst.out, Hb.out.alloc Hb.out.size _⟩
      | none =>
        rw [hsim] at HS
        unfold simV at HS
        have hrl : (d.data.toList.drop (x + 1 + 1)).length = d.size - (x + 2) := by simp
        by_cases h117 : e = 117
        case neg =>
          have q117 : ((e.toNat : Int) == 117) = false := beq_false_of_ne (u8_ne (n := 117) (by omega) h117)
          have Hno := Lib.hid (Hu.out.trans (unq_none Hun.out (by rw [HL1.out]; exact unqU_no hsim (.inl h117))))
          clear hsim h117
          generalize bs acc = a at *
          have n117 : ¬ (e.toNat : Int) = 117 := by simpa using q117
          generalize (e.toNat : Int) = ev at *
          go_wp2_with fail
          refine HS.out.mono ?_
          rintro e2 w2 ⟨rfl, rfl⟩
          go_wp2
          all_goals first
            | (exfalso; omega)
            | (go_ret2
               exact ⟨by rw [Hno.out]; rfl, Hb.out⟩)
        have he : (e.toNat : Int) = 117 := by rw [h117]; rfl
        rw [he] at hb1 HS
        by_cases hfit : x + 6 ≤ d.size
        case neg =>
          have q6 : decide ((x : Int) + 6 > (d.size : Int)) = true := decide_eq_true (by omega)
          have Hno := Lib.hid (Hu.out.trans (unq_none Hun.out (by rw [HL1.out]; exact unqU_no hsim (.inr (by rw [hrl]; omega)))))
          clear hsim h117 he
          generalize bs acc = a at *
          go_wp2_with fail
          refine HS.out.mono ?_
          rintro e2 w2 ⟨rfl, rfl⟩
          go_wp2
          go_ret2
          exact ⟨by rw [Hno.out]; rfl, Hb.out⟩
        have q6 : decide ((x : Int) + 6 > (d.size : Int)) = false := decide_eq_false (by omega)
        have HL2 : d.data.toList.drop x = 92 :: 117 :: d.data.toList.drop (x + 1 + 1) := by rw [HL1.out, h117]
        have Hcode := Lib.hid ((congrArg unqU HL2).trans (unqU_code (by rw [hrl]; omega)))
        clear HL2
        have hksz : (d.extract (x + 2) (x + 6)).size = 4 := by rw [ByteArray.size_extract]; omega
        have Hcl := Lib.hid (cut_list d x)
        obtain ⟨k, hk⟩ : ∃ k, d.extract (x + 2) (x + 6) = k := ⟨_, rfl⟩
        rw [hk] at hksz Hcl
        have HC := Lib.hid (codeR k wr hksz)
        rw [Hcl.out] at HC
        unfold Vl at HC
        have Hd4 := Lib.hid (show (d.data.toList.drop (x + 1 + 1)).drop 4 = d.data.toList.drop (x + 6) by rw [List.drop_drop])
        clear hsim h117 he Hcl hksz
        cases hcf : codeFrom 0 ((d.data.toList.drop (x + 2)).take 4) with
        | none =>
          rw [hcf] at HC
          unfold optI at HC
          have Hno := Lib.hid (Hu.out.trans (unq_none Hun.out (by rw [Hcode.out]; rw [show (d.data.toList.drop (x + 1 + 1)).take 4 = (d.data.toList.drop (x + 2)).take 4 from rfl, hcf])))
          clear hcf
          generalize bs acc = a at *
          go_wp2_with fail
          refine HS.out.mono ?_
          rintro e2 w2 ⟨rfl, rfl⟩
          go_wp2_with fail
          refine HC.out.mono ?_
          rintro e2 w2 ⟨rfl, rfl⟩
          go_wp2
          go_ret2
          exact ⟨by rw [Hno.out]; rfl, Hb.out⟩
        | some n =>
          rw [hcf] at HC
          unfold optI at HC
          have Hcode2 := Lib.hid (Hcode.out.trans (by rw [show (d.data.toList.drop (x + 1 + 1)).take 4 = (d.data.toList.drop (x + 2)).take 4 from rfl, hcf]))
          clear hcf Hcode
          have n0 : decide ((n : Int) < 0) = false := decide_eq_false (by omega)
          have n0' : ¬ (n : Int) < 0 := by omega
          by_cases hn : n ≤ 255
          case neg =>
            have n255 : decide ((n : Int) > 255) = true := decide_eq_true (by omega)
            have Hno := Lib.hid (Hu.out.trans (unq_none Hun.out (Hcode2.out.trans (if_neg hn))))
            generalize bs acc = a at *
            go_wp2_with fail
            refine HS.out.mono ?_
            rintro e2 w2 ⟨rfl, rfl⟩
            go_wp2_with fail
            refine HC.out.mono ?_
            rintro e2 w2 ⟨rfl, rfl⟩
            go_wp2
            go_ret2
            exact ⟨by rw [Hno.out]; rfl, Hb.out⟩
          have n255 : decide ((n : Int) > 255) = false := decide_eq_false (by omega)
          have Hst := Lib.hid (unq_step (m' := x + 6) Hun.out (by rw [← Hd4.out]; exact Hcode2.out.trans (if_pos hn)))
          have hon : (UInt8.ofNat n).toNat = n := by simp; omega
          have hcv := conv_new wr #[.int .u8 (n : Int)] [UInt8.ofNat n] 1 rfl (by simp only [Lib.byteCells, List.map_cons, List.map_nil]; rw [hon])
          have Hnx := Lib.hid (show bs acc ++ bs [UInt8.ofNat n] = bs (acc ++ [UInt8.ofNat n]) from bs_append _ _)
          have hk1 : (bs [UInt8.ofNat n]).size ≤ 1 := by rw [bs_size]; simp
          generalize bs acc = a at *
          generalize bs [UInt8.ofNat n] = kk at *
          go_wp2_with fail
          refine HS.out.mono ?_
          rintro e2 w2 ⟨rfl, rfl⟩
          go_wp2_with fail
          refine HC.out.mono ?_
          rintro e2 w2 ⟨rfl, rfl⟩
          go_wp2
          go_roundg (gk - 6)
          case measure => have := Hmj.out; omega
          case rel => exact ⟨x + 6, acc ++ [UInt8.ofNat n], by have := Hmj.out; omega, by go_num, by rw [Hnx.out], by have := Hac.out; simp; omega, Hst.out, Hb.out.alloc Hb.out.size _⟩
    · obtain rfl : x = d.size := by omega
      have Hfin := Lib.hid (Hu.out.trans (unq_end Hun.out (by simp)))
      have Ha := Lib.hid (show uqV (some acc) = .tuple #[.string (bs acc), .int .i64 0] from rfl)
      generalize bs acc = a at *
      go_wp2
      go_ret2
      exact ⟨by rw [Hfin.out, Ha.out]; rfl, Hb.out⟩
end Go.Proofs.YtohneabalakmeaaDoor
