/- Parts of a proof, merged by a program (shake.py). -/
import Derived.Test.YtjhjleanihgopaaDoorCards
import Derived.Test.YtjhjleanihgopaaDoorTie
import Derived.ProofKit
import Derived.OpenShut
import Derived.Deep.DeepHandedRow
import Derived.Test.YtjhjleanihgopaaDoorR3
set_option linter.unusedVariables false
set_option linter.unusedSimpArgs false
namespace Go.Proofs.YtjhjleanihgopaaDoor
open Go.ChangeShapes Go.WideShapes Go.ChangeAt Go.RowKit
attribute [local irreducible] wpList Calls Code.wp
theorem weight_head {H : Type} {P : Program} {t : TypeId} {ts : List TypeId} {ds : List (DataW H)} {l : List UInt8} : l.length ∈ DataW.weightsEach P (t :: ts) (.lit (.string l) :: ds) := by
  simp [DataW.weightsEach, DataW.weights]
theorem reach_size {H : Type} {P : Program} {ts : List TypeId} {ds : List (DataW H)} {s : ByteArray} (h : (DataW.weightsEach P ts ds).all (· ≤ reachBytes) = true) (hm : s.data.toList.length ∈ DataW.weightsEach P ts ds) : s.size ≤ 140737488351232 := by
  have h1 : s.data.toList.length ≤ reachBytes := of_decide_eq_true (List.all_eq_true.1 h _ hm)
  have h2 : s.data.toList.length = s.size := by simp
  unfold reachBytes at h1
  omega
end Go.Proofs.YtjhjleanihgopaaDoor
namespace Go.Proofs.YtjhjleanihgopaaDoor
open Go.RowKit
attribute [local irreducible] wpList Calls Code.wp
theorem decV_append (n : Nat) (a b : List UInt8) : decV n (a ++ b) = decV (decV n a) b := by simp [decV]
theorem decV_take (l : List UInt8) (m : Nat) : decV 0 (l.take m) ≤ decV 0 l := by
  conv => rhs; rw [← List.take_append_drop m l]
  rw [decV_append]; exact decV_ge _ _
theorem tk_bs (l : List UInt8) (m : Nat) : tk (bs l) m = l.take m := by unfold tk; rw [bs_data]
theorem rn_of (l : List UInt8) (ng : Bool) (hng : ng = decide (l.head? = some 45)) : Rn l (bs (magU l)) ng := by
  have hs : (bs (magU l)).size = (magU l).length := bs_size _
  have hlen : 0 < (magU l).length → (1 < l.length ↔ (1 < (magU l).length ∨ ng = true)) := by
    intro h0
    unfold magU at h0 ⊢
    by_cases h : l.head? = some 45
    · rw [if_pos h] at h0 ⊢
      rw [hng, decide_eq_true h]
      simp at h0 ⊢; omega
    · rw [if_neg h] at h0 ⊢
      rw [hng, decide_eq_false h]
      simp
  have htk : tk (bs (magU l)) (bs (magU l)).size = magU l := by rw [tk_bs, hs]; exact List.take_length
  refine ⟨fun h => numU_empty (List.eq_nil_of_length_eq_zero (by rw [← hs]; exact h)), fun h0 h1 h2 => ?_, fun x hx h => numU_bad (not_dig (k := x) (by rw [← hs]; exact hx) h), fun h0 h1 h2 => ?_, fun m => ?_⟩
  · rw [hs] at h0 h2
    exact numU_zero ((head_bs h0).2 h1) ((hlen h0).2 h2)
  · rw [htk]
    rw [hs] at h0 h1 h2
    have hne : magU l ≠ [] := fun e => by rw [e] at h0; exact absurd h0 (by simp)
    have ha : (magU l).all digU = true := all_dig h2
    rw [numU_val hne (fun e => h1 ⟨(head_bs h0).1 e.1, (hlen h0).1 e.2⟩) ha, atoi_num l hne ha, hng]
    by_cases h : l.head? = some 45
    · rw [if_pos h, decide_eq_true h, if_pos rfl]
    · rw [if_neg h, decide_eq_false h]; rfl
  · rw [htk, tk_bs]; exact decV_take _ _
theorem drop_one (s : ByteArray) : s.extract 1 s.size = bs (s.data.toList.drop 1) := by
  apply ByteArray.ext
  apply Array.toList_inj.1
  simp [bs, List.extract]
  exact List.take_of_length_le (by simp)
theorem bs_self (s : ByteArray) : bs s.data.toList = s := by cases s; simp [bs]
theorem bV_head {s : ByteArray} (h : 0 < s.size) : s.data.toList.head? = some 45 ↔ bV s 0 = 45 := by
  have h1 : 0 < s.data.toList.length := by simpa using h
  unfold bV
  cases hl : s.data.toList with
  | nil => rw [hl] at h1; simp at h1
  | cons c r =>
    simp only [List.head?_cons, List.getD_cons_zero, Option.some.injEq]
    constructor
    · intro e; rw [e]; rfl
    · intro e
      apply UInt8.toNat_inj.1
      have : UInt8.toNat 45 = 45 := rfl
      omega
set_option maxRecDepth 100000 in
set_option maxHeartbeats 4000000 in
theorem numberR (s : ByteArray) (w : World) (hs : s.size ≤ 281474976710656) : Calls Tryd.prog 99 #[.string s] w (Nm (numU s.data.toList) w) := by
  by_cases hs0 : s.size = 0
  · have hl : s.data.toList = [] := List.eq_nil_of_length_eq_zero (by simpa using hs0)
    have Hn := Lib.hid (numU_empty (l := s.data.toList) (by rw [hl]; rfl))
    have q0 : decide ((s.size : Int) > 0) = false := decide_eq_false (by omega)
    have q1 : ((s.size : Int) == 0) = true := by rw [hs0]; rfl
    clear hl
    go_enter Tryd.func99, Tryd.ntmps99
    go_wp2
    go_ret2
    exact ⟨by rw [Hn.out]; rfl, Below.refl _ _⟩
  have hsp : 0 < s.size := by omega
  have q0 : decide ((s.size : Int) > 0) = true := decide_eq_true (by omega)
  have qi : (0 : Int) < (s.size : Int) := by omega
  have hb0 := bV_at hsp
  have hr0 := bV_range s 0
  obtain ⟨l, hl⟩ : ∃ l, l = s.data.toList := ⟨_, rfl⟩
  have HX : ∃ (d : ByteArray) (ng : Bool), Rn l d ng ∧ d.size ≤ s.size ∧ ((ng = true ∧ bV s 0 = 45 ∧ s.extract 1 s.size = d) ∨ (ng = false ∧ bV s 0 ≠ 45 ∧ d = s)) := by
    by_cases h : bV s 0 = 45
    · have hh : l.head? = some 45 := by rw [hl]; exact (bV_head hsp).2 h
      have hm : magU l = l.drop 1 := by unfold magU; rw [if_pos hh]; simp
      refine ⟨bs (magU l), true, rn_of l true (by rw [decide_eq_true hh]), ?_, .inl ⟨rfl, h, ?_⟩⟩
      · rw [bs_size, hm, hl]; simp
      · rw [hm, hl]; exact drop_one s
    · have hh : ¬ l.head? = some 45 := by rw [hl]; exact fun e => h ((bV_head hsp).1 e)
      have hm : magU l = l := mag_pos hh
      have hr := rn_of l false (by rw [decide_eq_false hh])
      rw [hm, hl, bs_self] at hr
      exact ⟨s, false, by rw [hl]; exact hr, Nat.le_refl _, .inr ⟨rfl, h, rfl⟩⟩
  rw [← hl]
  clear hl
  obtain ⟨d, ng, hR, hds, hcase⟩ := HX
  have R := Lib.hid hR
  clear hR
  by_cases hd0 : d.size = 0
  · have Hn := Lib.hid (R.out.empty hd0)
    rcases hcase with ⟨rfl, h45, hx⟩ | ⟨rfl, h45, rfl⟩
    · rw [h45] at hb0
      have q1 : ((d.size : Int) == 0) = true := by rw [hd0]; rfl
      clear h45
      go_enter Tryd.func99, Tryd.ntmps99
      go_wp2
      go_ret2
      exact ⟨by rw [Hn.out]; rfl, Below.refl _ _⟩
    · exact absurd hd0 hs0
  have hdp : 0 < d.size := by omega
  have p0 : ((d.size : Int) == 0) = false := beq_false_of_ne (by omega)
  have pi : (0 : Int) < (d.size : Int) := by omega
  have hc0 := bV_at hdp
  have hcr := bV_range d 0
  by_cases hz : bV d 0 = 48 ∧ (1 < d.size ∨ ng = true)
  · have Hn := Lib.hid (R.out.zero hdp hz.1 hz.2)
    obtain ⟨hz1, hz2⟩ := hz
    rw [hz1] at hc0
    rcases hcase with ⟨rfl, h45, hx⟩ | ⟨rfl, h45, rfl⟩
    · rw [h45] at hb0
      clear h45 hz1 hz2
      rcases Nat.lt_or_ge 1 d.size with h1 | h1
      · have q1 : decide ((d.size : Int) > 1) = true := decide_eq_true (by omega)
        go_enter Tryd.func99, Tryd.ntmps99
        go_wp2
        go_ret2
        exact ⟨by rw [Hn.out]; rfl, Below.refl _ _⟩
      · have q1 : decide ((d.size : Int) > 1) = false := decide_eq_false (by omega)
        go_enter Tryd.func99, Tryd.ntmps99
        go_wp2
        go_ret2
        exact ⟨by rw [Hn.out]; rfl, Below.refl _ _⟩
    · have h1 : 1 < d.size := by rcases hz2 with h | h; exact h; cases h
      have q1 : decide ((d.size : Int) > 1) = true := decide_eq_true (by omega)
      clear h45 hz1 hz2
      go_enter Tryd.func99, Tryd.ntmps99
      go_wp2
      go_ret2
      exact ⟨by rw [Hn.out]; rfl, Below.refl _ _⟩
  have Hz := Lib.hid hz
  have hcs : (bV d 0 = 48 ∧ d.size ≤ 1 ∧ ng = false) ∨ ¬ bV d 0 = 48 := by
    by_cases e : bV d 0 = 48
    · refine .inl ⟨e, ?_, ?_⟩
      · rcases Nat.lt_or_ge 1 d.size with h | h
        · exact absurd ⟨e, .inl h⟩ hz
        · exact h
      · cases ng with
        | false => rfl
        | true => exact absurd ⟨e, .inr rfl⟩ hz
    · exact .inr e
  clear hz
  have hall3 : (ng = true ∧ bV s 0 = 45 ∧ s.extract 1 s.size = d ∧ ¬ bV d 0 = 48) ∨ (ng = false ∧ bV s 0 ≠ 45 ∧ d = s ∧ bV d 0 = 48 ∧ d.size ≤ 1) ∨ (ng = false ∧ bV s 0 ≠ 45 ∧ d = s ∧ ¬ bV d 0 = 48) := by
    rcases hcase with ⟨h1, h2, h3⟩ | ⟨h1, h2, h3⟩
    · rcases hcs with ⟨_, _, h⟩ | h
      · rw [h] at h1; cases h1
      · exact .inl ⟨h1, h2, h3, h⟩
    · rcases hcs with ⟨h, h', _⟩ | h
      · exact .inr (.inl ⟨h1, h2, h3, h, h'⟩)
      · exact .inr (.inr ⟨h1, h2, h3, h⟩)
  clear hcase hcs
  have hdz : d.size ≤ 281474976710656 := by omega
  obtain ⟨v0, hv0⟩ : ∃ v0, v0 = bV d 0 := ⟨_, rfl⟩
  rw [← hv0] at hc0 hcr
  have Hv0 := Lib.hid hv0
  rcases hall3 with ⟨rfl, h45, hx, h48⟩ | ⟨rfl, h45, rfl, h48, h1⟩ | ⟨rfl, h45, rfl, h48⟩
  all_goals first
    | (rw [h45] at hb0
       rw [← hv0] at h48
       have q1 : (v0 == 48) = false := beq_false_of_ne h48
       have Hfin := Lib.hid (fun h => (R.out.good hdp Hz.out h).trans (if_pos rfl))
       clear h45 hv0 h48 hr0)
    | (rw [← hv0] at h48 h45 hb0 hr0
       subst h48
       have q1 : decide ((d.size : Int) > 1) = false := decide_eq_false (by omega)
       have Hfin := Lib.hid (fun h => (R.out.good hdp Hz.out h).trans (if_neg (by simp)))
       clear h45 hv0 hr0 hb0)
    | (rw [← hv0] at h48 h45 hb0 hr0
       have q1 : (v0 == 48) = false := beq_false_of_ne h48
       have q2 : (v0 == 45) = false := beq_false_of_ne h45
       have Hfin := Lib.hid (fun h => (R.out.good hdp Hz.out h).trans (if_neg (by simp)))
       clear h45 hv0 h48 hr0 hb0)
  all_goals
    clear Hz Hv0
    go_enter Tryd.func99, Tryd.ntmps99
    go_wp2
    go_loop [6] (fun i => ∃ m : Nat, m ≤ d.size ∧ i = .int .i64 m ∧ ∀ k, k < m → digB (bV d k) = true) (fun i => d.size - (intOf i).toNat)
    case atStart => exact ⟨0, by omega, rfl, fun k hk => by omega⟩
    case round =>
      obtain ⟨x, hx, rfl, hall⟩ := hrel
      have Hall := Lib.hid hall
      clear hall
      by_cases hlt : x < d.size
      · have hb := bV_at hlt
        have hr := bV_range d x
        have Hat := Lib.hid (R.out.bad x hlt)
        have Hstep := Lib.hid (show digB (bV d x) = true → ∀ k, k < x + 1 → digB (bV d k) = true from fun h k hk => by
          by_cases e : k = x
          · rw [e]; exact h
          · exact Hall.out k (by omega))
        generalize bV d x = v at *
        by_cases h : digB v = true
        · have Hok := Lib.hid (Hstep.out h)
          have Hdig := Lib.hid (digit v w (by omega) (by omega))
          rw [h] at Hdig
          unfold Yn at Hdig
          clear h
          go_wp2_with fail
          refine Hdig.out.mono ?_
          rintro e w2 ⟨rfl, rfl⟩
          go_wp2
          go_round
          case rel => exact ⟨x + 1, by omega, by go_num, Hok.out⟩
          case measure => simp [intOf]; omega
        · have h : digB v = false := by simpa using h
          have Hno := Lib.hid (Hat.out h)
          have Hdig := Lib.hid (digit v w (by omega) (by omega))
          rw [h] at Hdig
          unfold Yn at Hdig
          clear h
          go_wp2_with fail
          refine Hdig.out.mono ?_
          rintro e w2 ⟨rfl, rfl⟩
          go_wp2
          go_ret2
          exact ⟨by rw [Hno.out]; rfl, Below.refl _ _⟩
      · obtain rfl : x = d.size := by omega
        have Hfi := Lib.hid (Hfin.out Hall.out)
        clear Hfin
        go_wp2
        go_loopg [7, 8] d.size (fun j n i wr => ∃ m : Nat, m + j = d.size ∧ i = .int .i64 m ∧ n = .int .i64 (-(decV 0 (tk d m) : Int)) ∧ decV 0 (tk d m) ≤ 9223372036854775808 ∧ wr = w)
        case atStart => exact ⟨0, by omega, rfl, by rw [tk_zero, decV_nil]; rfl, by rw [tk_zero, decV_nil]; omega, rfl⟩
        case round =>
          obtain ⟨x, hmj, rfl, rfl, hu, rfl⟩ := hrel
          have Hmj := Lib.hid hmj; have hmn : x ≤ d.size := by omega
          clear hmj
          by_cases hlt : x < d.size
          · have hbv := bV_at hlt
            have hdg : 48 ≤ bV d x ∧ bV d x ≤ 57 := of_decide_eq_true (Hall.out x hlt)
            have Hnext := Lib.hid (show decV 0 (tk d (x + 1)) = 10 * decV 0 (tk d x) + ((bV d x).toNat - 48) by rw [tk_succ hlt, decV_snoc, bV_bC, Int.toNat_natCast])
            have Hmono := Lib.hid (R.out.mono (x + 1))
            obtain ⟨e, hv⟩ : ∃ e : Nat, bV d x = 48 + (e : Int) := ⟨(bV d x).toNat - 48, by omega⟩
            have he : e ≤ 9 := by omega
            rw [hv] at hbv
            have Hn2 := Lib.hid (show decV 0 (tk d (x + 1)) = 10 * decV 0 (tk d x) + e by rw [Hnext.out, hv]; omega)
            clear hv hdg Hnext
            generalize decV 0 (tk d x) = u at *
            have htd : (-9223372036854775808 + (48 + (e : Int) - 48)).tdiv 10 = -((9223372036854775808 - (e : Int)) / 10) := by
              rw [show (-9223372036854775808 + (48 + (e : Int) - 48)) = -(9223372036854775808 - (e : Int)) by omega, Int.neg_tdiv, Int.tdiv_eq_ediv_of_nonneg (by omega)]
            have Htd := Lib.hid htd
            clear htd
            by_cases hov : 9223372036854775808 < 10 * u + e
            · have Hno := Lib.hid (show numU l = .range by
                rw [Hfi.out]
                have h1 := Hmono.out
                rw [Hn2.out] at h1
                exact if_neg (by omega))
              have hq : -(u : Int) < (-9223372036854775808 + (48 + (e : Int) - 48)).tdiv 10 := by rw [Htd.out]; omega
              go_wp2
              all_goals first
                | (exfalso; omega)
                | (go_ret2
                   exact ⟨by rw [Hno.out]; rfl, Below.refl _ _⟩)
            · have hq : (-9223372036854775808 + (48 + (e : Int) - 48)).tdiv 10 ≤ -(u : Int) := by rw [Htd.out]; omega
              go_wp2
              all_goals first
                | (exfalso; omega)
                | (go_roundg (gk - 1)
                   case measure => have := Hmj.out; omega
                   case rel => exact ⟨x + 1, by have := Hmj.out; omega, by go_num, by rw [Hn2.out]; congr 1; omega, by rw [Hn2.out]; omega, rfl⟩)
          · obtain rfl : x = d.size := by omega
            first
              | (have Hn := Lib.hid (Hfi.out.trans (if_pos hu))
                 generalize decV 0 (tk d d.size) = u at *
                 go_wp2
                 go_ret2
                 exact ⟨by rw [Hn.out]; rfl, Below.refl _ _⟩)
              | (rcases Nat.lt_or_ge (decV 0 (tk d d.size)) 9223372036854775808 with hM | hM
                 · have Hn := Lib.hid (Hfi.out.trans (if_pos hM))
                   generalize decV 0 (tk d d.size) = u at *
                   have q : ((-(u : Int)) == -9223372036854775808) = false := beq_false_of_ne (by omega)
                   go_wp2
                   go_ret2
                   exact ⟨by rw [Hn.out]; simp [numT], Below.refl _ _⟩
                 · have Hn := Lib.hid (Hfi.out.trans (if_neg (by omega)))
                   have hue : decV 0 (tk d d.size) = 9223372036854775808 := by omega
                   rw [hue]
                   go_wp2
                   go_ret2
                   exact ⟨by rw [Hn.out]; rfl, Below.refl _ _⟩)
end Go.Proofs.YtjhjleanihgopaaDoor
namespace Go.Proofs.YtjhjleanihgopaaDoor
open Go.RowKit
attribute [local irreducible] wpList Calls Code.wp
set_option maxHeartbeats 1000000 in
theorem simpleR (c : UInt8) (v : Int) (hv : v = (c.toNat : Int)) (w : World) : Calls Tryd.prog 121 #[.int .u8 v] w (Sm (simU c) w) := by
  rcases sim_cases c with rfl | rfl | rfl | rfl | rfl | rfl | rfl | rfl | ⟨h, n1, n2, n3, n4, n5, n6, n7, n8⟩
  all_goals first
    | (subst hv
       go_enter Tryd.func121, Tryd.ntmps121
       go_wp2
       go_ret2
       exact ⟨rfl, rfl⟩)
    | (rw [← hv] at n1 n2 n3 n4 n5 n6 n7 n8
       have H := Lib.hid h
       have q1 := beq_false_of_ne n1
       have q2 := beq_false_of_ne n2
       have q3 := beq_false_of_ne n3
       have q4 := beq_false_of_ne n4
       have q5 := beq_false_of_ne n5
       have q6 := beq_false_of_ne n6
       have q7 := beq_false_of_ne n7
       have q8 := beq_false_of_ne n8
       clear h hv
       go_enter Tryd.func121, Tryd.ntmps121
       go_wp2
       go_ret2
       exact ⟨by rw [H.out]; rfl, rfl⟩)
def optI : Option Nat → Int
  | some n => (n : Int)
  | none => -1
/-- a number found, or -1 -/
def Vl (r : Option Nat) (w : World) (e : Ending) (w' : World) : Prop := e = .returned (.int .i64 (optI r)) ∧ w = w'
theorem ret_i64 {a b : Int} (h : a = b) : Ending.returned (.int .i64 a) = .returned (.int .i64 b) := by rw [h]
theorem val_cases (c : UInt8) (v : Int) (hv : v = (c.toNat : Int)) : (48 ≤ v ∧ v ≤ 57 ∧ optI (valU c) = v - 48) ∨ (97 ≤ v ∧ v ≤ 102 ∧ optI (valU c) = v - 87) ∨ (65 ≤ v ∧ v ≤ 70 ∧ optI (valU c) = v - 55) ∨ (¬ (48 ≤ v ∧ v ≤ 57) ∧ ¬ (97 ≤ v ∧ v ≤ 102) ∧ ¬ (65 ≤ v ∧ v ≤ 70) ∧ optI (valU c) = -1) := by
  unfold valU
  split
  · refine .inl ⟨by omega, by omega, ?_⟩
    show ((c.toNat - 48 : Nat) : Int) = _
    omega
  · split
    · refine .inr (.inl ⟨by omega, by omega, ?_⟩)
      show ((c.toNat - 87 : Nat) : Int) = _
      omega
    · split
      · refine .inr (.inr (.inl ⟨by omega, by omega, ?_⟩))
        show ((c.toNat - 55 : Nat) : Int) = _
        omega
      · exact .inr (.inr (.inr ⟨by omega, by omega, by omega, rfl⟩))
set_option maxHeartbeats 1000000 in
theorem valueR (c : UInt8) (v : Int) (hv : v = (c.toNat : Int)) (w : World) : Calls Tryd.prog 132 #[.int .u8 v] w (Vl (valU c) w) := by
  have hlt := c.toNat_lt
  have h0 : 0 ≤ v := by omega
  have h255 : v ≤ 255 := by omega
  have hcs := val_cases c v hv
  clear hlt hv
  have Hd := Lib.hid (digit v w h0 h255)
  unfold Yn at Hd
  unfold Vl
  generalize optI (valU c) = r at *
  rcases hcs with ⟨h1, h2, h3⟩ | ⟨h1, h2, h3⟩ | ⟨h1, h2, h3⟩ | ⟨h1, h2, h4, h3⟩
  · rw [digB_true ⟨h1, h2⟩] at Hd
    go_enter Tryd.func132, Tryd.ntmps132
    go_wp2_with fail
    refine Hd.out.mono ?_
    rintro e w2 ⟨rfl, rfl⟩
    go_wp2
    go_ret
    exact ⟨ret_i64 h3.symm, rfl⟩
  · rw [digB_false (by omega)] at Hd
    go_enter Tryd.func132, Tryd.ntmps132
    go_wp2_with fail
    refine Hd.out.mono ?_
    rintro e w2 ⟨rfl, rfl⟩
    go_wp2
    go_ret
    exact ⟨ret_i64 h3.symm, rfl⟩
  · rw [digB_false (by omega)] at Hd
    have f97 : decide (v ≥ 97) = false := decide_eq_false (by omega)
    go_enter Tryd.func132, Tryd.ntmps132
    go_wp2_with fail
    refine Hd.out.mono ?_
    rintro e w2 ⟨rfl, rfl⟩
    go_wp2
    go_ret
    exact ⟨ret_i64 h3.symm, rfl⟩
  · rw [digB_false h1] at Hd
    have hc2 : v < 65 ∨ (70 < v ∧ v < 97) ∨ 102 < v := by omega
    rcases hc2 with h | h | h
    all_goals first
      | (have f97 : decide (v ≥ 97) = false := decide_eq_false (by omega)
         have f65 : decide (v ≥ 65) = false := decide_eq_false (by omega))
      | (have f97 : decide (v ≥ 97) = false := decide_eq_false (by omega)
         have f65 : decide (v ≥ 65) = true := decide_eq_true (by omega)
         have f70 : decide (v ≤ 70) = false := decide_eq_false (by omega))
      | (have f97 : decide (v ≥ 97) = true := decide_eq_true (by omega)
         have f102 : decide (v ≤ 102) = false := decide_eq_false (by omega)
         have f65 : decide (v ≥ 65) = true := decide_eq_true (by omega)
         have f70 : decide (v ≤ 70) = false := decide_eq_false (by omega))
    all_goals
      go_enter Tryd.func132, Tryd.ntmps132
      go_wp2_with fail
      refine Hd.out.mono ?_
      rintro e w2 ⟨rfl, rfl⟩
      go_wp2
      all_goals first
        | (exfalso; omega)
        | (go_ret
           exact ⟨ret_i64 h3.symm, rfl⟩)
set_option maxRecDepth 100000 in
set_option maxHeartbeats 2000000 in
theorem codeR (s : ByteArray) (w : World) (hs : s.size = 4) : Calls Tryd.prog 122 #[.string s] w (Vl (codeFrom 0 s.data.toList) w) := by
  have hsi : (s.size : Int) = 4 := by omega
  have q0 : ((s.size : Int) == 4) = true := by rw [hsi]; rfl
  have Hs := Lib.hid hs
  go_enter Tryd.func122, Tryd.ntmps122
  go_wp2
  go_loopg [3, 4] 4 (fun j n i wr => ∃ m u : Nat, m + j = 4 ∧ i = .int .i64 m ∧ n = .int .i64 u ∧ u < 16 ^ m ∧ codeFrom 0 s.data.toList = codeFrom u (s.data.toList.drop m) ∧ wr = w)
  case atStart => exact ⟨0, 0, by omega, rfl, rfl, by simp, rfl, rfl⟩
  case round =>
    obtain ⟨x, u, hmj, rfl, rfl, hu, hc, rfl⟩ := hrel
    have Hmj := Lib.hid hmj; have hmn : x ≤ 4 := by omega
    clear hmj
    have Hc := Lib.hid hc
    clear hc
    by_cases hlt : x < 4
    · have hx : x < s.size := by have := Hs.out; omega
      have hxi : (x : Int) < (s.size : Int) := by omega
      have hu2 : u < 65536 := Nat.lt_of_lt_of_le hu (Nat.pow_le_pow_right (by omega) (by omega : x ≤ 4))
      have Hu := Lib.hid hu
      clear hu
      have hb := bV_at hx
      rw [bV_bC] at hb
      have Hdr := Lib.hid (drop_at hx)
      have HV := Lib.hid (valueR (bC s x) ((bC s x).toNat : Int) rfl wr)
      unfold Vl at HV
      generalize bC s x = c at *
      cases hval : valU c with
      | some d =>
        have hd := val_lt hval
        rw [hval] at HV
        have Hok := Lib.hid (show codeFrom 0 s.data.toList = codeFrom (16 * u + d) (s.data.toList.drop (x + 1)) by rw [Hc.out, Hdr.out, code_some hval])
        clear hval
        unfold optI at HV
        go_wp2_with fail
        refine HV.out.mono ?_
        rintro e w2 ⟨rfl, rfl⟩
        go_wp2_with fail
        refine HV.out.mono ?_
        rintro e w2 ⟨rfl, rfl⟩
        go_wp2
        go_roundg (gk - 1)
        case measure => have := Hmj.out; omega
        case rel => exact ⟨x + 1, 16 * u + d, by have := Hmj.out; omega, by go_num, by go_num, by have := Hu.out; rw [Nat.pow_succ]; omega, Hok.out, rfl⟩
      | none =>
        rw [hval] at HV
        have Hno := Lib.hid (show codeFrom 0 s.data.toList = none by rw [Hc.out, Hdr.out, code_none hval])
        clear hval
        unfold optI at HV
        go_wp2_with fail
        refine HV.out.mono ?_
        rintro e w2 ⟨rfl, rfl⟩
        go_wp2
        go_ret
        exact ⟨by rw [Hno.out]; rfl, rfl⟩
    · obtain rfl : x = 4 := by omega
      have Hfin := Lib.hid (show codeFrom 0 s.data.toList = some u by
        rw [Hc.out, List.drop_of_length_le (by have := Hs.out; simp; omega)]; rfl)
      clear hu
      go_wp2
      go_ret
      exact ⟨by rw [Hfin.out]; rfl, rfl⟩
end Go.Proofs.YtjhjleanihgopaaDoor
namespace Go.Proofs.YtjhjleanihgopaaDoor
open Go.RowKit
attribute [local irreducible] wpList Calls Code.wp
set_option maxRecDepth 100000 in
set_option maxHeartbeats 8000000 in
theorem unquoteR (s : ByteArray) (w : World) (hs : s.size ≤ 100000) : Calls Tryd.prog 97 #[.string s] w (Uq (unquoteU s.data.toList) w) := by
  by_cases hlen : s.size < 2
  · have Hno := Lib.hid (unq_not (s := s) (fun h => by omega))
    have q0 : decide ((s.size : Int) < 2) = true := decide_eq_true (by omega)
    go_enter Tryd.func97, Tryd.ntmps97
    go_wp2
    go_ret2
    exact ⟨by rw [Hno.out]; rfl, Below.refl _ _⟩
  have q0 : decide ((s.size : Int) < 2) = false := decide_eq_false (by omega)
  have i0 : (0 : Int) < (s.size : Int) := by omega
  have hb0 := bV_at (show 0 < s.size by omega)
  have hr0 := bV_range s 0
  by_cases h0 : bV s 0 = 34
  case neg =>
    have Hno := Lib.hid (unq_not (s := s) (fun h => h0 h.2.1))
    have q1 : (bV s 0 == 34) = false := beq_false_of_ne h0
    generalize bV s 0 = v0 at *
    go_enter Tryd.func97, Tryd.ntmps97
    go_wp2
    go_ret2
    exact ⟨by rw [Hno.out]; rfl, Below.refl _ _⟩
  have hbz := bV_at (show s.size - 1 < s.size by omega)
  have hrz := bV_range s (s.size - 1)
  by_cases hz : bV s (s.size - 1) = 34
  case neg =>
    have Hno := Lib.hid (unq_not (s := s) (fun h => hz h.2.2))
    have q1 : (bV s (s.size - 1) == 34) = false := beq_false_of_ne hz
    rw [h0] at hb0
    generalize bV s (s.size - 1) = v1 at *
    go_enter Tryd.func97, Tryd.ntmps97
    go_wp2
    go_ret2
    exact ⟨by rw [Hno.out]; rfl, Below.refl _ _⟩
  have Hu := Lib.hid (unq_of (by omega) h0 hz)
  rw [h0] at hb0
  rw [hz] at hbz
  clear h0 hz hr0 hrz
  have hdz : (s.extract 1 (s.size - 1)).size ≤ 100000 := by rw [mid_bs, bs_size]; simp; omega
  obtain ⟨d, hd⟩ : ∃ d, s.extract 1 (s.size - 1) = d := ⟨_, rfl⟩
  rw [hd] at Hu hdz
  go_enter Tryd.func97, Tryd.ntmps97
  go_wp2
  clear hb0 hbz i0 q0
  go_loopg [5, 6] d.size (fun j o i wr => ∃ (m : Nat) (acc : List UInt8), m + j = d.size ∧ i = .int .i64 m ∧ o = .string (bs acc) ∧ acc.length ≤ m ∧ unqU d.data.toList = (unqU (d.data.toList.drop m)).map (acc ++ ·) ∧ Below w.heap.size w wr)
  case atStart => exact ⟨0, [], by omega, rfl, rfl, by simp, by simp, Below.refl _ _⟩
  case round =>
    obtain ⟨x, acc, hmj, rfl, rfl, hac, hun, hb⟩ := hrel
    have Hmj := Lib.hid hmj; have hmn : x ≤ d.size := by omega
    have Hun := Lib.hid hun
    have Hb := Lib.hid hb
    clear hmj hun hb
    have hasz : (bs acc).size ≤ 100000 := by rw [bs_size]; omega
    have Hac := Lib.hid hac
    clear hac
    by_cases hlt : x < d.size
    · have hxi : (x : Int) < (d.size : Int) := by omega
      have hb := bV_at hlt
      rw [bV_bC] at hb
      have HL := Lib.hid (drop_at hlt)
      have hc256 := (bC d x).toNat_lt
      generalize bC d x = c at *
      obtain ⟨v, hv⟩ : ∃ v : Int, (c.toNat : Int) = v := ⟨_, rfl⟩
      rw [hv] at hb
      by_cases hbad : c.toNat < 32 ∨ 126 < c.toNat ∨ c = 34
      · have Hno := Lib.hid (Hu.out.trans (unq_none Hun.out (by rw [HL.out]; exact unqU_bad hbad)))
        have hbv : v < 32 ∨ 126 < v ∨ v = 34 := by
          rcases hbad with h | h | h
          · exact .inl (by omega)
          · exact .inr (.inl (by omega))
          · exact .inr (.inr (by rw [← hv, h]; rfl))
        clear hbad hv
        generalize bs acc = a at *
        rcases hbv with h | h | h
        · go_wp2
          go_ret2
          exact ⟨by rw [Hno.out]; rfl, Hb.out⟩
        · go_wp2
          all_goals first
            | (exfalso; omega)
            | (go_ret2
               exact ⟨by rw [Hno.out]; rfl, Hb.out⟩)
        · subst h
          go_wp2
          go_ret2
          exact ⟨by rw [Hno.out]; rfl, Hb.out⟩
      have hc34 : v ≠ 34 := by
        rw [← hv]
        exact u8_ne (n := 34) (by omega) (fun e => hbad (.inr (.inr e)))
      have f1 : decide (v < 32) = false := decide_eq_false (by omega)
      have f1' : ¬ v < 32 := by omega
      have f2 : decide (v > 126) = false := decide_eq_false (by omega)
      have f3 : (v == 34) = false := beq_false_of_ne hc34
      by_cases h92 : c = 92
      case neg =>
        have q92 : (v == 92) = false := beq_false_of_ne (by rw [← hv]; exact u8_ne (n := 92) (by omega) h92)
        have Hst := Lib.hid (unq_step (m' := x + 1) Hun.out (by rw [HL.out]; exact unqU_plain hbad h92))
        have hcv := conv_new wr #[.int .u8 v] [c] 1 rfl (by rw [← hv]; rfl)
        have Hnx := Lib.hid (show bs acc ++ bs [c] = bs (acc ++ [c]) from bs_append _ _)
        have hk1 : (bs [c]).size ≤ 1 := by rw [bs_size]; simp
        have Hv := Lib.hid hv
        clear hbad hv h92
        generalize bs acc = a at *
        generalize bs [c] = k at *
        go_wp2
        go_roundg (gk - 1)
        case measure => have := Hmj.out; omega
        case rel => exact ⟨x + 1, acc ++ [c], by have := Hmj.out; omega, by go_num, by rw [Hnx.out], by have := Hac.out; simp; omega, Hst.out, Hb.out.alloc Hb.out.size _⟩
      subst h92
      obtain rfl : v = 92 := by rw [← hv]; rfl
      clear hbad hv hc34 f1 f1' f2 f3 hc256
      by_cases hlt1 : x + 1 < d.size
      case neg =>
        have Hno := Lib.hid (Hu.out.trans (unq_none Hun.out (by rw [HL.out, List.drop_of_length_le (by simp; omega)]; exact unqU_last)))
        have q1 : decide ((x : Int) + 1 ≥ (d.size : Int)) = true := decide_eq_true (by omega)
        generalize bs acc = a at *
        go_wp2
        go_ret2
        exact ⟨by rw [Hno.out]; rfl, Hb.out⟩
      have q1 : decide ((x : Int) + 1 ≥ (d.size : Int)) = false := decide_eq_false (by omega)
      have hxi1 : (x : Int) + 1 < (d.size : Int) := by omega
      have hb1 := bV_at hlt1
      rw [bV_bC] at hb1
      have HL1 := Lib.hid (HL.out.trans (by rw [drop_at hlt1]))
      clear HL
      have HS := Lib.hid (simpleR (bC d (x + 1)) _ rfl wr)
      unfold Sm at HS
      generalize bC d (x + 1) = e at *
      cases hsim : simU e with
      | some y =>
        rw [hsim] at HS
        unfold simV at HS
        have Hst := Lib.hid (unq_step (m' := x + 2) Hun.out (by rw [HL1.out]; exact unqU_sim hsim))
        have hcv := conv_new wr #[.int .u8 (y.toNat : Int)] [y] 1 rfl rfl
        have Hnx := Lib.hid (show bs acc ++ bs [y] = bs (acc ++ [y]) from bs_append _ _)
        have hk1 : (bs [y]).size ≤ 1 := by rw [bs_size]; simp
        clear hsim
        generalize bs acc = a at *
        generalize bs [y] = k at *
        generalize (e.toNat : Int) = ev at *
        go_wp2_with fail
        refine HS.out.mono ?_
        rintro e2 w2 ⟨rfl, rfl⟩
        go_wp2
        go_roundg (gk - 2)
        case measure => have := Hmj.out; omega
        case rel => exact ⟨x + 2, acc ++ [y], by have := Hmj.out; omega, by go_num, by rw [Hnx.out], by have := Hac.out; simp; omega, Hst.out, Hb.out.alloc Hb.out.size _⟩
      | none =>
        rw [hsim] at HS
        unfold simV at HS
        have hrl : (d.data.toList.drop (x + 1 + 1)).length = d.size - (x + 2) := by simp
        by_cases h117 : e = 117
        case neg =>
          have q117 : ((e.toNat : Int) == 117) = false := beq_false_of_ne (u8_ne (n := 117) (by omega) h117)
          have Hno := Lib.hid (Hu.out.trans (unq_none Hun.out (by rw [HL1.out]; exact unqU_no hsim (.inl h117))))
          clear hsim h117
          generalize bs acc = a at *
          have n117 : ¬ (e.toNat : Int) = 117 := by simpa using q117
          generalize (e.toNat : Int) = ev at *
          go_wp2_with fail
          refine HS.out.mono ?_
          rintro e2 w2 ⟨rfl, rfl⟩
          go_wp2
          all_goals first
            | (exfalso; omega)
            | (go_ret2
               exact ⟨by rw [Hno.out]; rfl, Hb.out⟩)
        have he : (e.toNat : Int) = 117 := by rw [h117]; rfl
        rw [he] at hb1 HS
        by_cases hfit : x + 6 ≤ d.size
        case neg =>
          have q6 : decide ((x : Int) + 6 > (d.size : Int)) = true := decide_eq_true (by omega)
          have Hno := Lib.hid (Hu.out.trans (unq_none Hun.out (by rw [HL1.out]; exact unqU_no hsim (.inr (by rw [hrl]; omega)))))
          clear hsim h117 he
          generalize bs acc = a at *
          go_wp2_with fail
          refine HS.out.mono ?_
          rintro e2 w2 ⟨rfl, rfl⟩
          go_wp2
          go_ret2
          exact ⟨by rw [Hno.out]; rfl, Hb.out⟩
        have q6 : decide ((x : Int) + 6 > (d.size : Int)) = false := decide_eq_false (by omega)
        have HL2 : d.data.toList.drop x = 92 :: 117 :: d.data.toList.drop (x + 1 + 1) := by rw [HL1.out, h117]
        have Hcode := Lib.hid ((congrArg unqU HL2).trans (unqU_code (by rw [hrl]; omega)))
        clear HL2
        have hksz : (d.extract (x + 2) (x + 6)).size = 4 := by rw [ByteArray.size_extract]; omega
        have Hcl := Lib.hid (cut_list d x)
        obtain ⟨k, hk⟩ : ∃ k, d.extract (x + 2) (x + 6) = k := ⟨_, rfl⟩
        rw [hk] at hksz Hcl
        have HC := Lib.hid (codeR k wr hksz)
        rw [Hcl.out] at HC
        unfold Vl at HC
        have Hd4 := Lib.hid (show (d.data.toList.drop (x + 1 + 1)).drop 4 = d.data.toList.drop (x + 6) by rw [List.drop_drop])
        clear hsim h117 he Hcl hksz
        cases hcf : codeFrom 0 ((d.data.toList.drop (x + 2)).take 4) with
        | none =>
          rw [hcf] at HC
          unfold optI at HC
          have Hno := Lib.hid (Hu.out.trans (unq_none Hun.out (by rw [Hcode.out]; rw [show (d.data.toList.drop (x + 1 + 1)).take 4 = (d.data.toList.drop (x + 2)).take 4 from rfl, hcf])))
          clear hcf
          generalize bs acc = a at *
          go_wp2_with fail
          refine HS.out.mono ?_
          rintro e2 w2 ⟨rfl, rfl⟩
          go_wp2_with fail
          refine HC.out.mono ?_
          rintro e2 w2 ⟨rfl, rfl⟩
          go_wp2
          go_ret2
          exact ⟨by rw [Hno.out]; rfl, Hb.out⟩
        | some n =>
          rw [hcf] at HC
          unfold optI at HC
          have Hcode2 := Lib.hid (Hcode.out.trans (by rw [show (d.data.toList.drop (x + 1 + 1)).take 4 = (d.data.toList.drop (x + 2)).take 4 from rfl, hcf]))
          clear hcf Hcode
          have n0 : decide ((n : Int) < 0) = false := decide_eq_false (by omega)
          have n0' : ¬ (n : Int) < 0 := by omega
          by_cases hn : n ≤ 255
          case neg =>
            have n255 : decide ((n : Int) > 255) = true := decide_eq_true (by omega)
            have Hno := Lib.hid (Hu.out.trans (unq_none Hun.out (Hcode2.out.trans (if_neg hn))))
            generalize bs acc = a at *
            go_wp2_with fail
            refine HS.out.mono ?_
            rintro e2 w2 ⟨rfl, rfl⟩
            go_wp2_with fail
            refine HC.out.mono ?_
            rintro e2 w2 ⟨rfl, rfl⟩
            go_wp2
            go_ret2
            exact ⟨by rw [Hno.out]; rfl, Hb.out⟩
          have n255 : decide ((n : Int) > 255) = false := decide_eq_false (by omega)
          have Hst := Lib.hid (unq_step (m' := x + 6) Hun.out (by rw [← Hd4.out]; exact Hcode2.out.trans (if_pos hn)))
          have hon : (UInt8.ofNat n).toNat = n := by simp; omega
          have hcv := conv_new wr #[.int .u8 (n : Int)] [UInt8.ofNat n] 1 rfl (by simp only [Lib.byteCells, List.map_cons, List.map_nil]; rw [hon])
          have Hnx := Lib.hid (show bs acc ++ bs [UInt8.ofNat n] = bs (acc ++ [UInt8.ofNat n]) from bs_append _ _)
          have hk1 : (bs [UInt8.ofNat n]).size ≤ 1 := by rw [bs_size]; simp
          generalize bs acc = a at *
          generalize bs [UInt8.ofNat n] = kk at *
          go_wp2_with fail
          refine HS.out.mono ?_
          rintro e2 w2 ⟨rfl, rfl⟩
          go_wp2_with fail
          refine HC.out.mono ?_
          rintro e2 w2 ⟨rfl, rfl⟩
          go_wp2
          go_roundg (gk - 6)
          case measure => have := Hmj.out; omega
          case rel => exact ⟨x + 6, acc ++ [UInt8.ofNat n], by have := Hmj.out; omega, by go_num, by rw [Hnx.out], by have := Hac.out; simp; omega, Hst.out, Hb.out.alloc Hb.out.size _⟩
    · obtain rfl : x = d.size := by omega
      have Hfin := Lib.hid (Hu.out.trans (unq_end Hun.out (by simp)))
      have Ha := Lib.hid (show uqV (some acc) = .tuple #[.string (bs acc), .int .i64 0] from rfl)
      generalize bs acc = a at *
      go_wp2
      go_ret2
      exact ⟨by rw [Hfin.out, Ha.out]; rfl, Hb.out⟩
end Go.Proofs.YtjhjleanihgopaaDoor
namespace Go.Proofs.YtjhjleanihgopaaDoor
variable {S : List UInt8} {x : JS} {r : List UInt8} {m k : Nat} {c : Int}
theorem wordS_bd {w : List UInt8} : ∀ {x : JS}, bdS S x k c → wordS S w x = x := by
  induction w with
  | nil => intro x _; rfl
  | cons b w ih => intro x h; show wordS S w (takeS S [b] x).2 = x; rw [h.take]; exact ih h
end Go.Proofs.YtjhjleanihgopaaDoor
namespace Go.Proofs.YtjhjleanihgopaaDoor
section
variable (S : List UInt8)
def numbR (x : JS) : Int × JS :=
  let x1 := if atS S x = 45 then goS x else x
  if digU (atS S x1) = false ∨ atS S x1 = 48 ∧ x.p < x1.p then (0, failS x1 x1.p 3) else
  let y := if atS S x1 = 48 then goS x1 else digsS S (goS x1)
  let v := numE (numU (midS S x.p y.p))
  (v.1, if v.2 ≠ 0 then failS y x.p 4 else y)
def itemsR (f : JS → D × JS) : Nat → JS → List D → D × JS
  | 0, x, _ => (vD 0 0 [] [] [], x)
  | j + 1, x, l =>
    if x.e ≠ 0 then (vD 0 0 [] [] [], x) else
    let y := f x
    let x2 := spaceS S y.2
    if x2.e = 0 ∧ atS S x2 = 93 then (vD 5 0 [] (l ++ [y.1]) [], goS x2) else itemsR f j (wordS S [44] x2) (l ++ [y.1])
def fieldsR (f : JS → D × JS) : Nat → JS → List (List UInt8) → List D → D × JS
  | 0, x, _, _ => (vD 0 0 [] [] [], x)
  | j + 1, x, ks, l =>
    if x.e ≠ 0 then (vD 0 0 [] [] [], x) else
    let y := strS S (spaceS S x)
    let x3 := wordS S [58] (spaceS S (twiceS ks y.1 (spaceS S x).p y.2))
    if x3.e ≠ 0 then (vD 0 0 [] [] [], x3) else
    let z := f x3
    let x4 := spaceS S z.2
    if x4.e = 0 ∧ atS S x4 = 125 then (vD 6 0 [] (l ++ [z.1]) (keysD (ks ++ [y.1])), goS x4) else fieldsR f j (wordS S [44] x4) (ks ++ [y.1]) (l ++ [z.1])
def listR (f : JS → D × JS) (x : JS) : D × JS :=
  let y := spaceS S (goS x)
  if atS S y = 93 then (vD 5 0 [] [] [], goS y) else itemsR S f (S.length + 2) y []
def objR (f : JS → D × JS) (x : JS) : D × JS :=
  let y := spaceS S (goS x)
  if atS S y = 125 then (vD 6 0 [] [] [], goS y) else fieldsR S f (S.length + 2) y [] []
def stepR (f : JS → D × JS) (deep : Bool) (x : JS) : D × JS :=
  let x0 := spaceS S x
  if beginsJ (atS S x0) = false then (vD 0 0 [] [] [], failS x0 x0.p 3)
  else if deep = true then (vD 0 0 [] [] [], failS x0 x0.p 5)
  else
  let y : JS := ⟨x0.p, x0.m + 1, x0.bad, x0.e⟩
  if 4096 < y.m then (vD 0 0 [] [] [], failS y y.p 4)
  else if atS S y = 34 then (vD 3 0 (strS S y).1 [] [], (strS S y).2)
  else if atS S y = 91 then listR S f y
  else if atS S y = 123 then objR S f y
  else if atS S y = 110 then (vD 0 0 [] [] [], wordS S [110, 117, 108, 108] y)
  else if atS S y = 116 then (vD 1 1 [] [] [], wordS S [116, 114, 117, 101] y)
  else if atS S y = 102 then (vD 1 0 [] [] [], wordS S [102, 97, 108, 115, 101] y)
  else (vD 2 (numbR S y).1 [] [] [], (numbR S y).2)
def valueRf : Nat → JS → D × JS
  | 0 => stepR S (fun x => (vD 0 0 [] [] [], x)) true
  | k + 1 => stepR S (valueRf k) false
def parseRf : D × Int × Int :=
  let y := valueRf S 24 ⟨0, 0, 0, 0⟩
  let x1 := spaceS S y.2
  let x2 := if x1.p < S.length then failS x1 x1.p 3 else x1
  if x2.e ≠ 0 then (vD 0 0 [] [] [], x2.bad, x2.e) else (y.1, 0, 0)
end
variable {S : List UInt8} {x : JS} {r : List UInt8} {m k : Nat} {c : Int}
theorem numR_tail {x1 : JS} {r1 : List UInt8} (h : okS S x r m) (h1 : okS S x1 r1 m) (hs : r1 <:+ r) (hp : x.p < x1.p ↔ r.head? = some 45)
    (hns : ∀ c r2 q, r1 = c :: r2 → (digU c && !(c == 48 && r.head? == some 45)) = true → q = (if c = 48 then r2 else r2.dropWhile digU) → numU (readJ r q) ≠ Lib.NumEnd.syntax) :
    let z : Int × JS := if digU (atS S x1) = false ∨ atS S x1 = 48 ∧ x.p < x1.p then (0, failS x1 x1.p 3) else
      let y := if atS S x1 = 48 then goS x1 else digsS S (goS x1)
      let v := numE (numU (midS S x.p y.p))
      (v.1, if v.2 ≠ 0 then failS y x.p 4 else y)
    match ((takeJ (fun c => digU c && !(c == 48 && r.head? == some 45)) r1).bind fun r2 =>
      let q := if r1.head? = some 48 then r2 else r2.dropWhile digU
      match numOk (numU (readJ r q)) with
      | some n => Except.ok (n, q)
      | none => .error (r.length, (4 : Int))) with
    | .ok y => z.1 = y.1 ∧ okS S z.2 y.2 m
    | .error ke => bdS S z.2 ke.1 ke.2 := by
  dsimp only
  cases r1 with
  | nil =>
    rw [h1.atNil.2, if_pos (.inl rfl)]
    exact h1.fail (by decide)
  | cons c r2 =>
    rw [h1.atCons.2]
    by_cases hc : (digU c && !(c == 48 && r.head? == some 45)) = true
    · rw [takeJ, if_pos hc]
      have hc2 := hc
      simp only [Bool.and_eq_true, Bool.not_eq_true', Bool.and_eq_false_iff] at hc2
      rw [if_neg (fun hh => hh.elim (fun e => by rw [e] at hc2; cases hc2.1) fun e => by
        rw [hp] at e
        rcases hc2.2 with h9 | h9
        · simp [e.1] at h9
        · simp [e.2] at h9)]
      have hq : okS S (if c = 48 then goS x1 else digsS S (goS x1)) (if c = 48 then r2 else r2.dropWhile digU) m := by
        by_cases hc : c = 48
        · rw [if_pos hc, if_pos hc]; exact h1.go
        · rw [if_neg hc, if_neg hc]; exact digs_spec h1.go
      have hqq : (if (c :: r2).head? = some 48 then r2 else r2.dropWhile digU) = (if c = 48 then r2 else r2.dropWhile digU) := by
        by_cases hc : c = 48
        · subst hc; rfl
        · rw [if_neg hc, if_neg (by simpa using hc)]
      have hns2 := hns c r2 _ rfl hc rfl
      have hsu : (if c = 48 then r2 else r2.dropWhile digU) <:+ r := by
        refine List.IsSuffix.trans ?_ hs
        split
        · exact List.suffix_cons _ _
        · exact (List.dropWhile_suffix _).trans (List.suffix_cons _ _)
      have hmid : midS S x.p (if c = 48 then goS x1 else digsS S (goS x1)).p = readJ r (if c = 48 then r2 else r2.dropWhile digU) := by
        rw [hq.pos]; exact mid_read h hsu
      show match (let q := if (c :: r2).head? = some 48 then r2 else r2.dropWhile digU
        match numOk (numU (readJ r q)) with
        | some n => Except.ok (n, q)
        | none => .error (r.length, (4 : Int))) with
      | .ok y => _
      | .error ke => _
      rw [hqq, hmid]
      clear hmid hqq
      generalize (if c = 48 then r2 else r2.dropWhile digU) = q at hq hns2 hsu
      generalize (if c = 48 then goS x1 else digsS S (goS x1)) = y at hq
      dsimp only
      cases hn : numU (readJ r q) with
      | ok n => exact ⟨rfl, hq⟩
      | range =>
        show bdS S (failS y x.p 4) r.length 4
        rw [h.pos]
        have := h.len
        exact okS.failAt hq (by omega) (by decide)
      | _ => exact (hns2 hn).elim
    · have hc3 : digU c = false ∨ c = 48 ∧ x.p < x1.p := by
        rw [hp]
        by_cases hd : digU c = true
        · right
          simp [hd] at hc
          exact hc
        · left; simpa using hd
      rw [if_pos hc3, takeJ, if_neg hc]
      have := h1.fail (c := 3) (by decide)
      show bdS S (failS x1 x1.p 3) (r2.length + 1) 3
      simpa using this
theorem numbR_spec (h : okS S x r m) : match numJ r with
    | .ok y => (numbR S x).1 = y.1 ∧ okS S (numbR S x).2 y.2 m
    | .error ke => bdS S (numbR S x).2 ke.1 ke.2 := by
  by_cases hn : r.head? = some 45
  · obtain ⟨r1, rfl⟩ : ∃ r1, r = 45 :: r1 := by
      cases r with
      | nil => cases hn
      | cons a r1 => simp at hn; exact ⟨r1, by rw [hn]⟩
    have ha := h.atCons.2
    have := numR_tail h h.go (List.suffix_cons _ _) ⟨fun _ => hn, fun _ => Nat.lt_succ_self _⟩ (fun c r2 q e hc hq => by
      subst e
      have hc2 : digU c = true ∧ c ≠ 48 := by simpa using hc
      rw [if_neg hc2.2] at hq
      subst hq
      have e1 : readJ (45 :: c :: r2) (r2.dropWhile digU) = 45 :: c :: r2.takeWhile digU := by
        have := (List.dropWhile_suffix (p := digU) (l := r2)).length_le
        rw [readJ_cons (by simp; omega), readJ_cons this, readJ_dw]
      rw [e1]
      exact num_ns (c := c) (ds := r2.takeWhile digU) rfl hc2.1 (tw_dig _) fun e => (hc2.2 e).elim)
    unfold numbR numJ
    rw [ha, if_pos rfl, if_pos hn]
    exact this
  · have ha : ¬ atS S x = 45 := by
      cases r with
      | nil => rw [h.atNil.2]; decide
      | cons a r => rw [h.atCons.2]; simpa using hn
    have := numR_tail h h (List.suffix_refl _) ⟨fun e => absurd e (Nat.lt_irrefl _), fun e => absurd e hn⟩ (fun c r2 q e hc hq => by
      subst e
      have hc2 : digU c = true := by simp at hc; exact hc.1
      have h45 : c ≠ 45 := by simpa using hn
      by_cases h48 : c = 48
      · rw [if_pos h48] at hq
        subst hq
        rw [readJ_cons (Nat.le_refl _), readJ_self]
        exact num_ns (c := c) (ds := []) (mag_pos (by simpa using h45)) hc2 rfl fun _ => Nat.le_refl _
      · rw [if_neg h48] at hq
        subst hq
        rw [readJ_cons (List.dropWhile_suffix _).length_le, readJ_dw]
        exact num_ns (c := c) (ds := r2.takeWhile digU) (mag_pos (by simpa using h45)) hc2 (tw_dig _) fun e => (h48 e).elim)
    unfold numbR numJ
    rw [if_neg ha, if_neg hn]
    exact this
variable {fJ : Nat → List UInt8 → Except JE (D × Nat × List UInt8)} {f : JS → D × JS}
theorem itemsR_bd {j : Nat} {l : List D} (h : bdS S x k c) : (itemsR S f j x l).2 = x := by
  cases j with
  | zero => rfl
  | succ j => unfold itemsR; rw [if_pos h.ne]
theorem fieldsR_bd {j : Nat} {ks : List (List UInt8)} {l : List D} (h : bdS S x k c) : (fieldsR S f j x ks l).2 = x := by
  cases j with
  | zero => rfl
  | succ j => unfold fieldsR; rw [if_pos h.ne]
theorem itemsR_spec (hf : ValSpec S fJ f) (hp : PartJ fJ) : ∀ {j j' : Nat} {x : JS} {r : List UInt8} {m : Nat} {l : List D}, okS S x r m → m ≤ 4096 → r.length < j → j ≤ j' → match itemsJ fJ j m r l with
    | .ok y => (itemsR S f j' x l).1 = vD 5 0 [] y.1 [] ∧ okS S (itemsR S f j' x l).2 y.2.2 y.2.1
    | .error ke => bdS S (itemsR S f j' x l).2 ke.1 ke.2
  | 0, _, _, _, _, _, _, _, h, _ => by omega
  | _ + 1, 0, _, _, _, _, _, _, _, h => by omega
  | j + 1, j' + 1, x, r, m, l, h, hm, hr, hj => by
    have h1 := hf x r m h hm
    unfold itemsJ itemsR
    rw [if_neg h.nne]
    cases hx : fJ m r with
    | error ke =>
      rw [hx] at h1
      have h2 := h1.space
      show bdS S _ ke.1 ke.2
      dsimp only
      rw [if_neg (fun hh => h2.ne hh.1), wordS_bd h2, itemsR_bd h2]
      exact h2
    | ok y =>
      rw [hx] at h1
      obtain ⟨p1, p2, p3, p4⟩ := hp _ _ _ hx
      have h2 := h1.2.space
      show match (match spc y.2.2 with
        | [] => Except.error (0, (3 : Int))
        | c :: q => if c = 44 then itemsJ fJ j y.2.1 q (l ++ [y.1]) else if c = 93 then Except.ok (l ++ [y.1], y.2.1, q) else Except.error (q.length + 1, 3)) with
        | .ok y => _
        | .error ke => _
      have hsp := (spc_suffix y.2.2).length_le
      have e44 : wordS S [44] (spaceS S (f x).2) = (takeS S [44] (spaceS S (f x).2)).2 := rfl
      dsimp only
      rw [h1.1, e44]
      cases hs : spc y.2.2 with
      | nil =>
        rw [hs] at h2
        have h3 := h2.fail (c := 3) (by decide)
        rw [if_neg (fun hh => by rw [h2.atNil.2] at hh; exact absurd hh.2 (by decide)), take_nil h2, itemsR_bd h3]
        exact h3
      | cons c q =>
        rw [hs] at h2 hsp
        simp only [List.length_cons] at hsp
        dsimp only
        rw [h2.atCons.2]
        by_cases h44 : c = 44
        · subst h44
          rw [if_pos rfl, if_neg (fun hh => absurd hh.2 (by decide)), take_yes h2 (by decide)]
          exact itemsR_spec hf hp h2.go p4 (by omega) (by omega)
        · rw [if_neg h44]
          by_cases h93 : c = 93
          · subst h93
            rw [if_pos rfl, if_pos ⟨h2.1, rfl⟩]
            exact ⟨rfl, h2.go⟩
          · have h3 := h2.fail (c := 3) (by decide)
            rw [if_neg h93, if_neg (fun hh => h93 hh.2), take_no h2 (by rw [has_one]; simp [h44]), itemsR_bd h3]
            simpa using h3
theorem fieldsR_spec (hf : ValSpec S fJ f) (hp : PartJ fJ) : ∀ {j j' : Nat} {x : JS} {r : List UInt8} {m : Nat} {ks : List (List UInt8)} {l : List D}, okS S x r m → m ≤ 4096 → r.length < j → j ≤ j' → match fieldsJ fJ j m r ks l with
    | .ok y => (fieldsR S f j' x ks l).1 = vD 6 0 [] y.2.1 (keysD y.1) ∧ okS S (fieldsR S f j' x ks l).2 y.2.2.2 y.2.2.1
    | .error ke => bdS S (fieldsR S f j' x ks l).2 ke.1 ke.2
  | 0, _, _, _, _, _, _, _, _, h, _ => by omega
  | _ + 1, 0, _, _, _, _, _, _, _, _, h => by omega
  | j + 1, j' + 1, x, r, m, ks, l, h, hm, hr, hj => by
    have h0 := h.space
    have s0 := spc_suffix r
    have s1 := s0.length_le
    have h1 := str_spec h0
    unfold fieldsJ fieldsR
    rw [if_neg h.nne]
    have bad : ∀ (y : JS) (k : Nat) (c : Int), bdS S y k c → wordS S [58] (spaceS S y) = spaceS S y ∧ bdS S (spaceS S y) k c := fun y k c hy => ⟨wordS_bd hy.space, hy.space⟩
    cases hx : strJ (spc r) with
    | error ke =>
      rw [hx] at h1
      show bdS S _ ke.1 ke.2
      dsimp only
      rw [twiceS_bd h1, (bad _ _ _ h1).1, if_pos (bad _ _ _ h1).2.ne]
      exact (bad _ _ _ h1).2
    | ok u =>
      rw [hx] at h1
      have u1 := strJ_suffix hx
      show match (if u.1 ∈ ks then Except.error ((spc r).length, (7 : Int)) else
        (takeJ (· == 58) (spc u.2)).bind fun r2 => (fJ m r2).bind fun x =>
        match spc x.2.2 with
        | [] => .error (0, 3)
        | c :: q => if c = 44 then fieldsJ fJ j x.2.1 q (ks ++ [u.1]) (l ++ [x.1]) else if c = 125 then .ok (ks ++ [u.1], l ++ [x.1], x.2.1, q) else .error (q.length + 1, 3)) with
        | .ok y => _
        | .error ke => _
      dsimp only
      rw [h1.1]
      by_cases hk : u.1 ∈ ks
      · rw [if_pos hk]
        have hl0 := h0.len
        have g : bdS S (twiceS ks u.1 (spaceS S x).p (strS S (spaceS S x)).2) (spc r).length 7 := by
          unfold twiceS
          rw [if_pos ⟨h1.2.1, hk⟩, h0.pos]
          exact okS.failAt h1.2 (by omega) (by decide)
        rw [(bad _ _ _ g).1, if_pos (bad _ _ _ g).2.ne]
        exact (bad _ _ _ g).2
      · have e0 : twiceS ks u.1 (spaceS S x).p (strS S (spaceS S x)).2 = (strS S (spaceS S x)).2 := by
          unfold twiceS; rw [if_neg fun hh => hk hh.2]
        have e58 : wordS S [58] (spaceS S (strS S (spaceS S x)).2) = (takeS S [58] (spaceS S (strS S (spaceS S x)).2)).2 := rfl
        rw [if_neg hk, e0, e58]
        have h2 := h1.2.space
        have s2 := spc_suffix u.2
        have s3 := s2.length_le
        have h3 := take_spec (has_one 58) h2
        cases hy : takeJ (· == 58) (spc u.2) with
        | error ke =>
          rw [hy] at h3
          show bdS S _ ke.1 ke.2
          rw [if_pos h3.2.ne]
          exact h3.2
        | ok r2 =>
          rw [hy] at h3
          have s4 := (takeJ_suffix hy).2
          have h4 := hf _ _ _ h3.2 hm
          rw [if_neg h3.2.nne]
          show match ((fJ m r2).bind fun x =>
            match spc x.2.2 with
            | [] => Except.error (0, (3 : Int))
            | c :: q => if c = 44 then fieldsJ fJ j x.2.1 q (ks ++ [u.1]) (l ++ [x.1]) else if c = 125 then .ok (ks ++ [u.1], l ++ [x.1], x.2.1, q) else .error (q.length + 1, 3)) with
            | .ok y => _
            | .error ke => _
          cases hz : fJ m r2 with
          | error ke =>
            rw [hz] at h4
            show bdS S _ ke.1 ke.2
            have g2 := h4.space
            rw [if_neg (fun hh => g2.ne hh.1), wordS_bd g2, fieldsR_bd g2]
            exact g2
          | ok y =>
            rw [hz] at h4
            obtain ⟨p1, p2, p3, p4⟩ := hp _ _ _ hz
            have h5 := h4.2.space
            show match (match spc y.2.2 with
              | [] => Except.error (0, (3 : Int))
              | c :: q => if c = 44 then fieldsJ fJ j y.2.1 q (ks ++ [u.1]) (l ++ [y.1]) else if c = 125 then .ok (ks ++ [u.1], l ++ [y.1], y.2.1, q) else .error (q.length + 1, 3)) with
              | .ok y => _
              | .error ke => _
            have hsp := (spc_suffix y.2.2).length_le
            have e44 : ∀ y, wordS S [44] y = (takeS S [44] y).2 := fun _ => rfl
            rw [h4.1, e44]
            cases hs : spc y.2.2 with
            | nil =>
              rw [hs] at h5
              have h6 := h5.fail (c := 3) (by decide)
              rw [if_neg (fun hh => by rw [h5.atNil.2] at hh; exact absurd hh.2 (by decide)), take_nil h5, fieldsR_bd h6]
              exact h6
            | cons c q =>
              rw [hs] at h5 hsp
              simp only [List.length_cons] at hsp
              dsimp only
              rw [h5.atCons.2]
              by_cases h44 : c = 44
              · subst h44
                rw [if_pos rfl, if_neg (fun hh => absurd hh.2 (by decide)), take_yes h5 (by decide)]
                exact fieldsR_spec hf hp h5.go p4 (by omega) (by omega)
              · rw [if_neg h44]
                by_cases h125 : c = 125
                · subst h125
                  rw [if_pos rfl, if_pos ⟨h5.1, rfl⟩]
                  exact ⟨rfl, h5.go⟩
                · have h6 := h5.fail (c := 3) (by decide)
                  rw [if_neg h125, if_neg (fun hh => h125 hh.2), take_no h5 (by rw [has_one]; simp [h44]), fieldsR_bd h6]
                  simpa using h6
theorem listR_spec (hf : ValSpec S fJ f) (hp : PartJ fJ) {c : UInt8} {r : List UInt8} (h : okS S x (c :: r) m) (hm : m ≤ 4096) :
    match (if (spc r).head? = some 93 then Except.ok (vD 5 0 [] [] [], m, (spc r).tail)
        else (itemsJ fJ (r.length + 1) m (spc r) []).bind fun y => .ok (vD 5 0 [] y.1 [], y.2.1, y.2.2)) with
    | .ok y => (listR S f x).1 = y.1 ∧ okS S (listR S f x).2 y.2.2 y.2.1
    | .error ke => bdS S (listR S f x).2 ke.1 ke.2 := by
  have h1 := h.go.space
  have hl := h.len
  have hs := (spc_suffix r).length_le
  simp only [List.length_cons] at hl
  unfold listR
  dsimp only
  by_cases h93 : (spc r).head? = some 93
  · rw [if_pos h93, if_pos ((headE_93 93 (by decide) h1).2 h93)]
    refine ⟨rfl, ?_⟩
    cases hq : spc r with
    | nil => rw [hq] at h93; cases h93
    | cons b q => rw [hq] at h1; exact h1.go
  · rw [if_neg h93, if_neg (fun e => h93 ((headE_93 93 (by decide) h1).1 e))]
    have h2 := itemsR_spec (j' := S.length + 2) (l := []) hf hp h1 hm (Nat.lt_succ_of_le hs) (by omega)
    cases hx : itemsJ fJ (r.length + 1) m (spc r) [] with
    | error ke => rw [hx] at h2; exact h2
    | ok y => rw [hx] at h2; exact h2
theorem objR_spec (hf : ValSpec S fJ f) (hp : PartJ fJ) {c : UInt8} {r : List UInt8} (h : okS S x (c :: r) m) (hm : m ≤ 4096) :
    match (if (spc r).head? = some 125 then Except.ok (vD 6 0 [] [] [], m, (spc r).tail)
        else (fieldsJ fJ (r.length + 1) m (spc r) [] []).bind fun y => .ok (vD 6 0 [] y.2.1 (y.1.map fun s => D.str ⟨s.toArray⟩), y.2.2.1, y.2.2.2)) with
    | .ok y => (objR S f x).1 = y.1 ∧ okS S (objR S f x).2 y.2.2 y.2.1
    | .error ke => bdS S (objR S f x).2 ke.1 ke.2 := by
  have h1 := h.go.space
  have hl := h.len
  have hs := (spc_suffix r).length_le
  simp only [List.length_cons] at hl
  unfold objR
  dsimp only
  by_cases h93 : (spc r).head? = some 125
  · rw [if_pos h93, if_pos ((headE_93 125 (by decide) h1).2 h93)]
    refine ⟨rfl, ?_⟩
    cases hq : spc r with
    | nil => rw [hq] at h93; cases h93
    | cons b q => rw [hq] at h1; exact h1.go
  · rw [if_neg h93, if_neg (fun e => h93 ((headE_93 125 (by decide) h1).1 e))]
    have h2 := fieldsR_spec (j' := S.length + 2) (ks := []) (l := []) hf hp h1 hm (Nat.lt_succ_of_le hs) (by omega)
    cases hx : fieldsJ fJ (r.length + 1) m (spc r) [] [] with
    | error ke => rw [hx] at h2; exact h2
    | ok y => rw [hx] at h2; exact h2
theorem valueR_spec : ∀ k : Nat, ValSpec S (valueJ k) (valueRf S k)
  | 0 => fun x r0 m h hm => by
    have h0 := h.space
    unfold valueJ valueRf stepR
    cases hs : spc r0 with
    | nil =>
      rw [hs] at h0
      dsimp only
      rw [h0.atNil.2, if_pos (show beginsJ 0 = false by decide)]
      exact h0.fail (by decide)
    | cons c r =>
      rw [hs] at h0
      dsimp only
      rw [h0.atCons.2]
      by_cases hb : beginsJ c = false
      · rw [if_pos hb, if_pos hb]
        have := h0.fail (c := 3) (by decide); simpa using this
      · rw [if_neg hb, if_neg hb, if_pos rfl]
        have := h0.fail (c := 5) (by decide); simpa using this
  | k + 1 => fun x r0 m h hm => by
    have ih := valueR_spec k
    have hp := value_part k
    have h0 := h.space
    unfold valueJ valueRf stepR
    cases hs : spc r0 with
    | nil =>
      rw [hs] at h0
      dsimp only
      rw [h0.atNil.2, if_pos (show beginsJ 0 = false by decide)]
      exact h0.fail (by decide)
    | cons c r =>
      rw [hs] at h0
      dsimp only
      rw [h0.atCons.2]
      by_cases hb : beginsJ c = false
      · rw [if_pos hb, if_pos hb]
        have := h0.fail (c := 3) (by decide); simpa using this
      rw [if_neg hb, if_neg hb, if_neg (show ¬ (false = true) by decide)]
      have hmm := h0.2.2.1
      have hh : okS S ⟨(spaceS S x).p, (spaceS S x).m + 1, (spaceS S x).bad, (spaceS S x).e⟩ (c :: r) (m + 1) := ⟨h0.1, h0.2.1, by show (spaceS S x).m + 1 = _; rw [hmm], h0.2.2.2.1, h0.2.2.2.2⟩
      rw [hmm] at hh ⊢
      by_cases h4 : 4096 < m + 1
      · rw [if_pos h4, if_pos h4]
        have := hh.fail (c := 4) (by decide); simpa using this
      rw [if_neg h4, if_neg h4, hh.atCons.2]
      have hm1 : m + 1 ≤ 4096 := by omega
      generalize (⟨(spaceS S x).p, m + 1, (spaceS S x).bad, (spaceS S x).e⟩ : JS) = y at hh
      by_cases c1 : c = 110
      · subst c1; exact word_of _ _ hh
      by_cases c2 : c = 116
      · subst c2; exact word_of _ _ hh
      by_cases c3 : c = 102
      · subst c3; exact word_of _ _ hh
      rw [if_neg c1, if_neg c2, if_neg c3, if_neg c1, if_neg c2, if_neg c3]
      by_cases c4 : c = 34
      · rw [if_pos c4, if_pos c4]
        have h5 := str_spec hh
        cases hx : strJ (c :: r) with
        | error ke => rw [hx] at h5; exact h5
        | ok y => rw [hx] at h5; exact ⟨by show vD 3 0 _ [] [] = _; rw [h5.1], h5.2⟩
      rw [if_neg c4, if_neg c4]
      by_cases c5 : c = 91
      · rw [if_pos c5, if_pos c5]; exact listR_spec ih hp hh hm1
      rw [if_neg c5, if_neg c5]
      by_cases c6 : c = 123
      · rw [if_pos c6, if_pos c6]; exact objR_spec ih hp hh hm1
      rw [if_neg c6, if_neg c6]
      have h5 := numbR_spec hh
      cases hx : numJ (c :: r) with
      | error ke => rw [hx] at h5; exact h5
      | ok y => rw [hx] at h5; exact ⟨by show vD 2 _ [] [] [] = _; rw [h5.1], h5.2⟩
theorem parseR_spec (S : List UInt8) : parseRf S = match parseJ S with
    | .ok d => (d, 0, 0)
    | .error ke => (vD 0 0 [] [] [], (S.length : Int) - ke.1, ke.2) := by
  have h0 : okS S ⟨0, 0, 0, 0⟩ S 0 := ⟨rfl, rfl, rfl, Nat.zero_le _, rfl⟩
  have h1 := valueR_spec (S := S) 24 _ _ _ h0 (Nat.zero_le _)
  have bad : ∀ (x : JS) (k : Nat) (c : Int) (d : D), bdS S x k c → (let x1 := spaceS S x; let x2 := if x1.p < S.length then failS x1 x1.p 3 else x1; if x2.e ≠ 0 then (vD 0 0 [] [] [], x2.bad, x2.e) else (d, 0, 0)) = (vD 0 0 [] [] [], (S.length : Int) - k, c) := fun x k c d hx => by
    have g := hx.space
    have e : (if (spaceS S x).p < S.length then failS (spaceS S x) (spaceS S x).p 3 else spaceS S x) = spaceS S x := by
      split
      · exact g.fail _ _
      · rfl
    dsimp only
    rw [e, if_pos g.ne, g.1, g.2.2.1]
  unfold parseRf parseJ
  cases hx : valueJ 24 0 S with
  | error ke => rw [hx] at h1; exact bad _ _ _ _ h1
  | ok y =>
    rw [hx] at h1
    have h2 := h1.2.space
    show _ = match (match spc y.2.2 with | [] => Except.ok y.1 | _ :: q => .error (q.length + 1, (3 : Int))) with
      | .ok d => (d, 0, 0)
      | .error ke => (vD 0 0 [] [] [], (S.length : Int) - ke.1, ke.2)
    cases hs : spc y.2.2 with
    | nil =>
      rw [hs] at h2
      dsimp only
      rw [if_neg (show ¬ (spaceS S (valueRf S 24 ⟨0, 0, 0, 0⟩).2).p < S.length by have := h2.atNil.1; omega), if_neg h2.nne, h1.1]
    | cons c q =>
      rw [hs] at h2
      have h3 := h2.fail (c := 3) (by decide)
      dsimp only
      rw [if_pos h2.atCons.1, if_pos h3.ne, h3.1, h3.2.2.1]
      simp
end Go.Proofs.YtjhjleanihgopaaDoor
namespace Go.Proofs.YtjhjleanihgopaaDoor
variable {S : List UInt8} {x y z : JS}
theorem mv_numbR (h : x.p ≤ S.length) : Mv S x (numbR S x).2 := by
  have h1 := mv_num1 h
  unfold numbR
  dsimp only
  generalize (if atS S x = 45 then goS x else x) = x1 at h1
  split
  · exact h1.trans (mv_fail h1.hi _ (by decide))
  · rename_i hd
    have hlt : x1.p < S.length := by
      have : digU (atS S x1) = true := by
        by_cases hq : digU (atS S x1) = true
        · exact hq
        · exact (hd (.inl (by simpa using hq))).elim
      refine at_lt (b := atS S x1) (fun e => ?_) rfl
      rw [e] at this; exact absurd this (by decide)
    have h2 := mv_go hlt
    have h3 := mv_digs h2.hi
    generalize hy : (if atS S x1 = 48 then goS x1 else digsS S (goS x1)) = y
    have h4 : Mv S x y := by
      rw [← hy]
      split
      · exact h1.trans h2
      · exact (h1.trans h2).trans h3
    split
    · exact h4.trans (mv_fail h4.hi _ (by decide))
    · exact h4
variable {f : JS → D × JS}
theorem mc_itemsR (hf : FOk S f) : ∀ (j : Nat) {x : JS} (l : List D), Oc S x → Mc S x (itemsR S f j x l).2
  | 0, _, _, h => h.refl
  | j + 1, x, l, h => by
    unfold itemsR
    split
    · exact h.refl
    · rename_i he
      have he : x.e = 0 := by simpa using he
      have h1 := hf x h.hi (h.e he)
      have h2 := h1.mv (mv_space h1.hi)
      have h3 := h2.mv (mv_word [44] h2.hi)
      dsimp only
      split
      · rename_i hh; exact h2.mv (mv_go (at_lt (by decide) hh.2))
      · exact h3.then (mc_itemsR hf j _ h3.oc)
theorem mc_fieldsR (hf : FOk S f) : ∀ (j : Nat) {x : JS} (ks : List (List UInt8)) (l : List D), Oc S x → Mc S x (fieldsR S f j x ks l).2
  | 0, _, _, _, h => h.refl
  | j + 1, x, ks, l, h => by
    unfold fieldsR
    split
    · exact h.refl
    · rename_i he
      have he : x.e = 0 := by simpa using he
      have g1 := mv_space h.hi
      have g2 := g1.trans (mv_str g1.hi)
      have g3 := g2.trans (mv_twice g2.hi ks (strS S (spaceS S x)).1 (spaceS S x).p)
      have g4 := g3.trans (mv_space g3.hi)
      have g5 := g4.trans (mv_word [58] g4.hi)
      dsimp only
      split
      · exact g5.mc (h.e he)
      have h1 := g5.then (hf _ g5.hi (by rw [g5.m]; exact h.e he))
      have h2 := h1.mv (mv_space h1.hi)
      have h3 := h2.mv (mv_word [44] h2.hi)
      split
      · rename_i hh; exact h2.mv (mv_go (at_lt (by decide) hh.2))
      · exact h3.then (mc_fieldsR hf j _ _ h3.oc)
theorem mc_listR (hf : FOk S f) (h : x.p < S.length) (hm : x.m ≤ 4096) : Mc S x (listR S f x).2 := by
  have h1 := mv_go h
  have h2 := h1.trans (mv_space h1.hi)
  unfold listR
  dsimp only
  split
  · rename_i hh
    exact (h2.trans (mv_go (at_lt (by decide) hh))).mc hm
  · exact h2.then (mc_itemsR hf _ _ (h2.mc hm).oc)
theorem mc_objR (hf : FOk S f) (h : x.p < S.length) (hm : x.m ≤ 4096) : Mc S x (objR S f x).2 := by
  have h1 := mv_go h
  have h2 := h1.trans (mv_space h1.hi)
  unfold objR
  dsimp only
  split
  · rename_i hh
    exact (h2.trans (mv_go (at_lt (by decide) hh))).mc hm
  · exact h2.then (mc_fieldsR hf _ _ _ (h2.mc hm).oc)
theorem mc_stepR (hf : FOk S f) (deep : Bool) : FOk S (stepR S f deep) := fun x hp hm => by
  have h0 := mv_space (S := S) hp
  unfold stepR
  dsimp only
  split
  · exact (h0.trans (mv_fail h0.hi _ (by decide))).mc hm
  split
  · exact (h0.trans (mv_fail h0.hi _ (by decide))).mc hm
  have hm2 := h0.m
  split
  · unfold failS
    split
    · exact ⟨h0.lo, h0.hi, by show (spaceS S x).m + 1 ≤ 4097; omega, fun e => absurd e (show ¬ (4 : Int) = 0 by decide)⟩
    · rename_i hne; exact ⟨h0.lo, h0.hi, by show (spaceS S x).m + 1 ≤ 4097; omega, fun e => absurd e hne⟩
  rename_i hle
  have h : Mc S x ⟨(spaceS S x).p, (spaceS S x).m + 1, (spaceS S x).bad, (spaceS S x).e⟩ := ⟨h0.lo, h0.hi, by show (spaceS S x).m + 1 ≤ 4097; omega, fun e => ⟨h0.e e, by show (spaceS S x).m + 1 ≤ 4096; omega⟩⟩
  have hm1 : (spaceS S x).m + 1 ≤ 4096 := by omega
  generalize hy : (⟨(spaceS S x).p, (spaceS S x).m + 1, (spaceS S x).bad, (spaceS S x).e⟩ : JS) = y at h
  have hm1 : y.m ≤ 4096 := by rw [← hy]; exact hm1
  split
  · exact h.mv (mv_str h.hi)
  split
  · rename_i hh; exact h.then (mc_listR hf (at_lt (by decide) hh) hm1)
  split
  · rename_i hh; exact h.then (mc_objR hf (at_lt (by decide) hh) hm1)
  split
  · exact h.mv (mv_word _ h.hi)
  split
  · exact h.mv (mv_word _ h.hi)
  split
  · exact h.mv (mv_word _ h.hi)
  · exact h.mv (mv_numbR h.hi)
theorem valueR_ok : ∀ k : Nat, FOk S (valueRf S k)
  | 0 => mc_stepR (fun x hp hm => (Mv.refl hp).mc hm) true
  | k + 1 => mc_stepR (valueR_ok k) false
end Go.Proofs.YtjhjleanihgopaaDoor
