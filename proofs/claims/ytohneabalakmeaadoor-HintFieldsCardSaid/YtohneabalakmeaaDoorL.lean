/- Numerals read, in the reference's text. -/
import Derived.Test.YtohneabalakmeaaDoorK
namespace Go.Proofs.YtohneabalakmeaaDoor
open Go.RowKit
attribute [local irreducible] wpList Calls Code.wp
theorem decV_append (n : Nat) (a b : List UInt8) : decV n (a ++ b) = decV (decV n a) b := by simp [decV]
theorem decV_take (l : List UInt8) (m : Nat) : decV 0 (l.take m) ≤ decV 0 l := by
  conv => rhs; rw [← List.take_append_drop m l]
  rw [decV_append]; exact decV_ge _ _
theorem tk_bs (l : List UInt8) (m : Nat) : tk (bs l) m = l.take m := by unfold tk; rw [bs_data]
/-- what the reference's text finds of a numeral: the digits d, the sign -/
structure Rn (l : List UInt8) (d : ByteArray) (ng : Bool) : Prop where
  empty : d.size = 0 → numU l = Lib.NumEnd.syntax
  zero : 0 < d.size → bV d 0 = 48 → (1 < d.size ∨ ng = true) → numU l = Lib.NumEnd.syntax
  bad : ∀ x, x < d.size → digB (bV d x) = false → numU l = Lib.NumEnd.syntax
  good : 0 < d.size → ¬ (bV d 0 = 48 ∧ (1 < d.size ∨ ng = true)) → (∀ k, k < d.size → digB (bV d k) = true) →
    numU l = if ng = true then (if decV 0 (tk d d.size) ≤ 9223372036854775808 then .ok (-(decV 0 (tk d d.size) : Int)) else .range) else if decV 0 (tk d d.size) < 9223372036854775808 then .ok (decV 0 (tk d d.size)) else .range
  mono : ∀ m, decV 0 (tk d m) ≤ decV 0 (tk d d.size)
theorem rn_of (l : List UInt8) (ng : Bool) (hng : ng = decide (l.head? = some 45)) : Rn l (bs (magU l)) ng := by
  have hs : (bs (magU l)).size = (magU l).length := bs_size _
  have hlen : 0 < (magU l).length → (1 < l.length ↔ (1 < (magU l).length ∨ ng = true)) := by
    intro h0
    unfold magU at h0 ⊢
    by_cases h : l.head? = some 45
    · rw [if_pos h] at h0 ⊢
      rw [hng, decide_eq_true h]
      simp at h0 ⊢; omega
    · rw [if_neg h] at h0 ⊢
      rw [hng, decide_eq_false h]
      simp
  have htk : tk (bs (magU l)) (bs (magU l)).size = magU l := by rw [tk_bs, hs]; exact List.take_length
  refine ⟨fun h => numU_empty (List.eq_nil_of_length_eq_zero (by rw [← hs]; exact h)), fun h0 h1 h2 => ?_, fun x hx h => numU_bad (not_dig (k := x) (by rw [← hs]; exact hx) h), fun h0 h1 h2 => ?_, fun m => ?_⟩
  · rw [hs] at h0 h2
    exact numU_zero ((head_bs h0).2 h1) ((hlen h0).2 h2)
  · rw [htk]
    rw [hs] at h0 h1 h2
    have hne : magU l ≠ [] := fun e => by rw [e] at h0; exact absurd h0 (by simp)
    have ha : (magU l).all digU = true := all_dig h2
    rw [numU_val hne (fun e => h1 ⟨(head_bs h0).1 e.1, (hlen h0).1 e.2⟩) ha, atoi_num l hne ha, hng]
    by_cases h : l.head? = some 45
    · rw [if_pos h, decide_eq_true h, if_pos rfl]
    · rw [if_neg h, decide_eq_false h]; rfl
  · rw [htk, tk_bs]; exact decV_take _ _
theorem drop_one (s : ByteArray) : s.extract 1 s.size = bs (s.data.toList.drop 1) := by
  apply ByteArray.ext
  apply Array.toList_inj.1
  simp [bs, List.extract]
  exact List.take_of_length_le (by simp)
theorem bs_self (s : ByteArray) : bs s.data.toList = s := by cases s; simp [bs]
theorem bV_head {s : ByteArray} (h : 0 < s.size) : s.data.toList.head? = some 45 ↔ bV s 0 = 45 := by
  have h1 : 0 < s.data.toList.length := by simpa using h
  unfold bV
  cases hl : s.data.toList with
  | nil => rw [hl] at h1; simp at h1
  | cons c r =>
    simp only [List.head?_cons, List.getD_cons_zero, Option.some.injEq]
    constructor
    · intro e; rw [e]; rfl
    · intro e
      apply UInt8.toNat_inj.1
      have : UInt8.toNat 45 = 45 := rfl
      omega
set_option maxRecDepth 100000 in
set_option maxHeartbeats 4000000 in
theorem numberR (s : ByteArray) (w : World) (hs : s.size ≤ 281474976710656) : Calls Tryd.prog 20 #[.string s] w (Nm (numU s.data.toList) w) := by
  by_cases hs0 : s.size = 0
  · have hl : s.data.toList = [] := List.eq_nil_of_length_eq_zero (by simpa using hs0)
    have Hn := Lib.hid (numU_empty (l := s.data.toList) (by rw [hl]; rfl))
    have q0 : decide ((s.size : Int) > 0) = false := decide_eq_false (by omega)
    have q1 : ((s.size : Int) == 0) = true := by rw [hs0]; rfl
    clear hl
    go_enter Tryd.func20, Tryd.ntmps20
    go_wp2
    go_ret2
    exact ⟨by rw [Hn.out]; rfl, Below.refl _ _⟩
  have hsp : 0 < s.size := by omega
  have q0 : decide ((s.size : Int) > 0) = true := decide_eq_true (by omega)
  have qi : (0 : Int) < (s.size : Int) := by omega
  have hb0 := bV_at hsp
  have hr0 := bV_range s 0
  obtain ⟨l, hl⟩ : ∃ l, l = s.data.toList := ⟨_, rfl⟩
  have HX : ∃ (d : ByteArray) (ng : Bool), Rn l d ng ∧ d.size ≤ s.size ∧ ((ng = true ∧ bV s 0 = 45 ∧ s.extract 1 s.size = d) ∨ (ng = false ∧ bV s 0 ≠ 45 ∧ d = s)) := by
    by_cases h : bV s 0 = 45
    · have hh : l.head? = some 45 := by rw [hl]; exact (bV_head hsp).2 h
      have hm : magU l = l.drop 1 := by unfold magU; rw [if_pos hh]; simp
      refine ⟨bs (magU l), true, rn_of l true (by rw [decide_eq_true hh]), ?_, .inl ⟨rfl, h, ?_⟩⟩
      · rw [bs_size, hm, hl]; simp
      · rw [hm, hl]; exact drop_one s
    · have hh : ¬ l.head? = some 45 := by rw [hl]; exact fun e => h ((bV_head hsp).1 e)
      have hm : magU l = l := mag_pos hh
      have hr := rn_of l false (by rw [decide_eq_false hh])
      rw [hm, hl, bs_self] at hr
      exact ⟨s, false, by rw [hl]; exact hr, Nat.le_refl _, .inr ⟨rfl, h, rfl⟩⟩
  rw [← hl]
  clear hl
  obtain ⟨d, ng, hR, hds, hcase⟩ := HX
  have R := Lib.hid hR
  clear hR
  by_cases hd0 : d.size = 0
  · have Hn := Lib.hid (R.out.empty hd0)
    rcases hcase with ⟨rfl, h45, hx⟩ | ⟨rfl, h45, rfl⟩
    · rw [h45] at hb0
      have q1 : ((d.size : Int) == 0) = true := by rw [hd0]; rfl
      clear h45
      go_enter Tryd.func20, Tryd.ntmps20
      go_wp2
      go_ret2
      exact ⟨by rw [Hn.out]; rfl, Below.refl _ _⟩
    · exact absurd hd0 hs0
  have hdp : 0 < d.size := by omega
  have p0 : ((d.size : Int) == 0) = false := beq_false_of_ne (by omega)
  have pi : (0 : Int) < (d.size : Int) := by omega
  have hc0 := bV_at hdp
  have hcr := bV_range d 0
  by_cases hz : bV d 0 = 48 ∧ (1 < d.size ∨ ng = true)
  · have Hn := Lib.hid (R.out.zero hdp hz.1 hz.2)
    obtain ⟨hz1, hz2⟩ := hz
    rw [hz1] at hc0
    rcases hcase with ⟨rfl, h45, hx⟩ | ⟨rfl, h45, rfl⟩
    · rw [h45] at hb0
      clear h45 hz1 hz2
      rcases Nat.lt_or_ge 1 d.size with h1 | h1
      · have q1 : decide ((d.size : Int) > 1) = true := decide_eq_true (by omega)
        go_enter Tryd.func20, Tryd.ntmps20
        go_wp2
        go_ret2
        exact ⟨by rw [Hn.out]; rfl, Below.refl _ _⟩
      · have q1 : decide ((d.size : Int) > 1) = false := decide_eq_false (by omega)
        go_enter Tryd.func20, Tryd.ntmps20
        go_wp2
        go_ret2
        exact ⟨by rw [Hn.out]; rfl, Below.refl _ _⟩
    · have h1 : 1 < d.size := by rcases hz2 with h | h; exact h; cases h
      have q1 : decide ((d.size : Int) > 1) = true := decide_eq_true (by omega)
      clear h45 hz1 hz2
      go_enter Tryd.func20, Tryd.ntmps20
      go_wp2
      go_ret2
      exact ⟨by rw [Hn.out]; rfl, Below.refl _ _⟩
  have Hz := Lib.hid hz
  have hcs : (bV d 0 = 48 ∧ d.size ≤ 1 ∧ ng = false) ∨ ¬ bV d 0 = 48 := by
    by_cases e : bV d 0 = 48
    · refine .inl ⟨e, ?_, ?_⟩
      · rcases Nat.lt_or_ge 1 d.size with h | h
        · exact absurd ⟨e, .inl h⟩ hz
        · exact h
      · cases ng with
        | false => rfl
        | true => exact absurd ⟨e, .inr rfl⟩ hz
    · exact .inr e
  clear hz
  have hall3 : (ng = true ∧ bV s 0 = 45 ∧ s.extract 1 s.size = d ∧ ¬ bV d 0 = 48) ∨ (ng = false ∧ bV s 0 ≠ 45 ∧ d = s ∧ bV d 0 = 48 ∧ d.size ≤ 1) ∨ (ng = false ∧ bV s 0 ≠ 45 ∧ d = s ∧ ¬ bV d 0 = 48) := by
    rcases hcase with ⟨h1, h2, h3⟩ | ⟨h1, h2, h3⟩
    · rcases hcs with ⟨_, _, h⟩ | h
      · rw [h] at h1; cases h1
      · exact .inl ⟨h1, h2, h3, h⟩
    · rcases hcs with ⟨h, h', _⟩ | h
      · exact .inr (.inl ⟨h1, h2, h3, h, h'⟩)
      · exact .inr (.inr ⟨h1, h2, h3, h⟩)
  clear hcase hcs
  have hdz : d.size ≤ 281474976710656 := by omega
  obtain ⟨v0, hv0⟩ : ∃ v0, v0 = bV d 0 := ⟨_, rfl⟩
  rw [← hv0] at hc0 hcr
  have Hv0 := Lib.hid hv0
  rcases hall3 with ⟨rfl, h45, hx, h48⟩ | ⟨rfl, h45, rfl, h48, h1⟩ | ⟨rfl, h45, rfl, h48⟩
  all_goals first
    | (rw [h45] at hb0
       rw [← hv0] at h48
       have q1 : (v0 == 48) = false := beq_false_of_ne h48
       have Hfin := Lib.hid (fun h => (R.out.good hdp Hz.out h).trans (if_pos rfl))
       clear h45 hv0 h48 hr0)
    | (rw [← hv0] at h48 h45 hb0 hr0
       subst h48
       have q1 : decide ((d.size : Int) > 1) = false := decide_eq_false (by omega)
       have Hfin := Lib.hid (fun h => (R.out.good hdp Hz.out h).trans (if_neg (by simp)))
       clear h45 hv0 hr0 hb0)
    | (rw [← hv0] at h48 h45 hb0 hr0
       have q1 : (v0 == 48) = false := beq_false_of_ne h48
       have q2 : (v0 == 45) = false := beq_false_of_ne h45
       have Hfin := Lib.hid (fun h => (R.out.good hdp Hz.out h).trans (if_neg (by simp)))
       clear h45 hv0 h48 hr0 hb0)
  all_goals
    clear Hz Hv0
    go_enter Tryd.func20, Tryd.ntmps20
    go_wp2
    go_loop [6] (fun i => ∃ m : Nat, m ≤ d.size ∧ i = .int .i64 m ∧ ∀ k, k < m → digB (bV d k) = true) (fun i => d.size - (intOf i).toNat)
    case atStart => exact ⟨0, by omega, rfl, fun k hk => by omega⟩
    case round =>
      obtain ⟨x, hx, rfl, hall⟩ := hrel
      have Hall := Lib.hid hall
      clear hall
      by_cases hlt : x < d.size
      · have hb := bV_at hlt
        have hr := bV_range d x
        have Hat := Lib.hid (R.out.bad x hlt)
        have Hstep := Lib.hid (show digB (bV d x) = true → ∀ k, k < x + 1 → digB (bV d k) = true from fun h k hk => by
          by_cases e : k = x
          · rw [e]; exact h
          · exact Hall.out k (by omega))
        generalize bV d x = v at *
        by_cases h : digB v = true
        · have Hok := Lib.hid (Hstep.out h)
          have Hdig := Lib.hid (digit v w (by omega) (by omega))
          rw [h] at Hdig
          unfold Yn at Hdig
          clear h
          go_wp2_with fail
          refine Hdig.out.mono ?_
          rintro e w2 ⟨rfl, rfl⟩
          go_wp2
          go_round
          case rel => exact ⟨x + 1, by omega, by go_num, Hok.out⟩
          case measure => simp [intOf]; omega
        · have h : digB v = false := by simpa using h
          have Hno := Lib.hid (Hat.out h)
          have Hdig := Lib.hid (digit v w (by omega) (by omega))
          rw [h] at Hdig
          unfold Yn at Hdig
          clear h
          go_wp2_with fail
          refine Hdig.out.mono ?_
          rintro e w2 ⟨rfl, rfl⟩
          go_wp2
          go_ret2
          exact ⟨by rw [Hno.out]; rfl, Below.refl _ _⟩
      · obtain rfl : x = d.size := by omega
        have Hfi := Lib.hid (Hfin.out Hall.out)
        clear Hfin
        go_wp2
        go_loopg [7, 8] d.size (fun j n i wr => ∃ m : Nat, m + j = d.size ∧ i = .int .i64 m ∧ n = .int .i64 (-(decV 0 (tk d m) : Int)) ∧ decV 0 (tk d m) ≤ 9223372036854775808 ∧ wr = w)
        case atStart => exact ⟨0, by omega, rfl, by rw [tk_zero, decV_nil]; rfl, by rw [tk_zero, decV_nil]; omega, rfl⟩
        case round =>
          obtain ⟨x, hmj, rfl, rfl, hu, rfl⟩ := hrel
          have Hmj := Lib.hid hmj; have hmn : x ≤ d.size := by omega
          clear hmj
          by_cases hlt : x < d.size
          · have hbv := bV_at hlt
            have hdg : 48 ≤ bV d x ∧ bV d x ≤ 57 := of_decide_eq_true (Hall.out x hlt)
            have Hnext := Lib.hid (show decV 0 (tk d (x + 1)) = 10 * decV 0 (tk d x) + ((bV d x).toNat - 48) by rw [tk_succ hlt, decV_snoc, bV_bC, Int.toNat_natCast])
            have Hmono := Lib.hid (R.out.mono (x + 1))
            obtain ⟨e, hv⟩ : ∃ e : Nat, bV d x = 48 + (e : Int) := ⟨(bV d x).toNat - 48, by omega⟩
            have he : e ≤ 9 := by omega
            rw [hv] at hbv
            have Hn2 := Lib.hid (show decV 0 (tk d (x + 1)) = 10 * decV 0 (tk d x) + e by rw [Hnext.out, hv]; omega)
            clear hv hdg Hnext
            generalize decV 0 (tk d x) = u at *
            have htd : (-9223372036854775808 + (48 + (e : Int) - 48)).tdiv 10 = -((9223372036854775808 - (e : Int)) / 10) := by
              rw [show (-9223372036854775808 + (48 + (e : Int) - 48)) = -(9223372036854775808 - (e : Int)) by omega, Int.neg_tdiv, Int.tdiv_eq_ediv_of_nonneg (by omega)]
            have Htd := Lib.hid htd
            clear htd
            by_cases hov : 9223372036854775808 < 10 * u + e
            · have Hno := Lib.hid (show numU l = .range by
                rw [Hfi.out]
                have h1 := Hmono.out
                rw [Hn2.out] at h1
                exact if_neg (by omega))
              have hq : -(u : Int) < (-9223372036854775808 + (48 + (e : Int) - 48)).tdiv 10 := by rw [Htd.out]; omega
              go_wp2
              all_goals first
                | (exfalso; omega)
                | (go_ret2
                   exact ⟨by rw [Hno.out]; rfl, Below.refl _ _⟩)
            · have hq : (-9223372036854775808 + (48 + (e : Int) - 48)).tdiv 10 ≤ -(u : Int) := by rw [Htd.out]; omega
              go_wp2
              all_goals first
                | (exfalso; omega)
                | (go_roundg (gk - 1)
                   case measure => have := Hmj.out; omega
                   case rel => exact ⟨x + 1, by have := Hmj.out; omega, by go_num, by rw [Hn2.out]; congr 1; omega, by rw [Hn2.out]; omega, rfl⟩)
          · obtain rfl : x = d.size := by omega
            first
              | (have Hn := Lib.hid (Hfi.out.trans (if_pos hu))
                 generalize decV 0 (tk d d.size) = u at *
                 go_wp2
                 go_ret2
                 exact ⟨by rw [Hn.out]; rfl, Below.refl _ _⟩)
              | (rcases Nat.lt_or_ge (decV 0 (tk d d.size)) 9223372036854775808 with hM | hM
                 · have Hn := Lib.hid (Hfi.out.trans (if_pos hM))
                   generalize decV 0 (tk d d.size) = u at *
                   have q : ((-(u : Int)) == -9223372036854775808) = false := beq_false_of_ne (by omega)
                   go_wp2
                   go_ret2
                   exact ⟨by rw [Hn.out]; simp [numT], Below.refl _ _⟩
                 · have Hn := Lib.hid (Hfi.out.trans (if_neg (by omega)))
                   have hue : decV 0 (tk d d.size) = 9223372036854775808 := by omega
                   rw [hue]
                   go_wp2
                   go_ret2
                   exact ⟨by rw [Hn.out]; rfl, Below.refl _ _⟩)
end Go.Proofs.YtohneabalakmeaaDoor
