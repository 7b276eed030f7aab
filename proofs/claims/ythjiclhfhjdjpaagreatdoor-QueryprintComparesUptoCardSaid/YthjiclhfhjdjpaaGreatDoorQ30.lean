/- Parts of a proof, merged by a program (shake.py). -/
import Derived.Test.YthjiclhfhjdjpaaGreatDoorQ29
set_option linter.unusedVariables false
set_option linter.unusedSimpArgs false
namespace Go.Proofs.YthjiclhfhjdjpaaGreatDoor
open Go.RowKit
set_option linter.unusedSectionVars false
attribute [local irreducible] wpList Calls Code.wp AW AWo OpOk seqK blockK scopeK loopK endK AC absLex Yld Sub
attribute [local irreducible] ACB ACX absLexG YldG absLexH
set_option maxHeartbeats 8000000 in
set_option maxRecDepth 100000 in
theorem lit_null {v : D} (hn : (v.f 0).n = 0) : (litR v && bareR (bulkD v) v) = (((v.f 1).n == 0 && noneS (v.f 2).s && decide ((v.f 3).l.length = 0)) && decide ((v.f 4).l.length = 0)) := by
  obtain ⟨k, hk⟩ : ∃ k, bulkD v = k + 1 := ⟨bulkD v - 1, by have := bulkD_pos v; omega⟩
  unfold litR
  rw [hk]
  have e1 : everyL (k + 1) v = (nodeL v && !((v.f 3).l.any fun x => !everyL k x)) := rfl
  have e2 : bareR (k + 1) v = (!((v.f 0).n == 7) && !((v.f 3).l.any fun x => !bareR k x)) := rfl
  have e3 : sizeR (k + 1) v = 1 + sumN (fun i => sizeR k (gD (v.f 3).l i)) (v.f 3).l.length := rfl
  have e4 : depthR (k + 1) v = maxN (fun i => depthR k (gD (v.f 3).l i)) (v.f 3).l.length + 1 := rfl
  have e5 : nodeL v = ((v.f 1).n == 0 && noneS (v.f 2).s && decide ((v.f 3).l.length = 0) && decide ((v.f 4).l.length = 0)) := by
    rw [← nodeD_L]
    unfold nodeD nodeF
    rw [if_pos hn]
    unfold noneS
    by_cases h4 : (v.f 4).l.length = 0
    · rw [List.eq_nil_of_length_eq_zero h4]
      by_cases h3 : (v.f 3).l.length = 0
      · simp [h3]
      · simp [h3]
    · have : ((v.f 4).l.length == 0) = false := by simpa using h4
      simp [h4]
  rw [e1, e2, e3, e4, e5, hn]
  by_cases h3 : (v.f 3).l.length = 0
  · rw [List.eq_nil_of_length_eq_zero h3]
    simp [sumN, maxN]
  · simp [h3]
def varF (d : D) : Bool := nameB (d.f 0).s && refR (d.f 1) && litR (d.f 3) && bareR (bulkD (d.f 3)) (d.f 3) && ((d.f 2).b || ((d.f 3).f 0).n == 0)
set_option maxHeartbeats 8000000 in
set_option maxRecDepth 100000 in
theorem varF_R (d : D) : varF d = varR d := by
  unfold varF varR
  by_cases h : (d.f 2).b = true
  · rw [if_pos h, h]
    generalize nameB (d.f 0).s = a1
    generalize refR (d.f 1) = a2
    cases a1 <;> cases a2 <;> simp
  · have hb : (d.f 2).b = false := by simpa using h
    rw [if_neg h, hb]
    by_cases hn : ((d.f 3).f 0).n = 0
    · have e := lit_null hn
      rw [hn]
      generalize litR (d.f 3) = b1 at *
      generalize bareR (bulkD (d.f 3)) (d.f 3) = b2 at *
      have z : ((0 : Int) == 0) = true := rfl
      rw [z]
      simp only [Bool.false_or, Bool.and_true, Bool.true_and]
      rw [Bool.and_assoc (nameB (d.f 0).s && refR (d.f 1)) b1 b2, e]
    · have : (((d.f 3).f 0).n == 0) = false := by simpa using hn
      rw [this]
      simp
def varsR (l : List D) : Bool := decide (l.length ≤ 16) && !(l.any fun x => !varR x)
noncomputable def HVf (l : List D) (i : Nat) : Vst 49 := stS 49 [(0, .sl 88 l), (3, .c (.int .i64 (i : Int)))] []
set_option maxHeartbeats 8000000 in
set_option maxRecDepth 100000 in
theorem varsF_ac (l : List D) (hw : bulkL l ≤ 1000000000) : AC EN Tryz.prog 67 [.sl 88 l] (.c (.bool (varsR l))) := by
  have hl := bulkL_len l
  have hR : varsR l = (allI varF l l.length 0 && decide (l.length ≤ 16)) := by
    rw [allI_any, Bool.and_comm]
    have : (fun x => !varF x) = fun x => !varR x := funext fun x => by rw [varF_R]
    rw [this]; rfl
  generalize varsR l = R at hR ⊢
  refine ac_enter 49 Tryz.func67 rfl rfl rfl rfl ?_
  intro s w he
  repeat' (first
 | refine aw_region ?_
 | refine awo_nil ?_
 | refine k_seq ?_
 | (apply aw_1
    conv => whnf
    refine ⟨?_, trivial⟩)
 | (apply s_1
    conv => whnf; arg 1; arg 4; arg 3; whnf
    refine ⟨?_, ?_⟩)
 | exact trivial)
  refine aw_loop (fun j st => ∃ i, i + j = l.length ∧ R = (allI varF l j i && decide (l.length ≤ 16)) ∧ Sub (cx EN Tryz.prog s w he) st (HVf l i)) l.length ⟨0, by omega, hR, Sub.live ⟨rfl, rfl, trivial⟩ trivial⟩ ?_
  clear hR
  rintro j st ⟨i, hij, hR, hs2⟩
  refine aw_sub hs2 ?_
  clear hs2
  by_cases hi : i < l.length
  · obtain ⟨j, rfl⟩ : ∃ q, j = q + 1 := ⟨j - 1, by omega⟩
    have f1 : decide ((i : Int) < (l.length : Nat)) = true := decide_eq_true (by omega)
    have hR' : R = (varF (gD l i) && allI varF l j (i + 1) && decide (l.length ≤ 16)) := hR
    clear hR
    have b0 := bulkL_get hi
    have b1 := bulkD_wD (gD l i)
    have q0 := wD_f (gD l i) 0; have q0' := wD_str ((gD l i).f 0)
    have q1 := wD_f (gD l i) 1
    have q3 := wD_f (gD l i) 3; have q3' := bulkD_wD ((gD l i).f 3)
    have r0 := wD_f ((gD l i).f 1) 0; have r0' := wD_str (((gD l i).f 1).f 0)
    have r1 := wD_f ((gD l i).f 1) 1; have r1' := wD_list (((gD l i).f 1).f 1); have r1'' := bulkL_len (((gD l i).f 1).f 1).l
    have h1 := nameF_ac ((gD l i).f 0).s (by omega)
    have h2 := refF_ac ((gD l i).f 1) (by omega) (by omega)
    have h3 := litF_ac ((gD l i).f 3) (by omega)
    have h4 := constF_ac _ ((gD l i).f 3) (dp_bulk (bulkD ((gD l i).f 3)) ((gD l i).f 3) (Nat.le_refl _)) (by omega)
    repeat' (first
 | (apply aw_cond_kt
    · conv => lhs; whnf
    · assumption)
 | refine aw_region ?_
 | refine awo_nil ?_
 | refine k_seq ?_
 | refine k_block ?_
 | (apply aw_1
    conv => whnf
    refine ⟨?_, trivial⟩)
 | (apply s_pick_t rfl rfl
    · conv => lhs; whnf
    · conv => lhs; whnf
    · first | exact bT1 (by assumption) | exact bT2 (by assumption))
 | (apply s_pick_f rfl rfl
    · conv => lhs; whnf
    · conv => lhs; whnf
    · first | exact bF1 (by assumption) | exact bF2 (by assumption))
 | (apply s_1
    conv => whnf; arg 1; arg 4; arg 3; whnf
    refine ⟨?_, ?_⟩)
 | (apply s_call rfl
    · conv => lhs; whnf
    · conv => lhs; whnf
    · first | exact h1 | exact h2 | exact h3 | exact h4)
 | (apply s_store rfl rfl rfl
    · conv => lhs; whnf
    · conv => lhs; whnf; arg 1; whnf
    · conv => lhs; whnf; arg 1; whnf
    · exact ⟨by kernel_rfl, by kernel_rfl⟩
    · rfl)
 | (apply s_wanted_val rfl
    · conv => lhs; whnf
    · conv => lhs; whnf
    · first | rfl | assumption
    · conv => lhs; whnf; arg 2; whnf)
 | (apply s_wanted_call rfl
    · conv => lhs; whnf
    · conv => lhs; whnf
    · first | rfl | assumption
    · conv => lhs; whnf
    · first | exact h1 | exact h2 | exact h3 | exact h4)
 | (apply s_skipU rfl
    · conv => lhs; whnf
    · conv => lhs; whnf
    · first | rfl | assumption)
 | (apply s_guard_valU rfl
    · conv => lhs; whnf
    · conv => lhs; whnf
    · conv => lhs; whnf; arg 2; whnf)
 | (refine aw_cond (by conv => lhs; whnf) ?_ ?_ <;> intro hb)
 | refine k_seq_ret ?_
 | refine k_block_ret ?_
 | refine k_loop_ret ?_
 | refine k_end_ret ?_
 | (refine ⟨_, by conv => lhs; whnf; arg 2; whnf, ?_⟩; conv => rhs; whnf)
 | exact trivial
 | intro hg)
    all_goals first
      | exact i64_ok (by omega)
      | exact at_in hi
      | skip
    all_goals first
      | (have e : varF (gD l i) = false := by
           clear hR' he h1 h2 h3 h4 q0 q0' q1 q3 q3' r0 r0' r1 r1' r1'' b0 b1
           unfold varF
           simp_all
         rw [hR', e]; rfl)
      | (have e : varF (gD l i) = true := by
           clear hR' he h1 h2 h3 h4 q0 q0' q1 q3 q3' r0 r0' r1 r1' r1'' b0 b1
           unfold varF
           simp_all
         exact k_loop_next (j' := j) (by omega) ⟨i + 1, by omega, by rw [hR', e, Bool.true_and], Sub.live ⟨rfl, rfl, trivial⟩ trivial⟩)
      | skip
  · obtain rfl : j = 0 := by omega
    have f1 : decide ((i : Int) < (l.length : Nat)) = false := decide_eq_false (by omega)
    repeat' (first
 | (apply aw_cond_kf
    · conv => lhs; whnf
    · assumption)
 | refine aw_region ?_
 | refine awo_nil ?_
 | refine k_seq ?_
 | (apply aw_1
    conv => whnf
    refine ⟨?_, trivial⟩)
 | (apply s_1
    conv => whnf; arg 1; arg 4; arg 3; whnf
    refine ⟨?_, ?_⟩)
 | refine k_seq_exit ?_
 | refine k_block_hit rfl ?_
 | refine k_loop_exit ?_
 | refine k_end_ret ?_
 | (refine ⟨_, by conv => lhs; whnf; arg 2; whnf, ?_⟩; conv => rhs; whnf)
 | exact trivial)
    rw [hR, allI, Bool.true_and, le16]
set_option maxHeartbeats 8000000 in
set_option maxRecDepth 100000 in
theorem queR_all (a b : List D) : queR (.obj [.list a, .list b]) = (decide (1 ≤ a.length + b.length ∧ a.length + b.length ≤ 64) && allI opR a a.length 0 && allI fragR b b.length 0) := by
  rw [allI_all, allI_any]; rfl
noncomputable def HRo (a b : List D) (i : Nat) : Vst 92 := stS 92 [(1, .bx 1 0), (4, .c (.int .i64 (i : Int)))] [(1, .box 41 [.sl 57 a, .sl 116 b])]
noncomputable def HRf (a b : List D) (i : Nat) : Vst 92 := stS 92 [(1, .bx 1 0), (6, .c (.int .i64 (i : Int)))] [(1, .box 41 [.sl 57 a, .sl 116 b])]
set_option maxHeartbeats 8000000 in
set_option maxRecDepth 100000 in
theorem rightF_ac (a b : List D) (hwa : bulkL a ≤ 1000000000) (hwb : bulkL b ≤ 1000000000) : AC EN Tryz.prog 32 [.agg [.sl 57 a, .sl 116 b]] (.c (.bool (queR (.obj [.list a, .list b])))) := by
  have hla := bulkL_len a
  have hlb := bulkL_len b
  have hR := queR_all a b
  generalize queR (.obj [.list a, .list b]) = R at hR ⊢
  have e1 : decide ((a.length : Int) + (b.length : Int) < 1) = !decide (1 ≤ a.length + b.length) := by
    rw [Bool.eq_iff_iff]
    simp only [decide_eq_true_eq, Bool.not_eq_true', decide_eq_false_iff_not]
    omega
  have e2 : decide ((a.length : Int) + (b.length : Int) > 64) = !decide (a.length + b.length ≤ 64) := by
    rw [Bool.eq_iff_iff]
    simp only [decide_eq_true_eq, Bool.not_eq_true', decide_eq_false_iff_not]
    omega
  rw [Bool.decide_and] at hR
  refine ac_enter 92 Tryz.func32 rfl rfl rfl rfl ?_
  intro s w he
  repeat' (first
 | refine aw_region ?_
 | refine awo_nil ?_
 | refine k_seq ?_
 | (apply aw_1
    conv => whnf
    refine ⟨?_, trivial⟩)
 | (apply s_pick_t rfl rfl
    · conv => lhs; whnf
    · conv => lhs; whnf
    · first | exact bT1 (by assumption) | exact bT2 (by assumption))
 | (apply s_pick_f rfl rfl
    · conv => lhs; whnf
    · conv => lhs; whnf
    · first | exact bF1 (by assumption) | exact bF2 (by assumption))
 | (apply s_1
    conv => whnf; arg 1; arg 4; arg 3; whnf
    refine ⟨?_, ?_⟩)
 | (apply s_box rfl rfl rfl rfl
    · conv => lhs; whnf; arg 1; whnf
    · rfl)
 | (apply s_wanted_val rfl
    · conv => lhs; whnf
    · conv => lhs; whnf
    · first | rfl | assumption
    · conv => lhs; whnf; arg 2; whnf)
 | (apply s_skipU rfl
    · conv => lhs; whnf
    · conv => lhs; whnf
    · first | rfl | assumption)
 | (apply s_guard_valU rfl
    · conv => lhs; whnf
    · conv => lhs; whnf
    · conv => lhs; whnf; arg 2; whnf)
 | (refine aw_cond (by conv => lhs; whnf) ?_ ?_ <;> intro hb)
 | refine k_seq_ret ?_
 | refine k_end_ret ?_
 | (refine ⟨_, by conv => lhs; whnf; arg 2; whnf, ?_⟩; conv => rhs; whnf)
 | exact trivial
 | intro hg)
  · simp only [e1, e2] at *
    generalize decide (a.length + b.length ≤ 64) = x at *
    simp_all
  · have hR2 : R = (allI opR a a.length 0 && allI fragR b b.length 0) := by
      simp only [e1, e2] at *
      simp_all
    clear hR hb hg e1 e2
    refine aw_loop (fun j st => ∃ i, i + j = a.length ∧ R = (allI opR a j i && allI fragR b b.length 0) ∧ Sub (cx EN Tryz.prog s w he) st (HRo a b i)) a.length ⟨0, by omega, hR2, Sub.live ⟨rfl, rfl, trivial⟩ ⟨rfl, trivial⟩⟩ ?_
    clear hR2
    rintro j st ⟨i, hij, hR, hs2⟩
    refine aw_sub hs2 ?_
    clear hs2
    by_cases hi : i < a.length
    · obtain ⟨j, rfl⟩ : ∃ q, j = q + 1 := ⟨j - 1, by omega⟩
      have f1 : decide ((i : Int) < (a.length : Nat)) = true := decide_eq_true (by omega)
      have b0 := bulkL_get hi
      have b1 := bulkD_wD (gD a i)
      have q1 := wD_f (gD a i) 1; have q1' := wD_str ((gD a i).f 1)
      have q2 := wD_f (gD a i) 2; have q2' := wD_list ((gD a i).f 2)
      have q3 := wD_f (gD a i) 3; have q3' := wD_list ((gD a i).f 3)
      have h1 := nameF_ac ((gD a i).f 1).s (by omega)
      have h2 := varsF_ac ((gD a i).f 2).l (by omega)
      have h3 := setF_ac ((gD a i).f 3).l (by omega)
      have g1 : decide (((gD a i).f 0).n < 1) = !decide (1 ≤ ((gD a i).f 0).n) := by
        rw [Bool.eq_iff_iff]
        simp only [decide_eq_true_eq, Bool.not_eq_true', decide_eq_false_iff_not]
        omega
      have g2 : decide (((gD a i).f 0).n > 3) = !decide (((gD a i).f 0).n ≤ 3) := by
        rw [Bool.eq_iff_iff]
        simp only [decide_eq_true_eq, Bool.not_eq_true', decide_eq_false_iff_not]
        omega
      have g4 := noneS_is ((gD a i).f 1).s
      have hR' : R = ((decide (1 ≤ ((gD a i).f 0).n) && decide (((gD a i).f 0).n ≤ 3)) && (noneS ((gD a i).f 1).s || nameB ((gD a i).f 1).s) && varsR ((gD a i).f 2).l && setR ((gD a i).f 3).l && allI opR a j (i + 1) && allI fragR b b.length 0) := by
        have hop : opR (gD a i) = ((decide (1 ≤ ((gD a i).f 0).n) && decide (((gD a i).f 0).n ≤ 3)) && (noneS ((gD a i).f 1).s || nameB ((gD a i).f 1).s) && varsR ((gD a i).f 2).l && setR ((gD a i).f 3).l) := by
          rw [← Bool.decide_and]
          unfold opR varsR
          simp only [Bool.and_assoc]
        rw [hR, ← hop]; rfl
      clear hR b0 b1 q1 q1' q2 q2' q3 q3'
      repeat' (first
 | (apply s_wpick_t rfl rfl rfl
    · conv => lhs; whnf
    · first | rfl | assumption
    · conv => lhs; whnf
    · first | exact bT1 (by assumption) | exact bT2 (by assumption) | rfl)
 | (apply s_wpick_f rfl rfl rfl
    · conv => lhs; whnf
    · first | rfl | assumption
    · conv => lhs; whnf
    · first | exact bF1 (by assumption) | exact bF2 (by assumption) | rfl)
 | (apply aw_cond_kt
    · conv => lhs; whnf
    · assumption)
 | refine aw_region ?_
 | refine awo_nil ?_
 | refine k_seq ?_
 | refine k_block ?_
 | (apply aw_1
    conv => whnf
    refine ⟨?_, trivial⟩)
 | (apply s_pick_t rfl rfl
    · conv => lhs; whnf
    · conv => lhs; whnf
    · first | exact bT1 (by assumption) | exact bT2 (by assumption))
 | (apply s_pick_f rfl rfl
    · conv => lhs; whnf
    · conv => lhs; whnf
    · first | exact bF1 (by assumption) | exact bF2 (by assumption))
 | (apply s_1
    conv => whnf; arg 1; arg 4; arg 3; whnf
    refine ⟨?_, ?_⟩)
 | (apply s_store rfl rfl rfl
    · conv => lhs; whnf
    · conv => lhs; whnf; arg 1; whnf
    · conv => lhs; whnf; arg 1; whnf
    · exact ⟨by kernel_rfl, by kernel_rfl⟩
    · rfl)
 | (apply s_wanted_val rfl
    · conv => lhs; whnf
    · conv => lhs; whnf
    · first | rfl | assumption
    · conv => lhs; whnf; arg 2; whnf)
 | (apply s_wanted_call rfl
    · conv => lhs; whnf
    · conv => lhs; whnf
    · first | rfl | assumption
    · conv => lhs; whnf
    · first | exact h1 | exact h2 | exact h3)
 | (apply s_skipU rfl
    · conv => lhs; whnf
    · conv => lhs; whnf
    · first | rfl | assumption)
 | (apply s_guard_valU rfl
    · conv => lhs; whnf
    · conv => lhs; whnf
    · conv => lhs; whnf; arg 2; whnf)
 | (refine aw_cond (by conv => lhs; whnf) ?_ ?_ <;> intro hb)
 | refine k_seq_ret ?_
 | refine k_block_ret ?_
 | refine k_loop_ret ?_
 | refine k_end_ret ?_
 | (refine ⟨_, by conv => lhs; whnf; arg 2; whnf, ?_⟩; conv => rhs; whnf)
 | exact trivial
 | intro hg)
      all_goals first
        | exact i64_ok (by omega)
        | exact at_in hi
        | refine congrArg (fun b => V.c (.bool b)) ?_
        | refine k_loop_next (j' := j) (by omega) ⟨i + 1, by omega, ?_, Sub.live ⟨rfl, rfl, trivial⟩ ⟨rfl, trivial⟩⟩
      all_goals
        clear h1 h2 h3
        simp only [Int.toNat_natCast, Nat.reduceAdd, g1, g2, g4] at *
        clear g1 g2 g4
        generalize setR ((gD a i).f 3).l = a1 at *
        generalize varsR ((gD a i).f 2).l = a2 at *
        generalize noneS ((gD a i).f 1).s = a4 at *
        generalize nameB ((gD a i).f 1).s = a5 at *
        generalize decide (((gD a i).f 0).n ≤ 3) = a6 at *
        generalize decide (1 ≤ ((gD a i).f 0).n) = a7 at *
        generalize allI fragR b b.length 0 = a8 at *
        generalize allI opR a j (i + 1) = a9 at *
        clear f1 hi hij he
        simp_all
    · obtain rfl : j = 0 := by omega
      have f1 : decide ((i : Int) < (a.length : Nat)) = false := decide_eq_false (by omega)
      have hR2 : R = allI fragR b b.length 0 := by rw [hR, allI, Bool.true_and]
      clear hR
      repeat' (first
 | (apply aw_cond_kf
    · conv => lhs; whnf
    · assumption)
 | refine aw_region ?_
 | refine awo_nil ?_
 | refine k_seq ?_
 | (apply aw_1
    conv => whnf
    refine ⟨?_, trivial⟩)
 | (apply s_1
    conv => whnf; arg 1; arg 4; arg 3; whnf
    refine ⟨?_, ?_⟩)
 | refine k_seq_exit ?_
 | refine k_block_hit rfl ?_
 | refine k_loop_exit ?_
 | exact trivial)
      refine aw_loop (fun j st => ∃ i, i + j = b.length ∧ R = allI fragR b j i ∧ Sub (cx EN Tryz.prog s w he) st (HRf a b i)) b.length ⟨0, by omega, hR2, Sub.live ⟨rfl, rfl, trivial⟩ ⟨rfl, trivial⟩⟩ ?_
      clear hR2
      rintro j2 st2 ⟨i2, hij2, hR, hs2⟩
      refine aw_sub hs2 ?_
      clear hs2
      by_cases hi2 : i2 < b.length
      · obtain ⟨j2, rfl⟩ : ∃ q, j2 = q + 1 := ⟨j2 - 1, by omega⟩
        have f2 : decide ((i2 : Int) < (b.length : Nat)) = true := decide_eq_true (by omega)
        have b0 := bulkL_get hi2
        have b1 := bulkD_wD (gD b i2)
        have q0 := wD_f (gD b i2) 0; have q0' := wD_str ((gD b i2).f 0)
        have q1 := wD_f (gD b i2) 1; have q1' := wD_str ((gD b i2).f 1)
        have q2 := wD_f (gD b i2) 2; have q2' := wD_list ((gD b i2).f 2)
        have h1 := titleF_ac ((gD b i2).f 0).s (by omega)
        have h2 := nameF_ac ((gD b i2).f 1).s (by omega)
        have h3 := setF_ac ((gD b i2).f 2).l (by omega)
        have hR' : R = (titleR ((gD b i2).f 0).s && nameB ((gD b i2).f 1).s && setR ((gD b i2).f 2).l && allI fragR b j2 (i2 + 1)) := hR
        clear hR b0 b1 q0 q0' q1 q1' q2 q2'
        repeat' (first
 | (apply aw_cond_kt
    · conv => lhs; whnf
    · assumption)
 | refine aw_region ?_
 | refine awo_nil ?_
 | refine k_seq ?_
 | refine k_block ?_
 | (apply aw_1
    conv => whnf
    refine ⟨?_, trivial⟩)
 | (apply s_pick_t rfl rfl
    · conv => lhs; whnf
    · conv => lhs; whnf
    · first | exact bT1 (by assumption) | exact bT2 (by assumption))
 | (apply s_pick_f rfl rfl
    · conv => lhs; whnf
    · conv => lhs; whnf
    · first | exact bF1 (by assumption) | exact bF2 (by assumption))
 | (apply s_1
    conv => whnf; arg 1; arg 4; arg 3; whnf
    refine ⟨?_, ?_⟩)
 | (apply s_call rfl
    · conv => lhs; whnf
    · conv => lhs; whnf
    · first | exact h1 | exact h2 | exact h3)
 | (apply s_store rfl rfl rfl
    · conv => lhs; whnf
    · conv => lhs; whnf; arg 1; whnf
    · conv => lhs; whnf; arg 1; whnf
    · exact ⟨by kernel_rfl, by kernel_rfl⟩
    · rfl)
 | (apply s_wanted_val rfl
    · conv => lhs; whnf
    · conv => lhs; whnf
    · first | rfl | assumption
    · conv => lhs; whnf; arg 2; whnf)
 | (apply s_wanted_call rfl
    · conv => lhs; whnf
    · conv => lhs; whnf
    · first | rfl | assumption
    · conv => lhs; whnf
    · first | exact h1 | exact h2 | exact h3)
 | (apply s_skipU rfl
    · conv => lhs; whnf
    · conv => lhs; whnf
    · first | rfl | assumption)
 | (apply s_guard_valU rfl
    · conv => lhs; whnf
    · conv => lhs; whnf
    · conv => lhs; whnf; arg 2; whnf)
 | (refine aw_cond (by conv => lhs; whnf) ?_ ?_ <;> intro hb)
 | refine k_seq_ret ?_
 | refine k_block_ret ?_
 | refine k_loop_ret ?_
 | refine k_end_ret ?_
 | (refine ⟨_, by conv => lhs; whnf; arg 2; whnf, ?_⟩; conv => rhs; whnf)
 | exact trivial
 | intro hg)
        all_goals first
          | exact i64_ok (by omega)
          | exact at_in hi2
          | refine congrArg (fun b => V.c (.bool b)) ?_
          | refine k_loop_next (j' := j2) (by omega) ⟨i2 + 1, by omega, ?_, Sub.live ⟨rfl, rfl, trivial⟩ ⟨rfl, trivial⟩⟩
        all_goals
          clear h1 h2 h3
          try simp only [Int.toNat_natCast, Nat.reduceAdd] at *
          generalize titleR ((gD b i2).f 0).s = a1 at *
          generalize nameB ((gD b i2).f 1).s = a2 at *
          generalize setR ((gD b i2).f 2).l = a4 at *
          generalize allI fragR b j2 (i2 + 1) = a8 at *
          clear f2 hi2 hij2 he hi hij f1
          simp_all
      · obtain rfl : j2 = 0 := by omega
        have f2 : decide ((i2 : Int) < (b.length : Nat)) = false := decide_eq_false (by omega)
        repeat' (first
 | (apply aw_cond_kf
    · conv => lhs; whnf
    · assumption)
 | refine aw_region ?_
 | refine awo_nil ?_
 | refine k_seq ?_
 | (apply aw_1
    conv => whnf
    refine ⟨?_, trivial⟩)
 | (apply s_1
    conv => whnf; arg 1; arg 4; arg 3; whnf
    refine ⟨?_, ?_⟩)
 | refine k_seq_exit ?_
 | refine k_block_hit rfl ?_
 | refine k_loop_exit ?_
 | refine k_end_ret ?_
 | (refine ⟨_, by conv => lhs; whnf; arg 2; whnf, ?_⟩; conv => rhs; whnf)
 | exact trivial)
        rw [hR]; rfl
  · simp only [e1, e2] at *
    simp_all
  · exact i64_ok (by omega)
end Go.Proofs.YthjiclhfhjdjpaaGreatDoor
