/- Parts of a proof, merged by a program (shake.py). -/
import Derived.Test.YthjiclhfhjdjpaaGreatDoorR7
set_option linter.unusedVariables false
set_option linter.unusedSimpArgs false
namespace Go.Proofs.YthjiclhfhjdjpaaGreatDoor
open Go.RowKit
set_option linter.unusedSectionVars false
attribute [local irreducible] wpList Calls Code.wp AW AWo OpOk seqK blockK scopeK loopK endK AC absLex Yld Sub
attribute [local irreducible] ACB ACX ACE absLexG YldG
set_option maxHeartbeats 8000000 in
set_option maxRecDepth 100000 in
theorem lit_null {v : D} (hn : (v.f 0).n = 0) : (litR v && bareR (bulkD v) v) = (((v.f 1).n == 0 && noneS (v.f 2).s && decide ((v.f 3).l.length = 0)) && decide ((v.f 4).l.length = 0)) := by
  obtain ⟨k, hk⟩ : ∃ k, bulkD v = k + 1 := ⟨bulkD v - 1, by have := bulkD_pos v; omega⟩
  unfold litR
  rw [hk]
  have e1 : everyL (k + 1) v = (nodeL v && !((v.f 3).l.any fun x => !everyL k x)) := rfl
  have e2 : bareR (k + 1) v = (!((v.f 0).n == 7) && !((v.f 3).l.any fun x => !bareR k x)) := rfl
  have e3 : sizeR (k + 1) v = 1 + sumN (fun i => sizeR k (gD (v.f 3).l i)) (v.f 3).l.length := rfl
  have e4 : depthR (k + 1) v = maxN (fun i => depthR k (gD (v.f 3).l i)) (v.f 3).l.length + 1 := rfl
  have e5 : nodeL v = ((v.f 1).n == 0 && noneS (v.f 2).s && decide ((v.f 3).l.length = 0) && decide ((v.f 4).l.length = 0)) := by
    rw [← nodeD_L]
    unfold nodeD nodeF
    rw [if_pos hn]
    unfold noneS
    by_cases h4 : (v.f 4).l.length = 0
    · rw [List.eq_nil_of_length_eq_zero h4]
      by_cases h3 : (v.f 3).l.length = 0
      · simp [h3]
      · simp [h3]
    · have : ((v.f 4).l.length == 0) = false := by simpa using h4
      simp [h4]
  rw [e1, e2, e3, e4, e5, hn]
  by_cases h3 : (v.f 3).l.length = 0
  · rw [List.eq_nil_of_length_eq_zero h3]
    simp [sumN, maxN]
  · simp [h3]
def varF (d : D) : Bool := nameB (d.f 0).s && refR (d.f 1) && litR (d.f 3) && bareR (bulkD (d.f 3)) (d.f 3) && ((d.f 2).b || ((d.f 3).f 0).n == 0)
set_option maxHeartbeats 8000000 in
set_option maxRecDepth 100000 in
theorem varF_R (d : D) : varF d = varR d := by
  unfold varF varR
  by_cases h : (d.f 2).b = true
  · rw [if_pos h, h]
    generalize nameB (d.f 0).s = a1
    generalize refR (d.f 1) = a2
    cases a1 <;> cases a2 <;> simp
  · have hb : (d.f 2).b = false := by simpa using h
    rw [if_neg h, hb]
    by_cases hn : ((d.f 3).f 0).n = 0
    · have e := lit_null hn
      rw [hn]
      generalize litR (d.f 3) = b1 at *
      generalize bareR (bulkD (d.f 3)) (d.f 3) = b2 at *
      have z : ((0 : Int) == 0) = true := rfl
      rw [z]
      simp only [Bool.false_or, Bool.and_true, Bool.true_and]
      rw [Bool.and_assoc (nameB (d.f 0).s && refR (d.f 1)) b1 b2, e]
    · have : (((d.f 3).f 0).n == 0) = false := by simpa using hn
      rw [this]
      simp
def varsR (l : List D) : Bool := decide (l.length ≤ 16) && !(l.any fun x => !varR x)
noncomputable def HVf (l : List D) (i : Nat) : Vst 49 := stS 49 [(0, .sl 88 l), (3, .c (.int .i64 (i : Int)))] []
set_option maxHeartbeats 8000000 in
set_option maxRecDepth 100000 in
theorem varsF_ac (l : List D) (hw : bulkL l ≤ 1000000000) : AC EN5 Tryz.prog 67 [.sl 88 l] (.c (.bool (varsR l))) := by
  have hl := bulkL_len l
  have hR : varsR l = (allI varF l l.length 0 && decide (l.length ≤ 16)) := by
    rw [allI_any, Bool.and_comm]
    have : (fun x => !varF x) = fun x => !varR x := funext fun x => by rw [varF_R]
    rw [this]; rfl
  generalize varsR l = R at hR ⊢
  refine ac_enter 49 Tryz.func67 rfl rfl rfl rfl ?_
  intro s w he
  repeat' (first
 | refine aw_seq ?_
 | refine aw_region ?_
 | refine awo_nil ?_
 | refine k_seq ?_
 | refine aw_block ?_
 | (apply s_val rfl
    · conv => lhs; whnf
    · conv => lhs; whnf; arg 2; whnf)
 | exact trivial)
  refine aw_loop (fun j st => ∃ i, i + j = l.length ∧ R = (allI varF l j i && decide (l.length ≤ 16)) ∧ Sub (cx EN5 Tryz.prog s w he) st (HVf l i)) l.length ⟨0, by omega, hR, Sub.live ⟨rfl, rfl, trivial⟩ trivial⟩ ?_
  clear hR
  rintro j st ⟨i, hij, hR, hs2⟩
  refine aw_sub hs2 ?_
  clear hs2
  by_cases hi : i < l.length
  · obtain ⟨j, rfl⟩ : ∃ q, j = q + 1 := ⟨j - 1, by omega⟩
    have f1 : decide ((i : Int) < (l.length : Nat)) = true := decide_eq_true (by omega)
    have hR' : R = (varF (gD l i) && allI varF l j (i + 1) && decide (l.length ≤ 16)) := hR
    clear hR
    have b0 := bulkL_get hi
    have b1 := bulkD_wD (gD l i)
    have q0 := wD_f (gD l i) 0; have q0' := wD_str ((gD l i).f 0)
    have q1 := wD_f (gD l i) 1
    have q3 := wD_f (gD l i) 3; have q3' := bulkD_wD ((gD l i).f 3)
    have r0 := wD_f ((gD l i).f 1) 0; have r0' := wD_str (((gD l i).f 1).f 0)
    have r1 := wD_f ((gD l i).f 1) 1; have r1' := wD_list (((gD l i).f 1).f 1); have r1'' := bulkL_len (((gD l i).f 1).f 1).l
    have h1 := nameF_ac ((gD l i).f 0).s (by omega)
    have h2 := refF_ac ((gD l i).f 1) (by omega) (by omega)
    have h3 := litF_ac ((gD l i).f 3) (by omega)
    have h4 := constF_ac _ ((gD l i).f 3) (dp_bulk (bulkD ((gD l i).f 3)) ((gD l i).f 3) (Nat.le_refl _)) (by omega)
    repeat' (first
 | (apply aw_cond_kt
    · conv => lhs; whnf
    · assumption)
 | refine aw_seq ?_
 | refine aw_region ?_
 | refine awo_nil ?_
 | refine k_seq ?_
 | refine k_block ?_
 | refine aw_block ?_
 | refine aw_skip ?_
 | (apply s_pick_t rfl rfl
    · conv => lhs; whnf
    · conv => lhs; whnf
    · first | exact bT1 (by assumption) | exact bT2 (by assumption))
 | (apply s_pick_f rfl rfl
    · conv => lhs; whnf
    · conv => lhs; whnf
    · first | exact bF1 (by assumption) | exact bF2 (by assumption))
 | (apply s_val rfl
    · conv => lhs; whnf
    · conv => lhs; whnf; arg 2; whnf)
 | (apply s_call rfl
    · conv => lhs; whnf
    · conv => lhs; whnf
    · first | exact h1 | exact h2 | exact h3 | exact h4)
 | (apply s_alloc rfl rfl rfl rfl
    · conv => lhs; whnf; arg 1; whnf
    · rfl)
 | (apply s_store rfl rfl rfl
    · conv => lhs; whnf
    · conv => lhs; whnf; arg 1; whnf
    · conv => lhs; whnf; arg 1; whnf
    · exact ⟨by kernel_rfl, by kernel_rfl⟩
    · rfl)
 | (apply s_wanted_val rfl
    · conv => lhs; whnf
    · conv => lhs; whnf
    · first | rfl | assumption
    · conv => lhs; whnf; arg 2; whnf)
 | (apply s_wanted_call rfl
    · conv => lhs; whnf
    · conv => lhs; whnf
    · first | rfl | assumption
    · conv => lhs; whnf
    · first | exact h1 | exact h2 | exact h3 | exact h4)
 | (apply s_skipU rfl
    · conv => lhs; whnf
    · conv => lhs; whnf
    · first | rfl | assumption)
 | (apply s_guard_valU rfl
    · conv => lhs; whnf
    · conv => lhs; whnf
    · conv => lhs; whnf; arg 2; whnf)
 | (apply aw_cond_t
    · conv => lhs; whnf; arg 1; arg 1; whnf)
 | (apply aw_cond_f
    · conv => lhs; whnf; arg 1; arg 1; whnf)
 | (refine aw_cond (by conv => lhs; whnf) ?_ ?_ <;> intro hb)
 | refine aw_ret ?_
 | refine k_seq_ret ?_
 | refine k_block_ret ?_
 | refine k_loop_ret ?_
 | refine k_end_ret ?_
 | (refine ⟨_, by conv => lhs; whnf; arg 2; whnf, ?_⟩; conv => rhs; whnf)
 | exact trivial
 | intro hg)
    all_goals first
      | exact i64_ok (by omega)
      | exact at_in hi
      | skip
    all_goals first
      | (have e : varF (gD l i) = false := by
           clear hR' he h1 h2 h3 h4 q0 q0' q1 q3 q3' r0 r0' r1 r1' r1'' b0 b1
           unfold varF
           simp_all
         rw [hR', e]; rfl)
      | (have e : varF (gD l i) = true := by
           clear hR' he h1 h2 h3 h4 q0 q0' q1 q3 q3' r0 r0' r1 r1' r1'' b0 b1
           unfold varF
           simp_all
         exact k_loop_next (j' := j) (by omega) ⟨i + 1, by omega, by rw [hR', e, Bool.true_and], Sub.live ⟨rfl, rfl, trivial⟩ trivial⟩)
      | skip
  · obtain rfl : j = 0 := by omega
    have f1 : decide ((i : Int) < (l.length : Nat)) = false := decide_eq_false (by omega)
    repeat' (first
 | (apply aw_cond_kf
    · conv => lhs; whnf
    · assumption)
 | refine aw_seq ?_
 | refine aw_region ?_
 | refine awo_nil ?_
 | refine k_seq ?_
 | (apply s_val rfl
    · conv => lhs; whnf
    · conv => lhs; whnf; arg 2; whnf)
 | refine aw_ret ?_
 | refine aw_exit ?_
 | refine k_seq_exit ?_
 | refine k_block_hit rfl ?_
 | refine k_loop_exit ?_
 | refine k_end_ret ?_
 | (refine ⟨_, by conv => lhs; whnf; arg 2; whnf, ?_⟩; conv => rhs; whnf)
 | exact trivial)
    rw [hR, allI, Bool.true_and, le16]
set_option maxHeartbeats 8000000 in
set_option maxRecDepth 100000 in
theorem queR_all (a b : List D) : queR (.obj [.list a, .list b]) = (decide (1 ≤ a.length + b.length ∧ a.length + b.length ≤ 64) && allI opR a a.length 0 && allI fragR b b.length 0) := by
  rw [allI_all, allI_any]; rfl
noncomputable def HRo (a b : List D) (i : Nat) : Vst 92 := stS 92 [(1, .bx 1 0), (4, .c (.int .i64 (i : Int)))] [(1, .box 41 [.sl 57 a, .sl 116 b])]
noncomputable def HRf (a b : List D) (i : Nat) : Vst 92 := stS 92 [(1, .bx 1 0), (6, .c (.int .i64 (i : Int)))] [(1, .box 41 [.sl 57 a, .sl 116 b])]
set_option maxHeartbeats 8000000 in
set_option maxRecDepth 100000 in
theorem rightF_ac (a b : List D) (hwa : bulkL a ≤ 1000000000) (hwb : bulkL b ≤ 1000000000) : AC EN5 Tryz.prog 32 [.agg [.sl 57 a, .sl 116 b]] (.c (.bool (queR (.obj [.list a, .list b])))) := by
  have hla := bulkL_len a
  have hlb := bulkL_len b
  have hR := queR_all a b
  generalize queR (.obj [.list a, .list b]) = R at hR ⊢
  have e1 : decide ((a.length : Int) + (b.length : Int) < 1) = !decide (1 ≤ a.length + b.length) := by
    rw [Bool.eq_iff_iff]
    simp only [decide_eq_true_eq, Bool.not_eq_true', decide_eq_false_iff_not]
    omega
  have e2 : decide ((a.length : Int) + (b.length : Int) > 64) = !decide (a.length + b.length ≤ 64) := by
    rw [Bool.eq_iff_iff]
    simp only [decide_eq_true_eq, Bool.not_eq_true', decide_eq_false_iff_not]
    omega
  rw [Bool.decide_and] at hR
  refine ac_enter 92 Tryz.func32 rfl rfl rfl rfl ?_
  intro s w he
  repeat' (first
 | refine aw_seq ?_
 | refine aw_region ?_
 | refine awo_nil ?_
 | refine k_seq ?_
 | refine aw_block ?_
 | refine aw_skip ?_
 | (apply s_pick_t rfl rfl
    · conv => lhs; whnf
    · conv => lhs; whnf
    · first | exact bT1 (by assumption) | exact bT2 (by assumption))
 | (apply s_pick_f rfl rfl
    · conv => lhs; whnf
    · conv => lhs; whnf
    · first | exact bF1 (by assumption) | exact bF2 (by assumption))
 | (apply s_val rfl
    · conv => lhs; whnf
    · conv => lhs; whnf; arg 2; whnf)
 | (apply s_box rfl rfl rfl rfl
    · conv => lhs; whnf; arg 1; whnf
    · rfl)
 | (apply s_wanted_val rfl
    · conv => lhs; whnf
    · conv => lhs; whnf
    · first | rfl | assumption
    · conv => lhs; whnf; arg 2; whnf)
 | (apply s_skipU rfl
    · conv => lhs; whnf
    · conv => lhs; whnf
    · first | rfl | assumption)
 | (apply s_guard_valU rfl
    · conv => lhs; whnf
    · conv => lhs; whnf
    · conv => lhs; whnf; arg 2; whnf)
 | (apply aw_cond_t
    · conv => lhs; whnf; arg 1; arg 1; whnf)
 | (refine aw_cond (by conv => lhs; whnf) ?_ ?_ <;> intro hb)
 | refine aw_ret ?_
 | refine k_seq_ret ?_
 | refine k_end_ret ?_
 | (refine ⟨_, by conv => lhs; whnf; arg 2; whnf, ?_⟩; conv => rhs; whnf)
 | exact trivial
 | intro hg)
  · simp only [e1, e2] at *
    generalize decide (a.length + b.length ≤ 64) = x at *
    simp_all
  · have hR2 : R = (allI opR a a.length 0 && allI fragR b b.length 0) := by
      simp only [e1, e2] at *
      simp_all
    clear hR hb hg e1 e2
    refine aw_loop (fun j st => ∃ i, i + j = a.length ∧ R = (allI opR a j i && allI fragR b b.length 0) ∧ Sub (cx EN5 Tryz.prog s w he) st (HRo a b i)) a.length ⟨0, by omega, hR2, Sub.live ⟨rfl, rfl, trivial⟩ ⟨rfl, trivial⟩⟩ ?_
    clear hR2
    rintro j st ⟨i, hij, hR, hs2⟩
    refine aw_sub hs2 ?_
    clear hs2
    by_cases hi : i < a.length
    · obtain ⟨j, rfl⟩ : ∃ q, j = q + 1 := ⟨j - 1, by omega⟩
      have f1 : decide ((i : Int) < (a.length : Nat)) = true := decide_eq_true (by omega)
      have b0 := bulkL_get hi
      have b1 := bulkD_wD (gD a i)
      have q1 := wD_f (gD a i) 1; have q1' := wD_str ((gD a i).f 1)
      have q2 := wD_f (gD a i) 2; have q2' := wD_list ((gD a i).f 2)
      have q3 := wD_f (gD a i) 3; have q3' := wD_list ((gD a i).f 3)
      have h1 := nameF_ac ((gD a i).f 1).s (by omega)
      have h2 := varsF_ac ((gD a i).f 2).l (by omega)
      have h3 := setF_ac ((gD a i).f 3).l (by omega)
      have g1 : decide (((gD a i).f 0).n < 1) = !decide (1 ≤ ((gD a i).f 0).n) := by
        rw [Bool.eq_iff_iff]
        simp only [decide_eq_true_eq, Bool.not_eq_true', decide_eq_false_iff_not]
        omega
      have g2 : decide (((gD a i).f 0).n > 3) = !decide (((gD a i).f 0).n ≤ 3) := by
        rw [Bool.eq_iff_iff]
        simp only [decide_eq_true_eq, Bool.not_eq_true', decide_eq_false_iff_not]
        omega
      have g4 := noneS_is ((gD a i).f 1).s
      have hR' : R = ((decide (1 ≤ ((gD a i).f 0).n) && decide (((gD a i).f 0).n ≤ 3)) && (noneS ((gD a i).f 1).s || nameB ((gD a i).f 1).s) && varsR ((gD a i).f 2).l && setR ((gD a i).f 3).l && allI opR a j (i + 1) && allI fragR b b.length 0) := by
        have hop : opR (gD a i) = ((decide (1 ≤ ((gD a i).f 0).n) && decide (((gD a i).f 0).n ≤ 3)) && (noneS ((gD a i).f 1).s || nameB ((gD a i).f 1).s) && varsR ((gD a i).f 2).l && setR ((gD a i).f 3).l) := by
          rw [← Bool.decide_and]
          unfold opR varsR
          simp only [Bool.and_assoc]
        rw [hR, ← hop]; rfl
      clear hR b0 b1 q1 q1' q2 q2' q3 q3'
      repeat' (first
 | (apply s_wpick_t rfl rfl rfl
    · conv => lhs; whnf
    · first | rfl | assumption
    · conv => lhs; whnf
    · first | exact bT1 (by assumption) | exact bT2 (by assumption) | rfl)
 | (apply s_wpick_f rfl rfl rfl
    · conv => lhs; whnf
    · first | rfl | assumption
    · conv => lhs; whnf
    · first | exact bF1 (by assumption) | exact bF2 (by assumption) | rfl)
 | (apply aw_cond_kt
    · conv => lhs; whnf
    · assumption)
 | refine aw_seq ?_
 | refine aw_region ?_
 | refine awo_nil ?_
 | refine k_seq ?_
 | refine k_block ?_
 | refine aw_block ?_
 | refine aw_skip ?_
 | (apply s_pick_t rfl rfl
    · conv => lhs; whnf
    · conv => lhs; whnf
    · first | exact bT1 (by assumption) | exact bT2 (by assumption))
 | (apply s_pick_f rfl rfl
    · conv => lhs; whnf
    · conv => lhs; whnf
    · first | exact bF1 (by assumption) | exact bF2 (by assumption))
 | (apply s_val rfl
    · conv => lhs; whnf
    · conv => lhs; whnf; arg 2; whnf)
 | (apply s_alloc rfl rfl rfl rfl
    · conv => lhs; whnf; arg 1; whnf
    · rfl)
 | (apply s_store rfl rfl rfl
    · conv => lhs; whnf
    · conv => lhs; whnf; arg 1; whnf
    · conv => lhs; whnf; arg 1; whnf
    · exact ⟨by kernel_rfl, by kernel_rfl⟩
    · rfl)
 | (apply s_wanted_val rfl
    · conv => lhs; whnf
    · conv => lhs; whnf
    · first | rfl | assumption
    · conv => lhs; whnf; arg 2; whnf)
 | (apply s_wanted_call rfl
    · conv => lhs; whnf
    · conv => lhs; whnf
    · first | rfl | assumption
    · conv => lhs; whnf
    · first | exact h1 | exact h2 | exact h3)
 | (apply s_skipU rfl
    · conv => lhs; whnf
    · conv => lhs; whnf
    · first | rfl | assumption)
 | (apply s_dead rfl
    · conv => lhs; whnf
    · rfl
    · rfl)
 | (apply s_guard_valU rfl
    · conv => lhs; whnf
    · conv => lhs; whnf
    · conv => lhs; whnf; arg 2; whnf)
 | (apply aw_cond_t
    · conv => lhs; whnf; arg 1; arg 1; whnf)
 | (refine aw_cond (by conv => lhs; whnf) ?_ ?_ <;> intro hb)
 | refine aw_ret ?_
 | refine k_seq_ret ?_
 | refine k_block_ret ?_
 | refine k_loop_ret ?_
 | refine k_end_ret ?_
 | (refine ⟨_, by conv => lhs; whnf; arg 2; whnf, ?_⟩; conv => rhs; whnf)
 | exact trivial
 | intro hg)
      all_goals first
        | exact i64_ok (by omega)
        | exact at_in hi
        | refine congrArg (fun b => V.c (.bool b)) ?_
        | refine k_loop_next (j' := j) (by omega) ⟨i + 1, by omega, ?_, Sub.live ⟨rfl, rfl, trivial⟩ ⟨rfl, trivial⟩⟩
      all_goals
        clear h1 h2 h3
        simp only [Int.toNat_natCast, Nat.reduceAdd, g1, g2, g4] at *
        clear g1 g2 g4
        generalize setR ((gD a i).f 3).l = a1 at *
        generalize varsR ((gD a i).f 2).l = a2 at *
        generalize noneS ((gD a i).f 1).s = a4 at *
        generalize nameB ((gD a i).f 1).s = a5 at *
        generalize decide (((gD a i).f 0).n ≤ 3) = a6 at *
        generalize decide (1 ≤ ((gD a i).f 0).n) = a7 at *
        generalize allI fragR b b.length 0 = a8 at *
        generalize allI opR a j (i + 1) = a9 at *
        clear f1 hi hij he
        simp_all
    · obtain rfl : j = 0 := by omega
      have f1 : decide ((i : Int) < (a.length : Nat)) = false := decide_eq_false (by omega)
      have hR2 : R = allI fragR b b.length 0 := by rw [hR, allI, Bool.true_and]
      clear hR
      repeat' (first
 | (apply aw_cond_kf
    · conv => lhs; whnf
    · assumption)
 | refine aw_seq ?_
 | refine aw_region ?_
 | refine awo_nil ?_
 | refine k_seq ?_
 | refine aw_block ?_
 | (apply s_val rfl
    · conv => lhs; whnf
    · conv => lhs; whnf; arg 2; whnf)
 | refine aw_exit ?_
 | refine k_seq_exit ?_
 | refine k_block_hit rfl ?_
 | refine k_loop_exit ?_
 | exact trivial)
      refine aw_loop (fun j st => ∃ i, i + j = b.length ∧ R = allI fragR b j i ∧ Sub (cx EN5 Tryz.prog s w he) st (HRf a b i)) b.length ⟨0, by omega, hR2, Sub.live ⟨rfl, rfl, trivial⟩ ⟨rfl, trivial⟩⟩ ?_
      clear hR2
      rintro j2 st2 ⟨i2, hij2, hR, hs2⟩
      refine aw_sub hs2 ?_
      clear hs2
      by_cases hi2 : i2 < b.length
      · obtain ⟨j2, rfl⟩ : ∃ q, j2 = q + 1 := ⟨j2 - 1, by omega⟩
        have f2 : decide ((i2 : Int) < (b.length : Nat)) = true := decide_eq_true (by omega)
        have b0 := bulkL_get hi2
        have b1 := bulkD_wD (gD b i2)
        have q0 := wD_f (gD b i2) 0; have q0' := wD_str ((gD b i2).f 0)
        have q1 := wD_f (gD b i2) 1; have q1' := wD_str ((gD b i2).f 1)
        have q2 := wD_f (gD b i2) 2; have q2' := wD_list ((gD b i2).f 2)
        have h1 := titleF_ac ((gD b i2).f 0).s (by omega)
        have h2 := nameF_ac ((gD b i2).f 1).s (by omega)
        have h3 := setF_ac ((gD b i2).f 2).l (by omega)
        have hR' : R = (titleR ((gD b i2).f 0).s && nameB ((gD b i2).f 1).s && setR ((gD b i2).f 2).l && allI fragR b j2 (i2 + 1)) := hR
        clear hR b0 b1 q0 q0' q1 q1' q2 q2'
        repeat' (first
 | (apply aw_cond_kt
    · conv => lhs; whnf
    · assumption)
 | refine aw_seq ?_
 | refine aw_region ?_
 | refine awo_nil ?_
 | refine k_seq ?_
 | refine k_block ?_
 | refine aw_block ?_
 | refine aw_skip ?_
 | (apply s_pick_t rfl rfl
    · conv => lhs; whnf
    · conv => lhs; whnf
    · first | exact bT1 (by assumption) | exact bT2 (by assumption))
 | (apply s_pick_f rfl rfl
    · conv => lhs; whnf
    · conv => lhs; whnf
    · first | exact bF1 (by assumption) | exact bF2 (by assumption))
 | (apply s_val rfl
    · conv => lhs; whnf
    · conv => lhs; whnf; arg 2; whnf)
 | (apply s_call rfl
    · conv => lhs; whnf
    · conv => lhs; whnf
    · first | exact h1 | exact h2 | exact h3)
 | (apply s_alloc rfl rfl rfl rfl
    · conv => lhs; whnf; arg 1; whnf
    · rfl)
 | (apply s_store rfl rfl rfl
    · conv => lhs; whnf
    · conv => lhs; whnf; arg 1; whnf
    · conv => lhs; whnf; arg 1; whnf
    · exact ⟨by kernel_rfl, by kernel_rfl⟩
    · rfl)
 | (apply s_wanted_val rfl
    · conv => lhs; whnf
    · conv => lhs; whnf
    · first | rfl | assumption
    · conv => lhs; whnf; arg 2; whnf)
 | (apply s_wanted_call rfl
    · conv => lhs; whnf
    · conv => lhs; whnf
    · first | rfl | assumption
    · conv => lhs; whnf
    · first | exact h1 | exact h2 | exact h3)
 | (apply s_skipU rfl
    · conv => lhs; whnf
    · conv => lhs; whnf
    · first | rfl | assumption)
 | (apply s_guard_valU rfl
    · conv => lhs; whnf
    · conv => lhs; whnf
    · conv => lhs; whnf; arg 2; whnf)
 | (apply aw_cond_t
    · conv => lhs; whnf; arg 1; arg 1; whnf)
 | (refine aw_cond (by conv => lhs; whnf) ?_ ?_ <;> intro hb)
 | refine aw_ret ?_
 | refine k_seq_ret ?_
 | refine k_block_ret ?_
 | refine k_loop_ret ?_
 | refine k_end_ret ?_
 | (refine ⟨_, by conv => lhs; whnf; arg 2; whnf, ?_⟩; conv => rhs; whnf)
 | exact trivial
 | intro hg)
        all_goals first
          | exact i64_ok (by omega)
          | exact at_in hi2
          | refine congrArg (fun b => V.c (.bool b)) ?_
          | refine k_loop_next (j' := j2) (by omega) ⟨i2 + 1, by omega, ?_, Sub.live ⟨rfl, rfl, trivial⟩ ⟨rfl, trivial⟩⟩
        all_goals
          clear h1 h2 h3
          try simp only [Int.toNat_natCast, Nat.reduceAdd] at *
          generalize titleR ((gD b i2).f 0).s = a1 at *
          generalize nameB ((gD b i2).f 1).s = a2 at *
          generalize setR ((gD b i2).f 2).l = a4 at *
          generalize allI fragR b j2 (i2 + 1) = a8 at *
          clear f2 hi2 hij2 he hi hij f1
          simp_all
      · obtain rfl : j2 = 0 := by omega
        have f2 : decide ((i2 : Int) < (b.length : Nat)) = false := decide_eq_false (by omega)
        repeat' (first
 | (apply aw_cond_kf
    · conv => lhs; whnf
    · assumption)
 | refine aw_seq ?_
 | refine aw_region ?_
 | refine awo_nil ?_
 | refine k_seq ?_
 | (apply s_val rfl
    · conv => lhs; whnf
    · conv => lhs; whnf; arg 2; whnf)
 | refine aw_ret ?_
 | refine aw_exit ?_
 | refine k_seq_exit ?_
 | refine k_block_hit rfl ?_
 | refine k_loop_exit ?_
 | refine k_end_ret ?_
 | (refine ⟨_, by conv => lhs; whnf; arg 2; whnf, ?_⟩; conv => rhs; whnf)
 | exact trivial)
        rw [hR]; rfl
  · simp only [e1, e2] at *
    simp_all
  · exact i64_ok (by omega)
end Go.Proofs.YthjiclhfhjdjpaaGreatDoor
namespace Go.Proofs.YthjiclhfhjdjpaaGreatDoor
def Hr {α : Type} (Q : α → PS → Prop) (r : PR α) : Prop := ∀ v z, r = .ok (v, z) → Q v z
section
variable {α β : Type} {Q : α → PS → Prop} {R : β → PS → Prop}
theorem Hr.okk {v : α} {z : PS} (h : Q v z) : Hr Q (.ok (v, z) : PR α) := fun _ _ e => by cases e; exact h
theorem Hr.err {e : Nat × Int} : Hr Q (.error e : PR α) := fun _ _ h => by cases h
theorem Hr.ite {c : Prop} [Decidable c] {a b : PR α} (h1 : c → Hr Q a) (h2 : ¬ c → Hr Q b) : Hr Q (if c then a else b) := by
  split
  · exact h1 (by assumption)
  · exact h2 (by assumption)
theorem Hr.then {r : PR α} {f : α → PS → PR β} (h : Hr Q r) (hf : ∀ a x, Q a x → Hr R (f a x)) : Hr R (thenQ r f) := by
  cases hr : r with
  | error e =>
    rw [then_err (r := .error e) rfl]
    exact .err
  | ok p =>
    obtain ⟨a, x⟩ := p
    rw [then_ok (r := .ok (a, x)) rfl]
    exact hf a x (h a x hr)
theorem Hr.mono {r : PR α} {Q' : α → PS → Prop} (h : Hr Q r) (hq : ∀ a x, Q a x → Q' a x) : Hr Q' r := fun v z e => hq v z (h v z e)
end
/-- a name's token holds a name; kinds -/
def GT (x : PS) : Prop := ∀ t ∈ x.ts, (t.k = 2 → nameB ⟨t.s.toArray⟩ = true) ∧ 1 ≤ t.k ∧ t.k ≤ 5
theorem GT.nx {x : PS} (h : GT x) : GT (nxT x) := fun t ht => by
  unfold nxT at ht
  split at ht
  · exact h t ht
  · exact h t (List.mem_of_mem_drop ht)
theorem nx_vr (x : PS) : (nxT x).vr = x.vr := by unfold nxT; split <;> rfl
theorem nx_nd2 (x : PS) : (nxT x).nd = x.nd := by unfold nxT; split <;> rfl
theorem GT.hd {x : PS} (h : GT x) : ((hdT x).k = 2 → nameB ⟨(hdT x).s.toArray⟩ = true) ∧ 1 ≤ (hdT x).k ∧ (hdT x).k ≤ 5 := by
  unfold hdT
  cases hx : x.ts with
  | nil => exact ⟨fun h => absurd h (by decide), by decide, by decide⟩
  | cons t r => exact h t (by rw [hx]; exact List.mem_cons_self ..)
/-- what a reader keeps -/
structure Pv (x z : PS) : Prop where
  gt : GT z
  vr : z.vr = x.vr
theorem Pv.trans {x y z : PS} (h1 : Pv x y) (h2 : Pv y z) : Pv x z := ⟨h2.gt, h2.vr.trans h1.vr⟩
theorem GT.pv {x : PS} (h : GT x) : Pv x x := ⟨h, rfl⟩
theorem GT.pvn {x : PS} (h : GT x) : Pv x (nxT x) := ⟨h.nx, nx_vr x⟩
theorem Pv.nx {x y : PS} (h : Pv x y) : Pv x (nxT y) := h.trans h.gt.pvn
theorem take_rt {s : List UInt8} {x : PS} (h : GT x) : Hr (fun _ z => Pv x z ∧ z.nd = x.nd) (takeQ s x) := by
  unfold takeQ
  exact .ite (fun _ => .okk ⟨h.pvn, nx_nd2 x⟩) fun _ => .err
theorem name_rt {x : PS} (h : GT x) : Hr (fun n z => nameB ⟨n.toArray⟩ = true ∧ Pv x z ∧ z.nd = x.nd) (nameQ x) := by
  unfold nameQ
  exact .ite (fun hk => .okk ⟨h.hd.1 hk, h.pvn, nx_nd2 x⟩) fun _ => .err
theorem open_rt : ∀ (f : Nat) {x : PS}, GT x → Pv x (openQ f x).2
  | 0, x, h => h.pv
  | f + 1, x, h => by
    unfold openQ
    by_cases hs : isS x [91] = true
    · rw [if_pos hs]
      exact h.pvn.trans (open_rt f h.nx)
    · rw [if_neg hs]; exact h.pv
theorem wraps_cons1 {w : List Int} (h : wrapsR w = true) (hh : w.head? ≠ some 1) : wrapsR (1 :: w) = true := by
  cases w with
  | nil => rfl
  | cons v r =>
    have hv : v ≠ 1 := fun e => hh (by rw [e]; rfl)
    simp [wrapsR, hv]
    exact h
theorem wraps_cons2 {w : List Int} (h : wrapsR w = true) : wrapsR (2 :: w) = true := by
  cases w with
  | nil => rfl
  | cons v r => simpa [wrapsR] using h
theorem close_rt : ∀ (n : Nat) (w : List Int) {x : PS}, GT x → wrapsR w = true → w.head? ≠ some 1 → Hr (fun v z => wrapsR v = true ∧ Pv x z) (closeQ n w x)
  | 0, w, x, h, hw, hh => by
    unfold closeQ
    by_cases hs : isS x [33] = true
    · rw [if_pos hs]; exact .okk ⟨wraps_cons1 hw hh, h.pvn⟩
    · rw [if_neg hs]; exact .okk ⟨hw, h.pv⟩
  | n + 1, w, x, h, hw, hh => by
    unfold closeQ
    by_cases hs : isS x [33] = true
    · rw [if_pos hs, if_pos hs]
      exact .then (take_rt h.nx) fun _ y hy => (close_rt n _ hy.1.gt (wraps_cons2 (wraps_cons1 hw hh)) (fun h => by simp at h)).mono fun v z hv => ⟨hv.1, (h.pvn.trans hy.1).trans hv.2⟩
    · rw [if_neg hs, if_neg hs]
      exact .then (take_rt h) fun _ y hy => (close_rt n _ hy.1.gt (wraps_cons2 hw) (fun h => by simp at h)).mono fun v z hv => ⟨hv.1, hy.1.trans hv.2⟩
theorem map_n (w : List Int) : (w.map D.int).map D.n = w := by
  rw [List.map_map]
  exact (List.map_congr_left fun x _ => rfl).trans (List.map_id w)
theorem typ_rt {x : PS} (h : GT x) : Hr (fun t z => refR t = true ∧ Pv x z) (typQ x) := by
  have ho := open_rt x.ts.length h
  refine .then (Q := fun t z => nameB ⟨t.1.toArray⟩ = true ∧ wrapsR t.2 = true ∧ Pv x z) (.then (name_rt ho.gt) fun n y hn => .then (close_rt _ [] hn.2.1.gt rfl (by decide)) fun w z hw => .okk ⟨hn.1, hw.1, (ho.trans hn.2.1).trans hw.2⟩) fun t z ht => .ite (fun _ => .err) fun hl => .okk ⟨?_, ht.2.2⟩
  show (nameB ⟨t.1.toArray⟩ && decide ((t.2.map D.int).length ≤ 24) && wrapsR ((t.2.map D.int).map D.n)) = true
  rw [map_n, ht.1, ht.2.1, List.length_map, decide_eq_true (by omega)]
  rfl
structure VOk (lv : Nat) (vr : Bool) (n0 : Nat) (v : D) (n1 : Nat) : Prop where
  sz : ∀ k, Dp k v → sizeR k v + n0 = n1
  dp : ∀ k, Dp k v → depthR k v + lv ≤ 25
  ev : ∀ k, Dp k v → everyL k v = true
  br : vr = false → ∀ k, Dp k v → bareR k v = true
structure CH (lv : Nat) (vr : Bool) (n0 : Nat) (l : List D) (n1 : Nat) : Prop where
  sz : ∀ k, (∀ i, i < l.length → Dp k (gD l i)) → sumN (fun i => sizeR k (gD l i)) l.length + n0 = n1
  dp : ∀ i, i < l.length → ∀ k, Dp k (gD l i) → depthR k (gD l i) + lv ≤ 25
  ev : ∀ i, i < l.length → ∀ k, Dp k (gD l i) → everyL k (gD l i) = true
  br : vr = false → ∀ i, i < l.length → ∀ k, Dp k (gD l i) → bareR k (gD l i) = true
theorem CH.nil {lv : Nat} {vr : Bool} {n : Nat} : CH lv vr n [] n :=
  ⟨fun k _ => by simp [sumN], fun i hi => absurd hi (Nat.not_lt_zero i), fun i hi => absurd hi (Nat.not_lt_zero i), fun _ i hi => absurd hi (Nat.not_lt_zero i)⟩
theorem gD_lst (l : List D) (v : D) : gD (l ++ [v]) l.length = v := by unfold gD; simp
theorem gD_l {l : List D} {v : D} {i : Nat} (h : i < l.length) : gD (l ++ [v]) i = gD l i := by
  unfold gD; rw [List.getD_eq_getElem?_getD, List.getElem?_append_left h, ← List.getD_eq_getElem?_getD]
theorem snoc_at {l : List D} {v : D} {p : D → Prop} (h1 : ∀ i, i < l.length → p (gD l i)) (h2 : p v) : ∀ i, i < (l ++ [v]).length → p (gD (l ++ [v]) i) := fun i hi => by
  rw [List.length_append, List.length_singleton] at hi
  rcases Nat.lt_or_ge i l.length with h | h
  · rw [gD_l h]; exact h1 i h
  · obtain rfl : i = l.length := by omega
    rw [gD_lst]; exact h2
theorem sumN_congr {f g : Nat → Nat} : ∀ {n : Nat}, (∀ i, i < n → f i = g i) → sumN f n = sumN g n
  | 0, _ => rfl
  | n + 1, h => by rw [sumN, sumN, sumN_congr fun i hi => h i (by omega), h n (by omega)]
theorem CH.snoc {lv : Nat} {vr : Bool} {n0 n1 n2 : Nat} {l : List D} {v : D} (h : CH lv vr n0 l n1) (hv : VOk lv vr n1 v n2) : CH lv vr n0 (l ++ [v]) n2 where
  sz k hk := by
    have h1 := h.sz k fun i hi => by have := hk i (by simp; omega); rwa [gD_l hi] at this
    have h2 := hv.sz k (by have := hk l.length (by simp); rwa [gD_lst] at this)
    rw [List.length_append, List.length_singleton, sumN, gD_lst, sumN_congr (g := fun i => sizeR k (gD l i)) fun i hi => by rw [gD_l hi]]
    omega
  dp := snoc_at (p := fun d => ∀ k, Dp k d → depthR k d + lv ≤ 25) h.dp hv.dp
  ev := snoc_at (p := fun d => ∀ k, Dp k d → everyL k d = true) h.ev hv.ev
  br hb := snoc_at (p := fun d => ∀ k, Dp k d → bareR k d = true) (h.br hb) (hv.br hb)
theorem any_false {p : D → Bool} {l : List D} (h : ∀ i, i < l.length → p (gD l i) = true) : (l.any fun x => !p x) = false := by
  rw [Bool.eq_false_iff]
  intro hc
  obtain ⟨x, hx, hp⟩ := List.any_eq_true.1 hc
  obtain ⟨i, hi, rfl⟩ := List.getElem_of_mem hx
  have := h i hi
  rw [gD, List.getD_eq_getElem?_getD, List.getElem?_eq_getElem hi] at this
  rw [show p l[i] = true from this] at hp
  cases hp
theorem node_VOk {lv n0 n1 : Nat} {vr : Bool} {v : D} (hn : nodeL v = true) (h7 : vr = false → (v.f 0).n ≠ 7) (hlv : lv ≤ 24) (hc : CH (lv + 1) vr (n0 + 1) (v.f 3).l n1) : VOk lv vr n0 v n1 where
  sz k hk := by
    cases k with
    | zero => exact hk.elim
    | succ k =>
      have := hc.sz k hk
      show 1 + sumN (fun i => sizeR k (gD (v.f 3).l i)) (v.f 3).l.length + n0 = n1
      omega
  dp k hk := by
    cases k with
    | zero => exact hk.elim
    | succ k =>
      have : maxN (fun i => depthR k (gD (v.f 3).l i)) (v.f 3).l.length ≤ 24 - lv := maxN_le fun i hi => by
        have := hc.dp i hi k (hk i hi)
        omega
      show maxN (fun i => depthR k (gD (v.f 3).l i)) (v.f 3).l.length + 1 + lv ≤ 25
      omega
  ev k hk := by
    cases k with
    | zero => exact hk.elim
    | succ k =>
      show (nodeL v && !((v.f 3).l.any fun x => !everyL k x)) = true
      rw [hn, any_false fun i hi => hc.ev i hi k (hk i hi)]; rfl
  br hb k hk := by
    cases k with
    | zero => exact hk.elim
    | succ k =>
      show (!((v.f 0).n == 7) && !((v.f 3).l.any fun x => !bareR k x)) = true
      rw [any_false fun i hi => hc.br hb i hi k (hk i hi)]
      have : ((v.f 0).n == 7) = false := by simpa using h7 hb
      rw [this]; rfl
section
variable {val : PS → PR D} {lv n0 : Nat} {vr : Bool} (hv : ∀ y, GT y → y.vr = vr → y.nd ≤ 4096 → Hr (fun v z => Pv y z ∧ VOk lv vr y.nd v z.nd ∧ z.nd ≤ 4096) (val y))
include hv
theorem items_rt : ∀ (f : Nat) (acc : List D) {x : PS}, GT x → x.vr = vr → x.nd ≤ 4096 → CH lv vr n0 acc x.nd → Hr (fun l z => Pv x z ∧ CH lv vr n0 l z.nd ∧ z.nd ≤ 4096) (itemsQ val f acc x)
  | 0, _, _, _, _, _, _ => .err
  | f + 1, acc, x, h, hx, hnd, hc => by
    unfold itemsQ
    refine .ite (fun _ => .okk ⟨h.pvn, by rw [nx_nd2]; exact hc, by rw [nx_nd2]; exact hnd⟩) fun _ => .then (hv x h hx hnd) fun a y hy => ?_
    exact (items_rt f _ hy.1.gt (hy.1.vr.trans hx) hy.2.2 (hc.snoc hy.2.1)).mono fun l z hz => ⟨hy.1.trans hz.1, hz.2⟩
theorem fields_rt : ∀ (f : Nat) (ks : List (List UInt8)) (acc : List D) {x : PS}, GT x → x.vr = vr → x.nd ≤ 4096 → CH lv vr n0 acc x.nd → (∀ k ∈ ks, nameB ⟨k.toArray⟩ = true) → ks.Nodup → ks.length = acc.length →
    Hr (fun p z => Pv x z ∧ CH lv vr n0 p.2 z.nd ∧ z.nd ≤ 4096 ∧ (∀ k ∈ p.1, nameB ⟨k.toArray⟩ = true) ∧ p.1.Nodup ∧ p.1.length = p.2.length) (fieldsQ val f ks acc x)
  | 0, _, _, _, _, _, _, _, _, _, _ => .err
  | f + 1, ks, acc, x, h, hx, hnd, hc, hk, hd, hl => by
    unfold fieldsQ
    refine .ite (fun _ => .okk ⟨h.pvn, by rw [nx_nd2]; exact hc, by rw [nx_nd2]; exact hnd, hk, hd, hl⟩) fun _ => .then (name_rt h) fun k y hy => .ite (fun _ => .err) fun hks => .then (take_rt hy.2.1.gt) fun _ z hz => ?_
    have hxz := hy.2.1.trans hz.1
    have hn : z.nd = x.nd := hz.2.trans hy.2.2
    refine .then (hv z hz.1.gt (hxz.vr.trans hx) (by omega)) fun a u hu => ?_
    rw [hn] at hu
    have hks' : k ∉ ks := fun hm => hks (List.contains_iff_mem.2 hm)
    refine (fields_rt f _ _ hu.1.gt ((hxz.trans hu.1).vr.trans hx) hu.2.2 (hc.snoc hu.2.1) (fun q hq => ?_) ?_ (by simp [hl])).mono fun l w hw => ⟨(hxz.trans hu.1).trans hw.1, hw.2⟩
    · rcases List.mem_append.1 hq with hq | hq
      · exact hk q hq
      · rw [List.mem_singleton] at hq; subst hq; exact hy.1
    · rw [List.nodup_append]
      refine ⟨hd, by simp, fun a ha b hb => ?_⟩
      rw [List.mem_singleton] at hb
      subst hb
      exact fun e => hks' (e ▸ ha)
end
theorem strsR_val (k n : Int) (s : List UInt8) (items : List D) (keys : List (List UInt8)) : strsR (valD k n s items keys) = keys := by
  show (keys.map strD).map (fun x => x.s.data.toList) = keys
  rw [List.map_map]
  exact (List.map_congr_left fun x _ => rfl).trans (List.map_id keys)
theorem keys_names {keys : List (List UInt8)} (h : ∀ k ∈ keys, nameB ⟨k.toArray⟩ = true) : ((keys.map strD).any fun x => !nameB x.s) = false := by
  rw [Bool.eq_false_iff]
  intro hc
  obtain ⟨x, hx, hp⟩ := List.any_eq_true.1 hc
  obtain ⟨k, hk, rfl⟩ := List.mem_map.1 hx
  rw [show nameB (strD k).s = true from h k hk] at hp
  cases hp
theorem word_node {s : List UInt8} (h : nameB ⟨s.toArray⟩ = true) : nodeL (wordV s) = true ∧ ((wordV s).f 3).l = [] ∧ ((wordV s).f 0).n ≠ 7 := by
  unfold wordV nullD
  split
  · exact ⟨by decide, rfl, by decide⟩
  · split
    · exact ⟨by decide, rfl, by decide⟩
    · split
      · exact ⟨by decide, rfl, by decide⟩
      · rename_i h1 h2 h3
        refine ⟨?_, rfl, by show (4 : Int) ≠ 7; decide⟩
        rw [← nodeD_L]
        have e : nodeD (valD 4 0 s [] []) = enumR ⟨s.toArray⟩ := by
          unfold nodeD nodeF
          show (if (4 : Int) = 0 then _ else if (4 : Int) = 1 then _ else if (4 : Int) = 2 then _ else if (4 : Int) = 3 then _ else if (4 : Int) = 4 then ((0 : Int) == 0 && (0 : Nat) == 0 && (0 : Nat) == 0 && enumR ⟨s.toArray⟩) else _) = _
          simp
        rw [e]
        unfold enumR
        rw [h]
        have a1 : (((⟨s.toArray⟩ : ByteArray).data.toList) == [116, 114, 117, 101]) = false := by simpa using h1
        have a2 : (((⟨s.toArray⟩ : ByteArray).data.toList) == [102, 97, 108, 115, 101]) = false := by simpa using h2
        have a3 : (((⟨s.toArray⟩ : ByteArray).data.toList) == [110, 117, 108, 108]) = false := by simpa using h3
        rw [a1, a2, a3]
        rfl
theorem value_rt : ∀ (f lv : Nat) {x : PS}, GT x → x.nd ≤ 4096 → Hr (fun v z => Pv x z ∧ VOk lv x.vr x.nd v z.nd ∧ z.nd ≤ 4096) (valueQ f lv x)
  | 0, _, _, _, _ => .err
  | f + 1, lv, x, h, hnd => by
    have ih : ∀ y, GT y → y.vr = x.vr → y.nd ≤ 4096 → Hr (fun v z => Pv y z ∧ VOk (lv + 1) x.vr y.nd v z.nd ∧ z.nd ≤ 4096) (valueQ f (lv + 1) y) := fun y hy hvr hn => by rw [← hvr]; exact value_rt f (lv + 1) hy hn
    have hy : GT { nxT x with nd := x.nd + 1 } := h.nx
    have pvy : Pv x { nxT x with nd := x.nd + 1 } := ⟨h.nx, nx_vr x⟩
    unfold valueQ
    refine .ite (fun _ => .err) fun hno => .ite (fun _ => .err) fun hlv => .ite (fun _ => .err) fun hn => ?_
    dsimp only
    refine .ite (fun _ => .okk ⟨pvy, ?_, ?_⟩) fun k3 => .ite (fun _ => .okk ⟨pvy, ?_, ?_⟩) fun k4 => .ite (fun hk => .okk ⟨pvy, ?_, ?_⟩) fun k2 => .ite (fun hd => .then (name_rt hy) fun n z hz => .okk ⟨pvy.trans hz.2.1, ?_, ?_⟩) fun _ =>
      .ite (fun _ => .then (items_rt ih _ [] hy (nx_vr x) (by show x.nd + 1 ≤ 4096; omega) CH.nil) fun l z hz => .okk ⟨pvy.trans hz.1, ?_, hz.2.2⟩) fun _ =>
      .then (fields_rt ih _ [] [] hy (nx_vr x) (by show x.nd + 1 ≤ 4096; omega) CH.nil (fun k hk => by cases hk) List.nodup_nil rfl) fun p z hz => .okk ⟨pvy.trans hz.1, ?_, hz.2.2.1⟩
    · refine node_VOk ?_ (fun _ => by show (2 : Int) ≠ 7; decide) (by omega) CH.nil
      rw [← nodeD_L]; simp [nodeD, nodeF, valD, strD, D.f, gD, D.n, D.s, D.l]
    · show x.nd + 1 ≤ 4096; omega
    · refine node_VOk ?_ (fun _ => by show (3 : Int) ≠ 7; decide) (by omega) CH.nil
      rw [← nodeD_L]; simp [nodeD, nodeF, valD, strD, D.f, gD, D.n, D.s, D.l]
    · show x.nd + 1 ≤ 4096; omega
    · have hw := word_node (h.hd.1 hk)
      exact node_VOk hw.1 (fun _ => hw.2.2) (by omega) (by rw [hw.2.1]; exact CH.nil)
    · show x.nd + 1 ≤ 4096; omega
    · have hkd := h.hd.2
      have hk1 : (hdT x).k = 1 := by
        have h5 : (hdT x).k ≠ 5 := fun e => hno (by unfold noVal; simp [e])
        omega
      have hvr : x.vr = true := by
        cases hvx : x.vr with
        | true => rfl
        | false =>
          exfalso
          refine hno ?_
          unfold noVal isS
          rw [hk1, hd, hvx]
          rfl
      rw [show z.nd = x.nd + 1 from hz.2.2]
      refine node_VOk ?_ (fun hb => by rw [hvr] at hb; cases hb) (by omega) CH.nil
      rw [← nodeD_L]
      have : nameB (strD n).s = true := hz.1
      have this2 : nameB ⟨n.toArray⟩ = true := hz.1
      simp [nodeD, nodeF, valD, strD, D.f, gD, D.n, D.s, D.l, this2]
    · rw [show z.nd = x.nd + 1 from hz.2.2]; omega
    · refine node_VOk ?_ (fun _ => by show (5 : Int) ≠ 7; decide) (by omega) hz.2.1
      rw [← nodeD_L]; simp [nodeD, nodeF, valD, strD, D.f, gD, D.n, D.s, D.l]
    · refine node_VOk ?_ (fun _ => by show (6 : Int) ≠ 7; decide) (by omega) hz.2.1
      obtain ⟨-, -, -, q1, q2, q3⟩ := hz
      rw [← nodeD_L]
      have e1 : nodeD (valD 6 0 [] p.2 p.1) = true := by
        unfold nodeD nodeF
        rw [strsR_val]
        show (if (6 : Int) = 0 then _ else if (6 : Int) = 1 then _ else if (6 : Int) = 2 then _ else if (6 : Int) = 3 then _ else if (6 : Int) = 4 then _ else if (6 : Int) = 5 then _ else if (6 : Int) = 6 then ((0 : Int) == 0 && ((strD []).s.data.toList == []) && (p.1.map strD).length == p.2.length && decide p.1.Nodup) else _) = true
        simp [q2, q3, strD, D.s]
      rw [e1, Bool.true_and]
      show (!((p.1.map strD).any fun x => !nameB x.s)) = true
      rw [keys_names q1]; rfl
theorem whole_rt {x : PS} (h : GT x) : Hr (fun v z => Pv x z ∧ litR v = true ∧ (x.vr = false → bareR (bulkD v) v = true)) (wholeQ x) := by
  have h0 : GT { x with nd := 0 } := h
  refine (value_rt 25 1 h0 (Nat.zero_le _)).mono fun v z hz => ⟨⟨hz.1.gt, hz.1.vr⟩, ?_, fun hb => hz.2.1.br hb _ (dp_bulk _ _ (Nat.le_refl _))⟩
  have hd := dp_bulk (bulkD v) v (Nat.le_refl _)
  have h1 := hz.2.1.sz _ hd
  have h2 := hz.2.1.dp _ hd
  have h3 := hz.2.1.ev _ hd
  have h1 : sizeR (bulkD v) v + 0 = z.nd := h1
  unfold litR
  rw [h3, decide_eq_true (show sizeR (bulkD v) v ≤ 4096 by have := hz.2.2; omega), decide_eq_true (show depthR (bulkD v) v ≤ 24 by omega)]
  rfl
def Al (p : D → Bool) (l : List D) : Prop := ∀ i, i < l.length → p (gD l i) = true
theorem Al.nil {p : D → Bool} : Al p [] := fun i hi => absurd hi (Nat.not_lt_zero i)
theorem Al.snoc {p : D → Bool} {l : List D} {v : D} (h : Al p l) (hv : p v = true) : Al p (l ++ [v]) := snoc_at (p := fun d => p d = true) h hv
theorem al_any {p : D → Bool} {l : List D} (h : Al p l) : (!(l.any fun x => !p x)) = true := by rw [any_false h]; rfl
theorem hd_k2 {x : PS} {s : List UInt8} {n : List UInt8} {z : PS} (h : nameQ x = .ok (n, z)) : (hdT x).k = 2 := by
  unfold nameQ at h
  split at h
  · assumption
  · cases h
theorem Hr.name {β : Type} {R : β → PS → Prop} {x : PS} {f : List UInt8 → PS → PR β} (h : GT x) (hf : ∀ n z, (hdT x).k = 2 → nameB ⟨n.toArray⟩ = true → Pv x z → Hr R (f n z)) : Hr R (thenQ (nameQ x) f) := by
  by_cases hk : (hdT x).k = 2
  · exact .then (name_rt h) fun n z hz => hf n z hk hz.1 hz.2.1
  · unfold nameQ
    rw [if_neg hk]
    exact .err
theorem argsF_rt : ∀ (f : Nat) (acc : List D) {x : PS}, GT x → Al argR acc → acc.length ≤ 16 → Hr (fun l z => Pv x z ∧ Al argR l ∧ l.length ≤ 16) (argsF f acc x)
  | 0, _, _, _, _, _ => .err
  | f + 1, acc, x, h, ha, hl => by
    unfold argsF
    refine .ite (fun _ => .okk ⟨h.pvn, ha, hl⟩) fun _ => .ite (fun _ => .err) fun hlim => .name h fun n y hk hn hy => .then (take_rt hy.gt) fun _ z hz => .then (whole_rt hz.1.gt) fun v u hu => ?_
    have hl2 : acc.length < 16 := Nat.lt_of_not_le fun h16 => hlim ⟨hk, h16⟩
    have hv : argR (argD n v) = true := by
      show (nameB ⟨n.toArray⟩ && litR v) = true
      rw [hn, hu.2.1]; rfl
    exact (argsF_rt f _ hu.1.gt (ha.snoc hv) (by simp; omega)).mono fun l w hw => ⟨((hy.trans hz.1).trans hu.1).trans hw.1, hw.2⟩
theorem args_rt {x : PS} (h : GT x) : Hr (fun l z => Pv x z ∧ argsR l = true ∧ l.length ≤ 16) (argsQ x) := by
  unfold argsQ
  refine .ite (fun _ => (argsF_rt _ [] h.nx Al.nil (by decide)).mono fun l z hz => ⟨h.pvn.trans hz.1, ?_, hz.2.2⟩) fun _ => .okk ⟨h.pv, rfl, by decide⟩
  unfold argsR
  rw [al_any hz.2.1, decide_eq_true hz.2.2]; rfl
theorem dirsF_rt : ∀ (f : Nat) (acc : List D) {x : PS}, GT x → Al dirR acc → acc.length ≤ 16 → Hr (fun l z => Pv x z ∧ Al dirR l ∧ l.length ≤ 16) (dirsF f acc x)
  | 0, _, _, _, _, _ => .err
  | f + 1, acc, x, h, ha, hl => by
    unfold dirsF
    refine .ite (fun _ => .ite (fun _ => .err) fun hlim => .then (name_rt h.nx) fun n y hy => .then (args_rt hy.2.1.gt) fun aa z hz => ?_) fun _ => .okk ⟨h.pv, ha, hl⟩
    have hv : dirR (dirD n aa) = true := by
      show (nameB ⟨n.toArray⟩ && argsR aa) = true
      rw [hy.1, hz.2.1]; rfl
    exact (dirsF_rt f _ hz.1.gt (ha.snoc hv) (by simp; omega)).mono fun l w hw => ⟨((h.pvn.trans hy.2.1).trans hz.1).trans hw.1, hw.2⟩
theorem dirs_rt {x : PS} (h : GT x) : Hr (fun l z => Pv x z ∧ dirsR l = true) (dirsQ x) := by
  refine (dirsF_rt _ [] h Al.nil (by decide)).mono fun l z hz => ⟨hz.1, ?_⟩
  unfold dirsR
  rw [al_any hz.2.1, decide_eq_true hz.2.2]; rfl
/-- a selection of a level is right -/
def SO (lv : Nat) (d : D) : Prop := ∀ k, bulkD d ≤ k → selR k lv d = true
def SL (lv : Nat) (l : List D) : Prop := 1 ≤ l.length ∧ l.length ≤ 64 ∧ lv ≤ 24 ∧ ∀ i, i < l.length → SO lv (gD l i)
theorem sels_bk {k lv : Nat} {l : List D} (h : SL lv l) (hk : bulkL l ≤ k) : selsR (selR k lv) l 1 lv = true := by
  unfold selsR
  rw [al_any (p := selR k lv) fun i hi => h.2.2.2 i hi k (by have := bulkL_get hi; omega), decide_eq_true h.1, decide_eq_true h.2.1, decide_eq_true h.2.2.1]
  simp
theorem sel_items {k : Nat} {d : D} (h : bulkD d ≤ k + 1) : bulkL (d.f 6).l ≤ k := by
  have h0 := bulkD_wD d
  have h6 := wD_f d 6
  have h6' := wD_list (d.f 6)
  omega
theorem SO.mk {lv : Nat} {d : D} (h : ∀ k, bulkL (d.f 6).l ≤ k → selR (k + 1) lv d = true) : SO lv d := fun k hk => by
  cases k with
  | zero => have := bulkD_pos d; omega
  | succ k => exact h k (sel_items hk)
theorem title_ok {n : List UInt8} (h : nameB ⟨n.toArray⟩ = true) (ho : n ≠ onT) : titleR ⟨n.toArray⟩ = true := by
  unfold titleR
  rw [h]
  have : (((⟨n.toArray⟩ : ByteArray).data.toList) == [111, 110]) = false := by
    rw [beq_eq_false_iff_ne]; exact ho
  rw [this]; rfl
theorem sel_rt {lv : Nat} {v : PS → PR (List D)} (hv : ∀ y, GT y → Hr (fun l z => Pv y z ∧ SL (lv + 1) l) (v y)) {x : PS} (h : GT x) : Hr (fun d z => Pv x z ∧ SO lv d) (selQ v x) := by
  unfold selQ
  refine .ite (fun hs => ?_) fun _ => ?_
  · dsimp only
    refine .ite (fun hk => .then (dirs_rt h.nx.nx) fun ds z hz => .okk ⟨(h.pvn.nx).trans hz.1, .mk fun k _ => ?_⟩) fun _ => ?_
    · have ht := title_ok (h.nx.hd.1 hk.1) hk.2
      show (true && dirsR ds && (if (2 : Int) = 1 then _ else if (2 : Int) = 2 then (noneS ⟨([] : List UInt8).toArray⟩ && noneS ⟨([] : List UInt8).toArray⟩ && decide ((0 : Nat) = 0) && decide ((0 : Nat) = 0) && titleR ⟨(hdT (nxT x)).s.toArray⟩) else _)) = true
      rw [hz.2, ht]
      rfl
    · refine .then (Q := fun on z => (on = [] ∨ nameB ⟨on.toArray⟩ = true) ∧ Pv x z) (.ite (fun _ => (name_rt h.nx.nx).mono fun n z hz => ⟨.inr hz.1, (h.pvn.nx).trans hz.2.1⟩) fun _ => .okk ⟨.inl rfl, h.pvn⟩) fun on z hz => .then (dirs_rt hz.2.gt) fun ds u hu => .then (hv u hu.1.gt) fun ss w hw => .okk ⟨(hz.2.trans hu.1).trans hw.1, .mk fun k hk => ?_⟩
      have hsel := sels_bk hw.2 (show bulkL ss ≤ k from hk)
      have hon : (noneS ⟨on.toArray⟩ || nameB ⟨on.toArray⟩) = true := by
        rcases hz.1 with e | e
        · rw [e]; rfl
        · rw [e]; simp
      show (true && dirsR ds && (if (3 : Int) = 1 then _ else if (3 : Int) = 2 then _ else if (3 : Int) = 3 then (noneS ⟨([] : List UInt8).toArray⟩ && noneS ⟨([] : List UInt8).toArray⟩ && decide ((0 : Nat) = 0) && (noneS ⟨on.toArray⟩ || nameB ⟨on.toArray⟩) && selsR (selR k (lv + 1)) ss 1 (lv + 1)) else _)) = true
      rw [hu.2, hsel, hon]
      rfl
  · refine .then (name_rt h) fun n y hn => .then (Q := fun an z => (an.1 = [] ∨ nameB ⟨an.1.toArray⟩ = true) ∧ nameB ⟨an.2.toArray⟩ = true ∧ Pv x z) (.ite (fun _ => .then (name_rt hn.2.1.gt.nx) fun m z hm => .okk ⟨.inr hn.1, hm.1, (hn.2.1.nx).trans hm.2.1⟩) fun _ => .okk ⟨.inl rfl, hn.1, hn.2.1⟩) fun an z hz => ?_
    refine .then (args_rt hz.2.2.gt) fun aa u hu => .then (dirs_rt hu.1.gt) fun ds w hw => .then (Q := fun ss o => Pv w o ∧ (ss = [] ∨ SL (lv + 1) ss)) (.ite (fun _ => (hv w hw.1.gt).mono fun l o ho => ⟨ho.1, .inr ho.2⟩) fun _ => .okk ⟨hw.1.gt.pv, .inl rfl⟩) fun ss o ho => .okk ⟨((hz.2.2.trans hu.1).trans hw.1).trans ho.1, .mk fun k hk => ?_⟩
    have hal : (noneS ⟨an.1.toArray⟩ || nameB ⟨an.1.toArray⟩) = true := by
      rcases hz.1 with e | e
      · rw [e]; rfl
      · rw [e]; simp
    have hsel : selsR (selR k (lv + 1)) ss 0 (lv + 1) = true := by
      rw [selsR_zero]
      rcases ho.2 with e | e
      · rw [e]; rfl
      · rw [sels_bk e (show bulkL ss ≤ k from hk)]; simp
    show (argsR aa && dirsR ds && (if (1 : Int) = 1 then (noneS ⟨([] : List UInt8).toArray⟩ && nameB ⟨an.2.toArray⟩ && (noneS ⟨an.1.toArray⟩ || nameB ⟨an.1.toArray⟩) && selsR (selR k (lv + 1)) ss 0 (lv + 1)) else _)) = true
    rw [hu.2.1, hw.2, hal, hsel, hz.2.1]
    rfl
theorem setF_rt {lv : Nat} {v : PS → PR D} (hv : ∀ y, GT y → Hr (fun d z => Pv y z ∧ SO lv d) (v y)) (hk : ∀ y d z, v y = .ok (d, z) → (hdT y).k = 2 ∨ isS y [46, 46, 46] = true) : ∀ (f : Nat) (acc : List D) {x : PS}, GT x → (∀ i, i < acc.length → SO lv (gD acc i)) → acc.length ≤ 64 → Hr (fun l z => Pv x z ∧ 1 ≤ l.length ∧ l.length ≤ 64 ∧ ∀ i, i < l.length → SO lv (gD l i)) (setF v f acc x)
  | 0, _, _, _, _, _ => .err
  | f + 1, acc, x, h, ha, hl => by
    unfold setF
    refine .ite (fun hE => .okk ⟨h.pvn, by have := hE.1; omega, hl, ha⟩) fun _ => .ite (fun _ => .err) fun hlim => ?_
    have hl2 : ∀ d z, v x = .ok (d, z) → acc.length < 64 := fun d z hq => Nat.lt_of_not_le fun h64 => hlim ⟨hk x d z hq, h64⟩
    refine .then (Q := fun d z => (Pv x z ∧ SO lv d) ∧ acc.length < 64) (fun d z hq => ⟨hv x h d z hq, hl2 d z hq⟩) fun d z hd => ?_
    exact (setF_rt hv hk f _ hd.1.1.gt (snoc_at (p := SO lv) ha hd.1.2) (by simp; omega)).mono fun l w hw => ⟨hd.1.1.trans hw.1, hw.2⟩
theorem sel_k {v : PS → PR (List D)} {y : PS} {d : D} {z : PS} (h : selQ v y = .ok (d, z)) : (hdT y).k = 2 ∨ isS y [46, 46, 46] = true := by
  unfold selQ at h
  split at h
  · exact .inr (by assumption)
  · left
    cases hn : nameQ y with
    | error e => rw [then_err hn] at h; cases h
    | ok p => exact hd_k2 (s := []) (n := p.1) (z := p.2) hn
theorem sels_rt : ∀ (f lv : Nat) {x : PS}, GT x → Hr (fun l z => Pv x z ∧ SL lv l) (selsQ f lv x)
  | 0, _, _, _ => .err
  | f + 1, lv, x, h => by
    unfold selsQ
    refine .ite (fun _ => .err) fun hlim => ?_
    by_cases hs : isS x [123] = true
    · have hlv : lv ≤ 24 := Nat.le_of_not_lt fun hq => hlim ⟨hs, hq⟩
      refine .then (take_rt h) fun _ y hy => ?_
      exact (setF_rt (fun y hy => sel_rt (fun y hy => sels_rt f (lv + 1) hy) hy) (fun y d z hq => sel_k hq) _ [] hy.1.gt (fun i hi => absurd hi (Nat.not_lt_zero i)) (by decide)).mono fun l z hz => ⟨hy.1.trans hz.1, hz.2.1, hz.2.2.1, hlv, hz.2.2.2⟩
    · unfold takeQ
      rw [if_neg hs]
      exact .err
theorem set_rt {x : PS} (h : GT x) : Hr (fun l z => Pv x z ∧ setR l = true) (setQ x) :=
  (sels_rt 25 1 h).mono fun l z hz => ⟨hz.1, sels_bk hz.2 (Nat.le_refl _)⟩
theorem varsF_rt : ∀ (f : Nat) (acc : List D) {x : PS}, GT x → x.vr = true → Al varR acc → acc.length ≤ 16 → Hr (fun l z => Pv x z ∧ Al varR l ∧ l.length ≤ 16) (varsF f acc x)
  | 0, _, _, _, _, _, _ => .err
  | f + 1, acc, x, h, hx, ha, hl => by
    unfold varsF
    refine .ite (fun _ => .okk ⟨h.pvn, ha, hl⟩) fun _ => .ite (fun _ => .err) fun hlim => ?_
    by_cases hs : isS x [36] = true
    · have hl2 : acc.length < 16 := Nat.lt_of_not_le fun h16 => hlim ⟨hs, h16⟩
      refine .then (take_rt h) fun _ y hy => .then (name_rt hy.1.gt) fun n z hn => .then (take_rt hn.2.1.gt) fun _ u hu => .then (typ_rt hu.1.gt) fun t w ht => ?_
      have hxw : Pv x w := ((hy.1.trans hn.2.1).trans hu.1).trans ht.2
      refine .then (Q := fun (d : Bool × D) o => Pv x o ∧ varR (varD n t d.1 d.2) = true) (.ite (fun _ => ?_) fun _ => .okk ⟨hxw, ?_⟩) fun d o ho => ?_
      · have hg : GT { nxT w with vr := false } := hxw.gt.nx
        refine .then (whole_rt hg) fun d o ho => .okk ⟨⟨ho.1.gt, hx.symm⟩, ?_⟩
        show (nameB ⟨n.toArray⟩ && refR t && (if true = true then litR d && bareR (bulkD d) d else _)) = true
        rw [if_pos rfl, hn.1, ht.1, ho.2.1, ho.2.2 rfl]
        rfl
      · show (nameB ⟨n.toArray⟩ && refR t && (if false = true then _ else (((0 : Int) == 0 && (0 : Int) == 0 && noneS ⟨([] : List UInt8).toArray⟩ && decide ((0 : Nat) = 0)) && decide ((0 : Nat) = 0)))) = true
        rw [hn.1, ht.1]
        rfl
      · exact (varsF_rt f _ ho.1.gt (ho.1.vr.trans hx) (ha.snoc ho.2) (by simp; omega)).mono fun l r hr => ⟨ho.1.trans hr.1, hr.2⟩
    · unfold takeQ
      rw [if_neg hs]
      exact .err
theorem op_rt {k : Int} (hk : 1 ≤ k ∧ k ≤ 3) {x : PS} (h : GT x) (hx : x.vr = true) : Hr (fun d z => Pv x z ∧ opR d = true) (opQ k x) := by
  unfold opQ
  refine .then (Q := fun n z => Pv x z ∧ (n = [] ∨ nameB ⟨n.toArray⟩ = true)) (.ite (fun h2 => .okk ⟨h.pvn, .inr (h.hd.1 h2)⟩) fun _ => .okk ⟨h.pv, .inl rfl⟩) fun n y hn => .then (Q := fun vs z => Pv y z ∧ Al varR vs ∧ vs.length ≤ 16) (.ite (fun _ => (varsF_rt _ [] hn.1.gt.nx (by rw [nx_vr]; exact hn.1.vr.trans hx) Al.nil (by decide)).mono fun l z hz => ⟨hn.1.gt.pvn.trans hz.1, hz.2⟩) fun _ => .okk ⟨hn.1.gt.pv, Al.nil, by decide⟩) fun vs z hz => .then (set_rt hz.1.gt) fun ss u hu => .okk ⟨(hn.1.trans hz.1).trans hu.1, ?_⟩
  have hnm : (noneS ⟨n.toArray⟩ || nameB ⟨n.toArray⟩) = true := by
    rcases hn.2 with e | e
    · rw [e]; rfl
    · rw [e]; simp
  show (decide (1 ≤ k ∧ k ≤ 3) && (noneS ⟨n.toArray⟩ || nameB ⟨n.toArray⟩) && decide (vs.length ≤ 16) && !(vs.any fun x => !varR x) && setR ss) = true
  rw [decide_eq_true hk, hnm, decide_eq_true hz.2.2, al_any hz.2.1, hu.2]
  rfl
theorem frag_rt {x : PS} (h : GT x) : Hr (fun d z => Pv x z ∧ fragR d = true) (fragQ x) := by
  unfold fragQ
  refine .ite (fun _ => .err) fun hon => ?_
  by_cases hk : (hdT x).k = 2
  · unfold nameQ
    rw [if_pos hk, then_ok rfl]
    refine .ite (fun _ => .then (Q := fun n z => nameB ⟨n.toArray⟩ = true ∧ Pv (nxT (nxT x)) z ∧ z.nd = (nxT (nxT x)).nd) (name_rt h.nx.nx) fun on z hz => .then (set_rt hz.2.1.gt) fun ss u hu => .okk ⟨((h.pvn.nx).trans hz.2.1).trans hu.1, ?_⟩) fun _ => .err
    show (titleR ⟨(hdT x).s.toArray⟩ && nameB ⟨on.toArray⟩ && setR ss) = true
    rw [title_ok (h.hd.1 hk) hon, hz.1, hu.2]
    rfl
  · unfold nameQ
    rw [if_neg hk]
    exact .err
theorem kind_ok {s : List UInt8} (h : 0 < kindQ s) : 1 ≤ kindQ s ∧ kindQ s ≤ 3 := by
  unfold kindQ at *
  repeat' split
  all_goals first
    | decide
    | (simp_all)
theorem docF_rt : ∀ (f n : Nat) (ops frs : List D) {x : PS}, GT x → x.vr = true → Al opR ops → Al fragR frs → ops.length + frs.length = n → n ≤ 64 → Hr (fun p _ => Al opR p.1 ∧ Al fragR p.2 ∧ 1 ≤ p.1.length + p.2.length ∧ p.1.length + p.2.length ≤ 64) (docF f n ops frs x)
  | 0, _, _, _, _, _, _, _, _, _, _ => .err
  | f + 1, n, ops, frs, x, h, hx, ho, hf, hn, h64 => by
    unfold docF
    refine .ite (fun hE => .okk ⟨ho, hf, by show 1 ≤ ops.length + frs.length; omega, by show ops.length + frs.length ≤ 64; omega⟩) fun _ => ?_
    dsimp only
    have hxn : (nxT x).vr = true := by rw [nx_vr]; exact hx
    refine .ite (fun _ => .err) fun _ => .ite (fun _ => .err) fun hlim => .ite (fun _ => .then (set_rt h) fun ss y hy => ?_) fun _ => .ite (fun hk => .then (op_rt (kind_ok hk) h.nx hxn) fun o y hy => ?_) fun _ => .then (frag_rt h.nx) fun o y hy => ?_
    · refine docF_rt f _ _ _ hy.1.gt (hy.1.vr.trans hx) (ho.snoc ?_) hf (by simp; omega) (by omega)
      show (decide ((1 : Int) ≤ 1 ∧ (1 : Int) ≤ 3) && (noneS ⟨([] : List UInt8).toArray⟩ || _) && decide ((0 : Nat) ≤ 16) && !(([] : List D).any fun x => !varR x) && setR ss) = true
      rw [hy.2]
      rfl
    · exact docF_rt f _ _ _ hy.1.gt (hy.1.vr.trans hxn) (ho.snoc hy.2) hf (by simp; omega) (by omega)
    · exact docF_rt f _ _ _ hy.1.gt (hy.1.vr.trans hxn) ho (hf.snoc hy.2) (by simp; omega) (by omega)
theorem let_B : ∀ c : UInt8, letU c = true → digB (c.toNat : Int) = false ∧ letB (c.toNat : Int) = true := fun c =>
  all256 (p := fun c => letU c = true → digB (c.toNat : Int) = false ∧ letB (c.toNat : Int) = true) (by decide +kernel) c
theorem wrd_B : ∀ c : UInt8, wrdU c = true → (letB (c.toNat : Int) || digB (c.toNat : Int)) = true := fun c =>
  all256 (p := fun c => wrdU c = true → (letB (c.toNat : Int) || digB (c.toNat : Int)) = true) (by decide +kernel) c
theorem name_tok {c : UInt8} {q : List UInt8} (hc : letU c = true) (hq : q.all wrdU = true) (hl : q.length < 64) : nameB ⟨(c :: q).toArray⟩ = true := by
  refine nameB_yes (s := ⟨(c :: q).toArray⟩) (by simp [ByteArray.size]) (by simp [ByteArray.size]; omega) (let_B c hc).1 fun i hi => ?_
  have hi : i < (c :: q).length := by simpa [ByteArray.size] using hi
  show (letB ((((c :: q).getD i 0).toNat : Nat) : Int) || digB ((((c :: q).getD i 0).toNat : Nat) : Int)) = true
  refine wrd_B _ ?_
  cases i with
  | zero => show wrdU c = true; unfold wrdU; rw [hc]; rfl
  | succ i =>
    rw [List.getD_cons_succ, List.getD_eq_getElem?_getD, List.getElem?_eq_getElem (by simpa using hi)]
    exact List.all_eq_true.1 hq _ (List.getElem_mem _)
theorem readU_name {l : List UInt8} {s : List UInt8} {n : Nat} (h : readU l = .ok (2, s, n)) : nameB ⟨s.toArray⟩ = true := by
  unfold readU at h
  split at h
  · cases h
  · rename_i c r
    have hs := span_take (p := wrdU) r
    split at h
    · cases h
    split at h
    · split at h
      · cases h
      · cases h
    split at h
    · split at h
      · cases h
      · cases h
    split at h
    · rename_i hl
      split at h
      · cases h
      · cases h
        exact name_tok hl hs.1 (by rw [hs.2]; omega)
    split at h
    · split at h
      · cases h
      · split at h
        · cases h
        · cases h
    · cases h
theorem scanF_gt : ∀ (f : Nat) (l : List UInt8) (i : Nat) (ts : List Tok), scanF f l i = .ok ts → ∀ t ∈ ts, (t.k = 2 → nameB ⟨t.s.toArray⟩ = true) ∧ 1 ≤ t.k ∧ t.k ≤ 5
  | 0, _, _, _, h => by cases h
  | f + 1, l, i, ts, h => by
    unfold scanF at h
    split at h
    · cases h
      intro t ht
      rw [List.mem_singleton] at ht
      subst ht
      exact ⟨fun h => absurd (show (5 : Int) = 2 from h) (by decide), show (1 : Int) ≤ 5 by decide, show (5 : Int) ≤ 5 by decide⟩
    · split at h
      · cases h
      · rename_i t n ht
        have hu := readT_ok ht
        have hle := readU_le hu.1
        split at h
        · cases h
        · rename_i ts' hts
          cases h
          intro u hu'
          rcases List.mem_cons.1 hu' with rfl | hu'
          · refine ⟨fun hk => ?_, hle.2.2.1, by omega⟩
            have h1 := hu.1
            rw [hk] at h1
            exact readU_name h1
          · exact scanF_gt f _ _ _ hts u hu'
/-- what the parser reads is right -/
theorem parse_right {l : List UInt8} {q : D} (h : parseT l = .ok q) : queR q = true := by
  unfold parseT at h
  split at h
  · cases h
  · rename_i ts hs
    split at h
    · cases h
    · rename_i p z hd
      cases h
      obtain ⟨a, b⟩ := p
      have hg : GT ⟨ts, true, 0⟩ := by
        unfold scanT at hs
        split at hs
        · cases hs
        · exact scanF_gt _ _ _ _ hs
      obtain ⟨h1, h2, h3, h4⟩ := docF_rt _ 0 [] [] hg rfl Al.nil Al.nil rfl (by decide) _ _ hd
      show queR (.obj [.list a, .list b]) = true
      rw [queR_all, allI_any, allI_any, al_any h1, al_any h2, decide_eq_true ⟨h3, h4⟩]
      rfl
end Go.Proofs.YthjiclhfhjdjpaaGreatDoor
namespace Go.Proofs.YthjiclhfhjdjpaaGreatDoor
open Go.RowKit
set_option linter.unusedSectionVars false
attribute [local irreducible] wpList Calls Code.wp AW AWo OpOk seqK blockK scopeK loopK endK AC absLex Yld Sub
attribute [local irreducible] ACB ACX ACE absLexG YldG
set_option maxHeartbeats 8000000 in
set_option maxRecDepth 100000 in
theorem parse_que {l : List UInt8} {q : D} (h : parseT l = .ok q) : q = queD (q.f 0).l (q.f 1).l := by
  unfold parseT at h
  split at h
  · cases h
  · split at h
    · cases h
    · cases h; rfl
section
variable (s t : List UInt8) (hs : s.length ≤ 4000) (ht : t.length ≤ 4000)
include hs ht
end
end Go.Proofs.YthjiclhfhjdjpaaGreatDoor
namespace Go.Proofs.YthjiclhfhjdjpaaGreatDoor
open Go.RowKit
set_option linter.unusedSectionVars false
attribute [local irreducible] wpList Calls Code.wp AW AWo OpOk seqK blockK scopeK loopK endK AC absLex Yld Sub
attribute [local irreducible] ACB ACX ACE absLexG YldG
set_option maxHeartbeats 8000000 in
set_option maxRecDepth 100000 in
theorem parsedBig (l : List UInt8) (h : 8000 < l.length) : AC EN5 Tryz.prog 11 [.c (.string (bs l))] (.c (.bool true)) := by
  have h1 := knows_ac
  have hz := bs_size l
  have f0 : decide (((bs l).size : Int) > 8000) = true := decide_eq_true (by omega)
  refine ac_enter 54 Tryz.func11 rfl rfl rfl rfl ?_
  intro s w he
  repeat' (first
 | (apply aw_cond_kt
    · conv => lhs; whnf
    · assumption)
 | refine aw_seq ?_
 | refine aw_region ?_
 | refine awo_nil ?_
 | refine k_seq ?_
 | (apply s_val rfl
    · conv => lhs; whnf
    · conv => lhs; whnf; arg 2; whnf)
 | (apply s_call rfl
    · conv => lhs; whnf
    · conv => lhs; whnf
    · first | exact h1)
 | refine aw_ret ?_
 | refine k_seq_ret ?_
 | refine k_end_ret ?_
 | (refine ⟨_, by conv => lhs; whnf; arg 2; whnf, ?_⟩; conv => rhs; whnf)
 | exact trivial)
  all_goals exact (show Tryz.prog.underlying 9 = some TypeDesc.string by kernel_rfl)
set_option maxHeartbeats 8000000 in
set_option maxRecDepth 100000 in
theorem parsedBad (l : List UInt8) (h : l.length ≤ 8000) {x : Nat × Int} (hp : parseT l = .error x) : AC EN5 Tryz.prog 11 [.c (.string (bs l))] (.c (.bool true)) := by
  have h1 := knows_ac
  have hz := bs_size l
  have f0 : decide (((bs l).size : Int) > 8000) = false := decide_eq_false (by omega)
  have h2 := parseO_ac l (by omega)
  rw [hp] at h2
  have h2 : AC EN5 Tryz.prog 23 [.c (.string (bs l))] (.tup [.agg [.sl 57 [], .sl 116 []], .c (.int .i64 (x.1 : Int)), .c (.int .i64 x.2)]) := h2
  obtain ⟨hx, hi⟩ := parse_err (i := x.1) (e := x.2) hp
  have hi := hi (by omega)
  have f1 : (x.2 != 0) = true := by simpa using hx
  have f2 : decide ((x.1 : Int) ≥ 0) = true := decide_eq_true (by omega)
  have f3 : decide ((x.1 : Int) ≤ ((bs l).size : Int)) = true := decide_eq_true (by omega)
  have g2 : (decide ((x.1 : Int) ≥ 0) == true) = true := by rw [f2]; rfl
  have g3 : (decide ((x.1 : Int) ≤ ((bs l).size : Int)) == true) = true := by rw [f3]; rfl
  have k2 : (decide ((x.1 : Int) ≥ 0) == true) = false → False := fun h => by rw [g2] at h; cases h
  have k3 : (decide ((x.1 : Int) ≤ ((bs l).size : Int)) == true) = false → False := fun h => by rw [g3] at h; cases h
  refine ac_enter 54 Tryz.func11 rfl rfl rfl rfl ?_
  intro s w he
  repeat' (first
 | (apply aw_cond_kt
    · conv => lhs; whnf
    · assumption)
 | (apply aw_cond_kf
    · conv => lhs; whnf
    · assumption)
 | refine aw_seq ?_
 | refine aw_region ?_
 | refine awo_nil ?_
 | refine k_seq ?_
 | refine aw_skip ?_
 | (apply s_pick_t rfl rfl
    · conv => lhs; whnf
    · conv => lhs; whnf
    · first | exact bT1 (by assumption) | exact bT2 (by assumption))
 | (apply s_val rfl
    · conv => lhs; whnf
    · conv => lhs; whnf; arg 2; whnf)
 | (apply s_call rfl
    · conv => lhs; whnf
    · conv => lhs; whnf
    · first | exact h1 | exact h2)
 | (apply s_alloc rfl rfl rfl rfl
    · conv => lhs; whnf; arg 1; whnf
    · rfl)
 | (apply s_store rfl rfl rfl
    · conv => lhs; whnf
    · conv => lhs; whnf; arg 1; whnf
    · conv => lhs; whnf; arg 1; whnf
    · exact ⟨by kernel_rfl, by kernel_rfl⟩
    · rfl)
 | (apply s_wanted_val rfl
    · conv => lhs; whnf
    · conv => lhs; whnf
    · first | rfl | assumption
    · conv => lhs; whnf; arg 2; whnf)
 | (apply s_wanted_call rfl
    · conv => lhs; whnf
    · conv => lhs; whnf
    · first | rfl | assumption
    · conv => lhs; whnf
    · first | exact h1 | exact h2)
 | refine aw_ret ?_
 | refine k_seq_ret ?_
 | refine k_end_ret ?_
 | (refine ⟨_, by conv => lhs; whnf; arg 2; whnf, ?_⟩; conv => rhs; whnf)
 | exact trivial)
  all_goals first
    | exact (show Tryz.prog.underlying 9 = some TypeDesc.string by kernel_rfl)
    | rfl
set_option maxHeartbeats 8000000 in
set_option maxRecDepth 100000 in
theorem parsedOk (l : List UInt8) (h : l.length ≤ 8000) {a b : List D} (hp : parseT l = .ok (queD a b)) : AC EN5 Tryz.prog 11 [.c (.string (bs l))] (.c (.bool true)) := by
  have h1 := knows_ac
  have hz := bs_size l
  have f0 : decide (((bs l).size : Int) > 8000) = false := decide_eq_false (by omega)
  have h2 := parse_ac l (by omega)
  rw [hp] at h2
  have h2 : AC EN5 Tryz.prog 23 [.c (.string (bs l))] (.tup [.agg [.sl 57 a, .sl 116 b], .c (.int .i64 0), .c (.int .i64 0)]) := h2
  have hb : bulkL a + bulkL b ≤ 41 * l.length + 40 := parse_bulk hp
  have hr : queR (.obj [.list a, .list b]) = true := parse_right hp
  have h3 := right_ac a b (by omega) (by omega)
  have h4 := rightF_ac a b (by omega) (by omega)
  rw [hr] at h3 h4
  refine ac_enter 54 Tryz.func11 rfl rfl rfl rfl ?_
  intro s w he
  repeat' (first
 | (apply aw_cond_kf
    · conv => lhs; whnf
    · assumption)
 | refine aw_seq ?_
 | refine aw_region ?_
 | refine awo_nil ?_
 | refine k_seq ?_
 | refine aw_skip ?_
 | (apply s_val rfl
    · conv => lhs; whnf
    · conv => lhs; whnf; arg 2; whnf)
 | (apply s_call rfl
    · conv => lhs; whnf
    · conv => lhs; whnf
    · first | exact h1 | exact h2 | exact h3 | exact h4)
 | (apply s_alloc rfl rfl rfl rfl
    · conv => lhs; whnf; arg 1; whnf
    · rfl)
 | (apply s_store rfl rfl rfl
    · conv => lhs; whnf
    · conv => lhs; whnf; arg 1; whnf
    · conv => lhs; whnf; arg 1; whnf
    · exact ⟨by kernel_rfl, by kernel_rfl⟩
    · rfl)
 | (apply s_wanted_val rfl
    · conv => lhs; whnf
    · conv => lhs; whnf
    · first | rfl | assumption
    · conv => lhs; whnf; arg 2; whnf)
 | (apply s_wanted_call rfl
    · conv => lhs; whnf
    · conv => lhs; whnf
    · first | rfl | assumption
    · conv => lhs; whnf
    · first | exact h1 | exact h2 | exact h3 | exact h4)
 | (apply aw_cond_f
    · conv => lhs; whnf; arg 1; arg 1; whnf)
 | refine aw_ret ?_
 | refine k_end_ret ?_
 | (refine ⟨_, by conv => lhs; whnf; arg 2; whnf, ?_⟩; conv => rhs; whnf)
 | exact trivial)
  all_goals first
    | exact (show Tryz.prog.underlying 9 = some TypeDesc.string by kernel_rfl)
    | rfl
set_option maxHeartbeats 8000000 in
set_option maxRecDepth 100000 in
theorem parsed_ac (l : List UInt8) : AC EN5 Tryz.prog 11 [.c (.string (bs l))] (.c (.bool true)) := by
  by_cases h : l.length ≤ 8000
  · cases hp : parseT l with
    | error x => exact parsedBad l h hp
    | ok q =>
      have e := parse_que hp
      rw [e] at hp
      exact parsedOk l h hp
  · exact parsedBig l (by omega)
set_option maxHeartbeats 8000000 in
set_option maxRecDepth 100000 in
theorem rowParsed {W : World} (s : ByteArray) (hs : s.size ≤ 140737488351232) (he : Env W) : Calls Tryz.prog 11 #[.string s] W fun e W' => e = .returned (.bool true) ∧ Below W.heap.size W W' := by
  have h := parsed_ac (tx s)
  rw [bs_tx] at h
  exact calls_of_ac5 h (relL1 (rel_str (by unfold maxLen; omega))) he
end Go.Proofs.YthjiclhfhjdjpaaGreatDoor
namespace Go.Proofs.YthjiclhfhjdjpaaGreatDoor
open Go.ChangeShapes Go.WideShapes Go.ChangeAt Go.RowKit
attribute [local irreducible] wpList Calls Code.wp
set_option maxRecDepth 100000 in
theorem contractQueryParsed (H : Type) (enc : TypeId × Value → H) (W : World) (base : Nat) (args : Array Value) (ds gs : List (DataW H)) (before : List MemPlace)
    (hval : ∀ (j : Nat) t v, Tryz.f11.params[j]? = some t → args[j]? = some v → Value.okWide Tryz.prog W .any base t v)
    (hW : DataW.Whole enc Tryz.prog Tryz.f11.params.toList Rows.queryParsedSpec.vars false W args.toList ds gs before) (hL : laidMetH Tryz.prog Rows.queryParsedRow.laid W)
    (hR : (DataW.weightsEach Tryz.prog (Tryz.f11.params.toList ++ (OpenSpec.ofChange Rows.queryParsedSpec).bare.plain.varTypes Tryz.prog) (ds ++ gs)).all (· ≤ reachBytes) = true) :
    Calls Tryz.prog 11 args W fun e W' => ∃ v, e = .returned v ∧ Rows.queryParsedSpec.post enc Tryz.prog Tryz.f11 false true false false W args v W' := by
  have hW' := hW
  obtain ⟨p, q, hA0, hV, rfl, hfz, hnd⟩ := hW
  have hA : DataW.TrodAll enc Tryz.prog W 0 (fun _ => true) true Tryz.f11.params.toList args.toList ds p := hA0
  rw [Tryz.params11] at hA hval hR
  obtain ⟨v0, vs0, d0, ds0, p0, q0, hargs, rfl, rfl, h0, r0⟩ := trodAll_cons hA
  obtain ⟨rfl, rfl, rfl⟩ := trodAll_nil r0
  obtain rfl : args = #[v0] := by cases args; simp_all
  have hv0 := hval 0 9 v0 rfl rfl
  obtain ⟨s0, rfl, rfl, _, hm0⟩ := Go.ChangeMaps.open_string (r := .any) (b0 := base) (t := 9) (w := W) Tryz.underlying9 hv0 h0
  have hs0 : s0.size ≤ 140737488351232 := reach_size hR (weight_head)
  refine (rowParsed s0 hs0 (env_of_laid hL)).mono fun e W' ⟨he, hbel⟩ => ?_
  subst he
  exact ⟨_, rfl, post_true laidOut' (types_ok _ (by kernel_rfl)) Tryz.underlying4 rfl rfl hW' hbel (fun gs h => by subst h; rfl)⟩
theorem laid_metQueryParsed (os : Os) : laidMet Tryz.prog Rows.queryParsedRow.laid ((laidWorld os).forCall (fun _ _ => 0) ⟨#[], #[.string ⟨#[]⟩], []⟩).memory :=
  laidMet_of_run' 8 (by kernel_rfl) (by kernel_rfl)
theorem readsQueryParsed (os : Os) {H : Type} (enc : TypeId × Value → H) : ∃ places, DataW.whole enc Tryz.prog ((laidWorld os).forCall (fun _ _ => 0) ⟨#[], #[.string ⟨#[]⟩], []⟩).memory Tryz.f11.params.toList Rows.queryParsedSpec.vars false (#[.string ⟨#[]⟩] : Array Value).toList 8 = some ([.lit (.string [])], [], places) :=
  ⟨[], by kernel_rfl⟩
set_option maxRecDepth 100000 in
theorem liftedQueryParsed (os : Os) (started : os.Started) (H : Type) (enc : TypeId × Value → H) (F : Stop.Interp) :
    ReturnsInHanded {} Tryz.checked os 11 .any ((OpenSpec.ofChange Rows.queryParsedSpec).preRow enc Tryz.prog Tryz.f11 Rows.queryParsedRow.domain false Rows.queryParsedRow.laid) (((OpenSpec.ofChange Rows.queryParsedSpec).at F).post enc Tryz.prog Tryz.f11 false true false false) := by
  obtain ⟨places, hx⟩ := readsQueryParsed os enc
  refine returnsInHanded_of_row (C := Tryz.checked) (s := OpenSpec.ofChange Rows.queryParsedSpec) own started (by kernel_rfl) Tryz.func11
    (witness_row_at (enc := enc) (C := Tryz.checked) false (laidWorld os) #[.string ⟨#[]⟩] rfl (by kernel_rfl) (by kernel_rfl) (by kernel_rfl)
      (OpenSpec.preRow_of_cond 8 hx (by kernel_rfl) (fun k hk => by cases hk) (by kernel_rfl) (laid_metQueryParsed os))) ?_
  intro W base args ds gs before hval hW _ _ hR hL _ _
  exact contractQueryParsed H enc W base args ds gs before hval hW hL hR
theorem and_tQueryParsed {a b : Bool} (h1 : a = true) (h2 : b = true) : (a && b) = true := by rw [h1, h2]; rfl
set_option maxRecDepth 100000 in
set_option maxHeartbeats 20000000 in
theorem joinedQueryParsed : joinedFacts Tryz.prog 11 Tryz.f11 (OpenSpec.ofChange Rows.queryParsedSpec).bare Rows.queryParsedRow = true := by
  unfold joinedFacts
  repeat' (with_reducible apply and_tQueryParsed)
  all_goals as_aux_lemma => kernel_rfl
theorem saidQueryParsed : Rows.QueryParsedSaid :=
  OpenClaim.holds_of_cond 11 Tryz.f11 rfl rfl rfl rfl rfl rfl rfl ⟨rfl, rfl, rfl, rfl, rfl⟩ rfl rfl rfl rfl rfl (by kernel_rfl) Tryz.func11 joinedQueryParsed
    (of_decide_eq_true (by kernel_rfl)) (by unfold Func.isWrapper; first | (rw [if_pos (by decide +kernel)]; kernel_rfl) | (rw [if_neg (by decide +kernel)]; exact ⟨rfl, rfl⟩))
    (fun os started H enc _ F => by rw [OpenClaim.pre_eq_preRow]; exact liftedQueryParsed os started H enc F)
theorem plainQueryParsed (f : FuncId) (fn : Func) (hf : Tryz.pinned.checked.prog.funcNamed "supergraph/supergraphlaw08.QueryParsed" = some f) (hfn : Tryz.pinned.checked.prog.funcs[f]? = some fn) :
    true = Tryz.pinned.checked.prog.looks [] ∧ ∀ (j : Nat) t, fn.params[j]? = some t → Tryz.pinned.checked.prog.wantsStandIn t = false := by
  obtain rfl : f = 11 := Option.some.inj ((show Tryz.prog.funcNamed "supergraph/supergraphlaw08.QueryParsed" = some 11 by kernel_rfl).symm.trans hf) |>.symm
  obtain rfl : fn = Tryz.f11 := (Option.some.inj (Tryz.func11.symm.trans hfn)).symm
  refine ⟨by kernel_rfl, fun j t ht => ?_⟩
  rw [Tryz.params11] at ht
  have hm := Array.mem_of_getElem? ht
  simp only [List.mem_toArray, List.mem_cons, List.not_mem_nil, or_false] at hm
  rcases hm with rfl
  · exact (show Tryz.prog.wantsStandIn 9 = false by kernel_rfl)
end Go.Proofs.YthjiclhfhjdjpaaGreatDoor
