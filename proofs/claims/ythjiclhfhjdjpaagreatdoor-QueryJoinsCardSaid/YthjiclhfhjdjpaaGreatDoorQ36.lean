/- Parts of a proof, merged by a program (shake.py). -/
import Derived.Test.YthjiclhfhjdjpaaGreatDoorQ35
set_option linter.unusedVariables false
set_option linter.unusedSimpArgs false
namespace Go.Proofs.YthjiclhfhjdjpaaGreatDoor
open Go.RowKit
set_option linter.unusedSectionVars false
attribute [local irreducible] wpList Calls Code.wp AW AWo OpOk seqK blockK scopeK loopK endK AC absLex Yld Sub
attribute [local irreducible] ACB ACX ACE absLexG YldG
set_option maxHeartbeats 8000000 in
set_option maxRecDepth 100000 in
theorem sel1_acb (x : D) (lv : Nat) (b : Bool) (h : AC EN5 Tryz.prog 159 [.agg (cellsV Tryz.prog 12 76 x), .c (.int .i64 (lv : Int))] (.c (.bool b))) :
    ACB EN5 Tryz.prog 158 [.agg (cellsV Tryz.prog 12 76 x), .bx (pn 0) 0] [.box 3 [.c (.int .i64 (lv : Int))]] (.c (.bool (!b))) [.box 3 [.c (.int .i64 (lv : Int))]] := by
  refine acb_enter (fn := Tryz.f158) 8 Tryz.func158 rfl rfl ?_
  intro pas w0 w he hpp
  repeat' (first
 | refine aw_seq ?_
 | refine aw_region ?_
 | refine awo_nil ?_
 | refine k_seq ?_
 | (apply s_val rfl
    · conv => lhs; whnf
    · conv => lhs; whnf; arg 2; whnf)
 | (apply s_call rfl
    · conv => lhs; whnf
    · conv => lhs; whnf
    · first | exact h)
 | (apply s_box rfl rfl rfl rfl
    · conv => lhs; whnf; arg 1; whnf
    · rfl)
 | refine aw_ret ?_
 | refine k_endB ⟨?_, ?_⟩
 | (refine ⟨_, by conv => lhs; whnf; arg 2; whnf, ?_⟩; conv => rhs; whnf)
 | exact trivial)
  exact ⟨rfl, trivial⟩
set_option maxHeartbeats 8000000 in
set_option maxRecDepth 100000 in
theorem sels_of (l : List D) (least lv : Nat) (p : D → Bool) (hw : bulkL l ≤ 1000000000) (hc : ∀ i, i < l.length → AC EN5 Tryz.prog 159 [.agg (cellsV Tryz.prog 12 76 (gD l i)), .c (.int .i64 (lv : Int))] (.c (.bool (p (gD l i))))) :
    AC EN5 Tryz.prog 80 [.sl 76 l, .c (.int .i64 (least : Int)), .c (.int .i64 (lv : Int))] (.c (.bool (selsR p l least lv))) := by
  have hl := bulkL_len l
  have hcs := containsSel_acb (lv : Int) l (fun x => !p x) (by omega) fun i hi => sel1_acb _ lv _ (hc i hi)
  have e1 : decide ((l.length : Int) < (least : Int)) = !decide (least ≤ l.length) := by rw [Bool.eq_iff_iff]; simp
  have e2 : decide ((l.length : Int) > 64) = !decide (l.length ≤ 64) := by rw [Bool.eq_iff_iff]; simp; omega
  have e3 : decide ((l.length : Int) > 0) = !decide (l.length = 0) := by
    rw [Bool.eq_iff_iff]
    simp only [decide_eq_true_eq, Bool.not_eq_true', decide_eq_false_iff_not]
    omega
  have e4 : decide ((lv : Int) > 24) = !decide (lv ≤ 24) := by rw [Bool.eq_iff_iff]; simp; omega
  unfold selsR
  refine ac_enter 29 Tryz.func80 rfl rfl rfl rfl ?_
  intro s w he
  repeat' (first
 | (apply s_wpick_t rfl rfl rfl
    · conv => lhs; whnf
    · first | rfl | assumption
    · conv => lhs; whnf
    · first | exact bT1 (by assumption) | exact bT2 (by assumption) | rfl)
 | (apply s_wpick_f rfl rfl rfl
    · conv => lhs; whnf
    · first | rfl | assumption
    · conv => lhs; whnf
    · first | exact bF1 (by assumption) | exact bF2 (by assumption) | rfl)
 | (apply s_boxw (m := 5) rfl
    · conv => lhs; whnf
    · conv => lhs; whnf
    · rfl
    · conv => lhs; whnf; arg 1; whnf
    · exact fun _ => rfl
    · first | exact hcs
    · exact fun _ => rfl
    · exact fun _ => rfl
    · exact fun _ => rfl)
 | refine aw_seq ?_
 | refine aw_region ?_
 | refine awo_nil ?_
 | refine k_seq ?_
 | refine aw_skip ?_
 | (apply s_pick_t rfl rfl
    · conv => lhs; whnf
    · conv => lhs; whnf
    · first | exact bT1 (by assumption) | exact bT2 (by assumption))
 | (apply s_pick_f rfl rfl
    · conv => lhs; whnf
    · conv => lhs; whnf
    · first | exact bF1 (by assumption) | exact bF2 (by assumption))
 | (apply s_val rfl
    · conv => lhs; whnf
    · conv => lhs; whnf; arg 2; whnf)
 | (apply s_box rfl rfl rfl rfl
    · conv => lhs; whnf; arg 1; whnf
    · rfl)
 | (apply s_wanted_val rfl
    · conv => lhs; whnf
    · conv => lhs; whnf
    · first | rfl | assumption
    · conv => lhs; whnf; arg 2; whnf)
 | (apply s_skipU rfl
    · conv => lhs; whnf
    · conv => lhs; whnf
    · first | rfl | assumption)
 | (apply s_dead rfl
    · conv => lhs; whnf
    · rfl
    · rfl)
 | (apply s_guard_valU rfl
    · conv => lhs; whnf
    · conv => lhs; whnf
    · conv => lhs; whnf; arg 2; whnf)
 | (apply aw_cond_t
    · conv => lhs; whnf; arg 1; arg 1; whnf)
 | (apply aw_cond_f
    · conv => lhs; whnf; arg 1; arg 1; whnf)
 | (refine aw_cond (by conv => lhs; whnf) ?_ ?_ <;> intro hb)
 | refine aw_ret ?_
 | refine k_seq_ret ?_
 | refine k_end_ret ?_
 | (refine ⟨_, by conv => lhs; whnf; arg 2; whnf, ?_⟩; conv => rhs; whnf)
 | exact trivial
 | intro hg)
  all_goals
    clear hcs he hc
    refine congrArg (fun b => V.c (.bool b)) ?_
    simp only [e1, e2, e3, e4] at *
    clear e1 e2 e3 e4
    generalize decide (least ≤ l.length) = a1 at *
    generalize decide (l.length ≤ 64) = a2 at *
    generalize decide (l.length = 0) = a3 at *
    generalize decide (lv ≤ 24) = a4 at *
    generalize (l.any fun x => !p x) = a5 at *
    simp_all
/-- bounds of a selection's parts -/
structure SelB (d : D) (B : Nat) : Prop where
  s1 : (d.f 1).s.size ≤ B
  s2 : (d.f 2).s.size ≤ B
  s3 : (d.f 3).s.size ≤ B
  l4 : bulkL (d.f 4).l ≤ B
  l5 : bulkL (d.f 5).l ≤ B
  l6 : bulkL (d.f 6).l < bulkD d
  l6B : bulkL (d.f 6).l ≤ B
set_option maxHeartbeats 8000000 in
set_option maxRecDepth 100000 in
theorem sel_b {d : D} {B : Nat} (h : bulkD d ≤ B) : SelB d B := by
  have h0 := bulkD_wD d
  have q := fun i => wD_f d i
  have q1 := q 1; have q2 := q 2; have q3 := q 3; have q4 := q 4; have q5 := q 5; have q6 := q 6
  have s1 := wD_str (d.f 1); have s2 := wD_str (d.f 2); have s3 := wD_str (d.f 3)
  have l4 := wD_list (d.f 4); have l5 := wD_list (d.f 5); have l6 := wD_list (d.f 6)
  exact ⟨by omega, by omega, by omega, by omega, by omega, by omega, by omega⟩
set_option maxHeartbeats 8000000 in
set_option maxRecDepth 100000 in
theorem noneS_is (s : ByteArray) : (s.toList == ({ data := #[] } : ByteArray).toList) = noneS s := str_is s []
set_option maxHeartbeats 8000000 in
set_option maxRecDepth 100000 in
theorem sel_ac : ∀ (k lv : Nat) (d : D), bulkD d ≤ k → k ≤ 1000000000 → lv + k ≤ 2000000000 → AC EN5 Tryz.prog 159 [.agg (cellsV Tryz.prog 12 76 d), .c (.int .i64 (lv : Int))] (.c (.bool (selR k lv d)))
  | 0, _, d, h, _, _ => by have := bulkD_pos d; omega
  | k + 1, lv, d, h, hk, hlv => by
    have hB := sel_b (B := 1000000000) (d := d) (by omega)
    have h1 := name_ac (d.f 1).s hB.s1
    have h2 := name_ac (d.f 2).s hB.s2
    have h3 := name_ac (d.f 3).s hB.s3
    have h4 := args_ac (d.f 4).l hB.l4
    have h5 := dirs_ac (d.f 5).l hB.l5
    have h6 := title_ac (d.f 2).s hB.s2
    have hs := fun least => sels_of (d.f 6).l least (lv + 1) (selR k (lv + 1)) hB.l6B fun i hi => sel_ac k (lv + 1) _ (by have := bulkL_get hi; have := hB.l6; omega) (by omega) (by omega)
    have hs0 := hs 0
    have hs1 := hs 1
    have hz4 : (((d.f 4).l.length : Int) == 0) = decide ((d.f 4).l.length = 0) := by rw [Bool.eq_iff_iff]; simp
    have hz6 : (((d.f 6).l.length : Int) == 0) = decide ((d.f 6).l.length = 0) := by rw [Bool.eq_iff_iff]; simp
    have n1 := noneS_is (d.f 1).s
    have n2 := noneS_is (d.f 2).s
    have n3 := noneS_is (d.f 3).s
    have e : cellsV Tryz.prog 12 76 d = [.c (.int .i64 (d.f 0).n), .c (.string (d.f 1).s), .c (.string (d.f 2).s), .c (.string (d.f 3).s), .sl 86 (d.f 4).l, .sl 150 (d.f 5).l, .sl 76 (d.f 6).l] := rfl
    unfold selR
    rw [e]
    by_cases k1 : (d.f 0).n = 1
    · rw [if_pos k1, k1]
      refine ac_enter 104 Tryz.func159 rfl rfl rfl rfl ?_
      intro s w he
      repeat' (first
 | (apply s_wpick_t rfl rfl rfl
    · conv => lhs; whnf
    · first | rfl | assumption
    · conv => lhs; whnf
    · first | exact bT1 (by assumption) | exact bT2 (by assumption) | rfl)
 | (apply s_wpick_f rfl rfl rfl
    · conv => lhs; whnf
    · first | rfl | assumption
    · conv => lhs; whnf
    · first | exact bF1 (by assumption) | exact bF2 (by assumption) | rfl)
 | refine aw_seq ?_
 | refine aw_region ?_
 | refine awo_nil ?_
 | refine k_seq ?_
 | refine aw_block ?_
 | refine aw_skip ?_
 | (apply s_pick_t rfl rfl
    · conv => lhs; whnf
    · conv => lhs; whnf
    · first | exact bT1 (by assumption) | exact bT2 (by assumption))
 | (apply s_pick_f rfl rfl
    · conv => lhs; whnf
    · conv => lhs; whnf
    · first | exact bF1 (by assumption) | exact bF2 (by assumption))
 | (apply s_val rfl
    · conv => lhs; whnf
    · conv => lhs; whnf; arg 2; whnf)
 | (apply s_call rfl
    · conv => lhs; whnf
    · conv => lhs; whnf
    · first | exact h1 | exact h2 | exact h4 | exact h5 | exact hs0)
 | (apply s_box rfl rfl rfl rfl
    · conv => lhs; whnf; arg 1; whnf
    · rfl)
 | (apply s_wanted_val rfl
    · conv => lhs; whnf
    · conv => lhs; whnf
    · first | rfl | assumption
    · conv => lhs; whnf; arg 2; whnf)
 | (apply s_wanted_call rfl
    · conv => lhs; whnf
    · conv => lhs; whnf
    · first | rfl | assumption
    · conv => lhs; whnf
    · first | exact h1 | exact h2 | exact h4 | exact h5 | exact hs0)
 | (apply s_skipU rfl
    · conv => lhs; whnf
    · conv => lhs; whnf
    · first | rfl | assumption)
 | (apply s_dead rfl
    · conv => lhs; whnf
    · rfl
    · rfl)
 | (apply s_guard_valU rfl
    · conv => lhs; whnf
    · conv => lhs; whnf
    · conv => lhs; whnf; arg 2; whnf)
 | (apply aw_cond_t
    · conv => lhs; whnf; arg 1; arg 1; whnf)
 | (refine aw_cond (by conv => lhs; whnf) ?_ ?_ <;> intro hb)
 | refine aw_ret ?_
 | refine k_seq_ret ?_
 | refine k_block_ret ?_
 | refine k_end_ret ?_
 | (refine ⟨_, by conv => lhs; whnf; arg 2; whnf, ?_⟩; conv => rhs; whnf)
 | exact trivial
 | intro hg)
      all_goals first
        | exact i64_ok (by omega)
        | (clear h1 h2 h3 h4 h5 h6 hs hs0 hs1 he e hB
           refine congrArg (fun b => V.c (.bool b)) ?_
           simp only [n1, n2, n3, hz4, hz6] at *
           clear n1 n2 n3 hz4 hz6
           generalize argsR (d.f 4).l = a1 at *
           generalize dirsR (d.f 5).l = a2 at *
           generalize noneS (d.f 1).s = a3 at *
           generalize noneS (d.f 3).s = a4 at *
           generalize nameB (d.f 1).s = a5 at *
           generalize nameB (d.f 2).s = a6 at *
           generalize selsR (selR k (lv + 1)) (d.f 6).l 0 (lv + 1) = a7 at *
           clear k1 h hk hlv
           simp_all)
    rw [if_neg k1]
    by_cases k2 : (d.f 0).n = 2
    · rw [if_pos k2, k2]
      refine ac_enter 104 Tryz.func159 rfl rfl rfl rfl ?_
      intro s w he
      repeat' (first
 | refine aw_seq ?_
 | refine aw_region ?_
 | refine awo_nil ?_
 | refine k_seq ?_
 | refine aw_block ?_
 | refine aw_skip ?_
 | (apply s_pick_t rfl rfl
    · conv => lhs; whnf
    · conv => lhs; whnf
    · first | exact bT1 (by assumption) | exact bT2 (by assumption))
 | (apply s_pick_f rfl rfl
    · conv => lhs; whnf
    · conv => lhs; whnf
    · first | exact bF1 (by assumption) | exact bF2 (by assumption))
 | (apply s_val rfl
    · conv => lhs; whnf
    · conv => lhs; whnf; arg 2; whnf)
 | (apply s_call rfl
    · conv => lhs; whnf
    · conv => lhs; whnf
    · first | exact h4 | exact h5 | exact h6)
 | (apply s_box rfl rfl rfl rfl
    · conv => lhs; whnf; arg 1; whnf
    · rfl)
 | (apply s_wanted_val rfl
    · conv => lhs; whnf
    · conv => lhs; whnf
    · first | rfl | assumption
    · conv => lhs; whnf; arg 2; whnf)
 | (apply s_wanted_call rfl
    · conv => lhs; whnf
    · conv => lhs; whnf
    · first | rfl | assumption
    · conv => lhs; whnf
    · first | exact h4 | exact h5 | exact h6)
 | (apply s_skipU rfl
    · conv => lhs; whnf
    · conv => lhs; whnf
    · first | rfl | assumption)
 | (apply s_guard_valU rfl
    · conv => lhs; whnf
    · conv => lhs; whnf
    · conv => lhs; whnf; arg 2; whnf)
 | (apply aw_cond_t
    · conv => lhs; whnf; arg 1; arg 1; whnf)
 | (apply aw_cond_f
    · conv => lhs; whnf; arg 1; arg 1; whnf)
 | (refine aw_cond (by conv => lhs; whnf) ?_ ?_ <;> intro hb)
 | refine aw_ret ?_
 | refine k_seq_ret ?_
 | refine k_block_ret ?_
 | refine k_end_ret ?_
 | (refine ⟨_, by conv => lhs; whnf; arg 2; whnf, ?_⟩; conv => rhs; whnf)
 | exact trivial
 | intro hg)
      all_goals
        clear h1 h2 h3 h4 h5 h6 hs hs0 hs1 he e hB
        refine congrArg (fun b => V.c (.bool b)) ?_
        simp only [n1, n2, n3, hz4, hz6] at *
        clear n1 n2 n3 hz4 hz6
        generalize argsR (d.f 4).l = a1 at *
        generalize dirsR (d.f 5).l = a2 at *
        generalize noneS (d.f 1).s = a3 at *
        generalize noneS (d.f 3).s = a4 at *
        generalize decide ((d.f 4).l.length = 0) = a5 at *
        generalize decide ((d.f 6).l.length = 0) = a6 at *
        generalize titleR (d.f 2).s = a7 at *
        clear k1 k2 h hk hlv
        simp_all
    rw [if_neg k2]
    by_cases k3 : (d.f 0).n = 3
    · rw [if_pos k3, k3]
      refine ac_enter 104 Tryz.func159 rfl rfl rfl rfl ?_
      intro s w he
      repeat' (first
 | (apply s_wpick_t rfl rfl rfl
    · conv => lhs; whnf
    · first | rfl | assumption
    · conv => lhs; whnf
    · first | exact bT1 (by assumption) | exact bT2 (by assumption) | rfl)
 | (apply s_wpick_f rfl rfl rfl
    · conv => lhs; whnf
    · first | rfl | assumption
    · conv => lhs; whnf
    · first | exact bF1 (by assumption) | exact bF2 (by assumption) | rfl)
 | refine aw_seq ?_
 | refine aw_region ?_
 | refine awo_nil ?_
 | refine k_seq ?_
 | refine aw_block ?_
 | refine aw_skip ?_
 | (apply s_pick_t rfl rfl
    · conv => lhs; whnf
    · conv => lhs; whnf
    · first | exact bT1 (by assumption) | exact bT2 (by assumption))
 | (apply s_pick_f rfl rfl
    · conv => lhs; whnf
    · conv => lhs; whnf
    · first | exact bF1 (by assumption) | exact bF2 (by assumption))
 | (apply s_val rfl
    · conv => lhs; whnf
    · conv => lhs; whnf; arg 2; whnf)
 | (apply s_call rfl
    · conv => lhs; whnf
    · conv => lhs; whnf
    · first | exact h3 | exact h4 | exact h5 | exact hs1)
 | (apply s_box rfl rfl rfl rfl
    · conv => lhs; whnf; arg 1; whnf
    · rfl)
 | (apply s_wanted_val rfl
    · conv => lhs; whnf
    · conv => lhs; whnf
    · first | rfl | assumption
    · conv => lhs; whnf; arg 2; whnf)
 | (apply s_wanted_call rfl
    · conv => lhs; whnf
    · conv => lhs; whnf
    · first | rfl | assumption
    · conv => lhs; whnf
    · first | exact h3 | exact h4 | exact h5 | exact hs1)
 | (apply s_skipU rfl
    · conv => lhs; whnf
    · conv => lhs; whnf
    · first | rfl | assumption)
 | (apply s_dead rfl
    · conv => lhs; whnf
    · rfl
    · rfl)
 | (apply s_guard_valU rfl
    · conv => lhs; whnf
    · conv => lhs; whnf
    · conv => lhs; whnf; arg 2; whnf)
 | (apply aw_cond_t
    · conv => lhs; whnf; arg 1; arg 1; whnf)
 | (apply aw_cond_f
    · conv => lhs; whnf; arg 1; arg 1; whnf)
 | (refine aw_cond (by conv => lhs; whnf) ?_ ?_ <;> intro hb)
 | refine aw_ret ?_
 | refine k_seq_ret ?_
 | refine k_block_ret ?_
 | refine k_end_ret ?_
 | (refine ⟨_, by conv => lhs; whnf; arg 2; whnf, ?_⟩; conv => rhs; whnf)
 | exact trivial
 | intro hg)
      all_goals first
        | exact i64_ok (by omega)
        | (clear h1 h2 h3 h4 h5 h6 hs hs0 hs1 he e hB
           refine congrArg (fun b => V.c (.bool b)) ?_
           simp only [n1, n2, n3, hz4, hz6] at *
           clear n1 n2 n3 hz4 hz6
           generalize argsR (d.f 4).l = a1 at *
           generalize dirsR (d.f 5).l = a2 at *
           generalize noneS (d.f 1).s = a3 at *
           generalize noneS (d.f 2).s = a4 at *
           generalize noneS (d.f 3).s = a5 at *
           generalize nameB (d.f 3).s = a6 at *
           generalize decide ((d.f 4).l.length = 0) = a8 at *
           generalize selsR (selR k (lv + 1)) (d.f 6).l 1 (lv + 1) = a7 at *
           clear k1 k2 k3 h hk hlv
           simp_all)
    rw [if_neg k3]
    have f1 : ((d.f 0).n == 1) = false := by simpa using k1
    have f2 : ((d.f 0).n == 2) = false := by simpa using k2
    have f3 : ((d.f 0).n == 3) = false := by simpa using k3
    refine ac_enter 104 Tryz.func159 rfl rfl rfl rfl ?_
    intro s w he
    repeat' (first
 | (apply aw_cond_kf
    · conv => lhs; whnf
    · assumption)
 | refine aw_seq ?_
 | refine aw_region ?_
 | refine awo_nil ?_
 | refine k_seq ?_
 | refine k_block ?_
 | refine aw_block ?_
 | refine aw_skip ?_
 | (apply s_pick_t rfl rfl
    · conv => lhs; whnf
    · conv => lhs; whnf
    · first | exact bT1 (by assumption) | exact bT2 (by assumption))
 | (apply s_pick_f rfl rfl
    · conv => lhs; whnf
    · conv => lhs; whnf
    · first | exact bF1 (by assumption) | exact bF2 (by assumption))
 | (apply s_val rfl
    · conv => lhs; whnf
    · conv => lhs; whnf; arg 2; whnf)
 | (apply s_call rfl
    · conv => lhs; whnf
    · conv => lhs; whnf
    · first | exact h4 | exact h5)
 | (apply s_box rfl rfl rfl rfl
    · conv => lhs; whnf; arg 1; whnf
    · rfl)
 | (apply s_wanted_val rfl
    · conv => lhs; whnf
    · conv => lhs; whnf
    · first | rfl | assumption
    · conv => lhs; whnf; arg 2; whnf)
 | (apply s_wanted_call rfl
    · conv => lhs; whnf
    · conv => lhs; whnf
    · first | rfl | assumption
    · conv => lhs; whnf
    · first | exact h4 | exact h5)
 | (apply s_skipU rfl
    · conv => lhs; whnf
    · conv => lhs; whnf
    · first | rfl | assumption)
 | (apply s_guard_valU rfl
    · conv => lhs; whnf
    · conv => lhs; whnf
    · conv => lhs; whnf; arg 2; whnf)
 | (apply aw_cond_t
    · conv => lhs; whnf; arg 1; arg 1; whnf)
 | (refine aw_cond (by conv => lhs; whnf) ?_ ?_ <;> intro hb)
 | refine aw_ret ?_
 | refine k_seq_ret ?_
 | refine k_end_ret ?_
 | (refine ⟨_, by conv => lhs; whnf; arg 2; whnf, ?_⟩; conv => rhs; whnf)
 | exact trivial
 | intro hg)
    all_goals
      clear h1 h2 h3 h4 h5 h6 hs hs0 hs1 he e hB
      refine congrArg (fun b => V.c (.bool b)) ?_
      simp
set_option maxHeartbeats 8000000 in
set_option maxRecDepth 100000 in
/-- a set of selections is right -/
theorem set_ac (l : List D) (hw : bulkL l ≤ 1000000000) : AC EN5 Tryz.prog 80 [.sl 76 l, .c (.int .i64 1), .c (.int .i64 1)] (.c (.bool (setR l))) :=
  sels_of l 1 1 (selR (bulkL l) 1) hw fun i hi => sel_ac _ _ _ (bulkL_get hi) hw (by omega)
end Go.Proofs.YthjiclhfhjdjpaaGreatDoor
namespace Go.Proofs.YthjiclhfhjdjpaaGreatDoor
open Go.RowKit
attribute [local irreducible] wpList Calls Code.wp
section
variable {P : Program} {s : Sg} {w w' : World} {pas : Nat → Prop} {B : Nat} {rs : Nat → Option Res}
theorem keeps_grow0 (h : MemOk P pas B rs s w) (cur : Array Value) (e : TypeId) (n : Nat) : Keeps s.F (fun b o => s.F b o ∨ (b = w.heap.size ∧ o < n)) w (w.alloc (.cells cur e)) := fun b o hF =>
  ⟨(cell_alloc (w := w) (h.fx b o hF)).trans rfl, .inl hF⟩
theorem MemOk.tokNew0 (h : MemOk P pas B rs s w) (hB : B ≤ w.heap.size) {k : Nat} (X : Nat → Prop) (hX : ∀ q, X q → q = k) (hf : ∀ q ρ, q ≠ k → rs q = some ρ → ∀ n, X n → ρ.free n = true) {cur : Array Value} {e : TypeId} {c m : Nat} (hc : cur.size = c * P.cellsOf e) (hm : m ≤ c) (hmx : c ≤ maxLen)
    (hx : Ext X s w (s.tok k w.heap.size (m * P.cellsOf e) (.slice (some ⟨w.heap.size, 0, none⟩) m c) m) (w.alloc (.cells cur e))) :
    MemOk P pas B (updR rs k (.tok e m)) (s.tok k w.heap.size (m * P.cellsOf e) (.slice (some ⟨w.heap.size, 0, none⟩) m c) m) (w.alloc (.cells cur e)) where
  fx b o hF := by
    rcases hF with hF | ⟨rfl, hF⟩
    · rw [cell_alloc (w := w) (h.fx b o hF)]; exact h.fx b o hF
    · have : o < cur.size := by rw [hc]; exact Nat.lt_of_lt_of_le hF (Nat.mul_le_mul_right _ hm)
      have h2 := cell_new (w := w) (t := e) (Array.getElem?_eq_getElem this)
      exact Option.isSome_iff_exists.2 ⟨_, h2⟩
  ho q ρ hq := by
    by_cases e' : q = k
    · subst e'
      simp only [updR, if_true] at hq
      cases hq
      refine ⟨by simp [Sg.tok], .inr ⟨w.heap.size, c, cur, by simp [Sg.tok], by simp [Sg.tok], heap_alloc_new w _, hm, hmx, hc, fun o ho hF => ?_⟩⟩
      rcases hF with hF | ⟨_, hF⟩
      · obtain ⟨v, hv⟩ := Option.isSome_iff_exists.1 (h.fx _ o hF)
        have := block_lt_of_cell hv
        simp at this
      · omega
    · simp only [updR, if_neg e'] at hq
      refine (h.ho q ρ hq).keep hx (fun hXq => e' (hX q hXq)) (by simp [Sg.tok, e']) (by simp [Sg.tok, e']) (fun n hn => hf q ρ e' hq n hn) (fun b hb => Below.heap_alloc w _ _ ((h.ho q ρ hq).lt hb)) (fun b o hb hF => ?_)
      rcases hF with hF | ⟨rfl, _⟩
      · exact hF
      · have := (h.ho q ρ hq).lt hb; omega
  bs q ρ b hq hb := by
    by_cases e' : q = k
    · subst e'
      simp only [updR, if_true] at hq
      cases hq
      simp only [Sg.bk, Sg.tok, if_true] at hb
      cases hb; exact .inl hB
    · simp only [updR, if_neg e'] at hq
      rw [blk_tok e'] at hb
      exact h.bs q ρ b hq hb
  dj q r ρ ρ' b hq hr hqb hrb := by
    by_cases e1 : q = k <;> by_cases e2 : r = k
    · rw [e1, e2]
    · simp only [updR, if_neg e2] at hr
      rw [blk_tok e2] at hrb
      subst e1
      simp only [updR, if_true] at hq
      cases hq
      simp only [Sg.bk, Sg.tok, if_true] at hqb
      cases hqb
      have := (h.ho r ρ' hr).lt hrb
      omega
    · simp only [updR, if_neg e1] at hq
      rw [blk_tok e1] at hqb
      subst e2
      simp only [updR, if_true] at hr
      cases hr
      simp only [Sg.bk, Sg.tok, if_true] at hrb
      cases hrb
      have := (h.ho q ρ hq).lt hqb
      omega
    · simp only [updR, if_neg e1] at hq
      simp only [updR, if_neg e2] at hr
      rw [blk_tok e1] at hqb
      rw [blk_tok e2] at hrb
      exact h.dj q r ρ ρ' b hq hr hqb hrb
end
section
variable {X : Cx} {nn : Nat} {st : Vst nn} {o : Oper} {K : Vst nn → Prop}
theorem opOk_lit0 {t e : TypeId} {by_ d : Nat} (ho : o.op = .buildSlice t 0 #[]) (hd : o.dst = some d) (hdl : Nat.ble d 999999 = true) (he : elemOk X.P t = some (e, by_))
    (hK : K (((st.kill d).res d (.tok e 0)).put (some d) (.own d e []))) : OpOk X o st K := by
  intro s w a hI N Q hP hN
  obtain ⟨hu, hlay, i, z, hi, hz, hb, hpos, hzs, hsz⟩ := elemOk_ok he
  have ha : (Instr.buildSlice t 0 #[]).run X.P w = .ok (.slice (some ⟨w.heap.size, 0, none⟩) 0 0) (w.alloc (.cells #[] e)) := by
    simp [Instr.buildSlice, run_underlying hu, sizeOf, typeInfo, hi, Instr.fill, newRow]
    have hr0 : Array.map (fun _ : Nat => (default : Value)) (Array.range 0) = #[] := by apply Array.ext <;> simp
    rw [hr0]
  unfold Oper.wp
  have hrun : (execOp a.eval o).run X.P w = .ok (.value (.slice (some ⟨w.heap.size, 0, none⟩) 0 0)) (w.alloc (.cells #[] e)) := by simp [execOp, ho, ha]
  rw [hrun, Oper.upon_value, hd]
  have hI' := hI.kill d
  have hkeep : Keeps s.F (s.tok d w.heap.size (0 * X.P.cellsOf e) (.slice (some ⟨w.heap.size, 0, none⟩) 0 0) 0).F w (w.alloc (.cells #[] e)) := keeps_grow0 hI.mem _ e _
  have hext : Ext (fun m => m = d) s w (s.tok d w.heap.size (0 * X.P.cellsOf e) (.slice (some ⟨w.heap.size, 0, none⟩) 0 0) 0) (w.alloc (.cells #[] e)) :=
    ⟨hkeep, fun _ _ => rfl, fun q hq => .inl (by simp only [Sg.tok]; rw [if_neg hq])⟩
  have hmem := hI'.mem.tokNew0 hI.base (k := d) (fun m => m = d) (fun _ h => h) free_kill (cur := #[]) (c := 0) (m := 0) (by simp) (Nat.le_refl _) (Nat.zero_le _) hext
  refine hN _ _ _ _ (Inv.put (st := (st.kill d).res d (.tok e 0)) (v := .own d e []) ⟨hI.sz, fun i hi => ?_, hI.df, hI.fr.trans (frm_alloc w _ _) (q := fun _ => False) (fun _ h => h.elim), hI.kp.trans hkeep, fun b o hb hnp hF => ?_, hmem, hI.pe.ext hext fun m hm => by subst hm; exact Nat.le_of_ble_eq_true hdl⟩ (some d) ?_) hK
  · exact rel.ext hext _ _ (killV_rel (hI.tm i hi)).1 fun n hn => by subst hn; exact (killV_rel (hI.tm i hi)).2
  · rcases hF with hF | ⟨rfl, _⟩
    · exact hI.nf b o hb hnp hF
    · have := hI.base; omega
  · rw [rel]
    exact ⟨slice_of_cells (l := []) (Nat.le_refl _) (Nat.zero_le _) fun k hk => absurd hk (Nat.not_lt_zero k), by simp [Sg.tok], fun _ => by simp [Sg.tok]⟩
theorem opOk_append_none {t e : TypeId} {by_ k : Nat} {x y : Operand} {l : List D} (ho : o.op = .call { callee := .builtin .append, args := #[x, y], argTypes := #[t, t] }) (he : elemOk X.P t = some (e, by_))
    (hx : ev st x = .own k e l) (hy : (ev st y).out = .sl e []) (hK : K (st.put o.dst (.own k e l))) : OpOk X o st K := by
  intro s w a hI N Q hP hN
  obtain ⟨hu, hlay, i, z, hi, hz, hb, hsp, hzs, hsz⟩ := elemOk_ok he
  have hxe := hI.ev x
  rw [hx, rel] at hxe
  obtain ⟨k1, A, c1, hA, hc1, -, -, -⟩ := id hxe.1
  unfold Oper.wp
  have hye := rel.out _ _ (hI.ev y)
  rw [hy, rel] at hye
  obtain ⟨k2, A2, c2, hy2, -, -, -, -⟩ := hye
  have hrun : (Builtin.append_ #[t, t] o.type #[a.eval x, a.eval y]).run X.P w = .ok (a.eval x) w := by
    rw [hA, hy2]
    have hsz : (sizeOf e).run X.P w = .ok (X.P.cellsOf e) w := by simp [sizeOf, typeInfo, hi, hsz]
    have hld : ∀ q, (loadCells q 0).run X.P w = .ok #[] w := fun q => by simp [loadCells, loadCellsFrom]
    cases A <;> cases A2 <;> simp [Builtin.append_, run_underlying hu, hsz, Builtin.lenOf, Builtin.firstCells, storeCells, hld, Nat.not_lt.2 hc1]
  rw [run_append ho hrun, Oper.upon_value]
  refine hN _ _ _ _ (hI.put o.dst ?_) hK
  rw [rel]
  exact hxe
theorem res_same0 {k : Nat} {ρ : Res} (h : st.rs k = some ρ) : st.res k ρ = st := by
  have e : (st.res k ρ).rs = st.rs := funext fun m => by
    show updR st.rs k ρ m = _
    unfold updR
    split
    · rename_i e; rw [e, h]
    · rfl
  calc st.res k ρ = ⟨(st.res k ρ).tm, (st.res k ρ).rs⟩ := rfl
    _ = st := by rw [e]; rfl
/-- append onto a slice under way, of anything -/
theorem opOk_appendG {t e : TypeId} {by_ k : Nat} {x y : Operand} {l l2 : List D} (ho : o.op = .call { callee := .builtin .append, args := #[x, y], argTypes := #[t, t] }) (he : elemOk X.P t = some (e, by_))
    (hleaf : ∀ d, (cellsV X.P 12 e d).all V.leaf = true) (hx : ev st x = .own k e l) (hr : st.rs k = some (.tok e l.length)) (hy : (ev st y).out = .sl e l2) (hlen : l.length + l2.length ≤ maxLen) (hby : (l.length + l2.length) * by_ ≤ 140737488355328)
    (hK : K ((st.res k (.tok e (l.length + l2.length))).put o.dst (.own k e (l ++ l2)))) : OpOk X o st K := by
  rcases Nat.eq_zero_or_pos l2.length with h0 | h0
  · have hl0 : l2 = [] := List.eq_nil_of_length_eq_zero h0
    subst hl0
    rw [List.length_nil, Nat.add_zero, res_same0 hr, List.append_nil] at hK
    exact opOk_append_none ho he hx hy hK
  · exact opOk_append_own ho he hleaf hx hr hy h0 hlen hby hK
end
end Go.Proofs.YthjiclhfhjdjpaaGreatDoor
namespace Go.Proofs.YthjiclhfhjdjpaaGreatDoor
open Go.RowKit
attribute [local irreducible] wpList Calls Code.wp
section
variable {X : Cx} {nn : Nat} {st : Vst nn} {ops : Array Oper} {o : Oper}
/-- a name is used nowhere -/
def Fresh (st : Vst nn) (d : Nat) : Prop := (∀ i, (st.tm i).free d = true) ∧ ∀ m ρ, st.rs m = some ρ → m ≠ d ∧ ρ.free d = true
theorem fresh_kill {d : Nat} (h : Fresh st d) : st.kill d = st := by
  have e1 : (st.kill d).tm = st.tm := funext fun i => by
    show killV d (st.tm i) = _
    unfold killV; rw [if_pos (h.1 i)]
  have e2 : (st.kill d).rs = st.rs := funext fun m => by
    unfold Vst.kill
    dsimp only
    cases hm : st.rs m with
    | none => split <;> rfl
    | some ρ =>
      have := h.2 m ρ hm
      rw [if_neg this.1]
      simp [this.2]
  calc st.kill d = ⟨(st.kill d).tm, (st.kill d).rs⟩ := rfl
    _ = st := by rw [e1, e2]
theorem opOk_allocF {t : TypeId} {d : Nat} {vs : List V} {K : Vst nn → Prop} (ho : o.op = .alloc t) (hd : o.dst = some d) (hdl : Nat.ble d 999999 = true) (hc : zeroV X.P t = some vs) (hf : freeL d vs = true) (hfr : Fresh st d)
    (hK : K ((st.res d (.box t vs)).put (some d) (.bx d 0))) : OpOk X o st K := by
  refine opOk_alloc ho hd hdl hc hf ?_
  rw [fresh_kill hfr]; exact hK
theorem fresh_stp {d : Nat} {t : Option Tmp} {v : V} {u : List (Nat × Res)} (h : Fresh st d) (hv : v.free d = true) (hu : ∀ p ∈ u, p.1 ≠ d ∧ p.2.free d = true) : Fresh (stp st t v u) d := by
  unfold stp
  have hr : ∀ m ρ, updL st.rs u m = some ρ → m ≠ d ∧ ρ.free d = true := by
    intro m ρ hm
    induction u with
    | nil => exact h.2 m ρ hm
    | cons x u ih =>
      obtain ⟨k, ρ'⟩ := x
      change (if m = k then some ρ' else updL st.rs u m) = some ρ at hm
      split at hm
      · rename_i e
        cases hm
        have := hu (k, ρ) (List.mem_cons_self ..)
        exact ⟨by rw [e]; exact this.1, this.2⟩
      · exact ih (fun p hp => hu p (List.mem_cons_of_mem _ hp)) hm
  cases t with
  | none => exact ⟨h.1, hr⟩
  | some t =>
    refine ⟨fun i => ?_, hr⟩
    show (if i = t then v else st.tm i).free d = true
    split
    · exact hv
    · exact h.1 i
theorem fresh_put {d : Nat} {t : Option Tmp} {v : V} (h : Fresh st d) (hv : v.free d = true) : Fresh (st.put t v) d := fresh_stp (u := []) h hv (fun _ hp => by cases hp)
theorem fresh_res {d m : Nat} {ρ : Res} (h : Fresh st d) (hm : Nat.beq m d = false) (hv : ρ.free d = true) : Fresh (st.res m ρ) d := by
  refine ⟨h.1, fun q ρ' hq => ?_⟩
  change updR st.rs m ρ q = some ρ' at hq
  unfold updR at hq
  split at hq
  · rename_i e
    cases hq
    subst e
    exact ⟨fun e2 => by rw [e2] at hm; simp at hm, hv⟩
  · exact h.2 q ρ' hq
theorem fresh_S {d : Nat} {cs : List (Nat × V)} {R : List (Nat × Res)} (h : (cs.all (fun p => p.2.free d) && R.all fun p => !(Nat.beq p.1 d) && p.2.free d) = true) : Fresh (stS nn cs R) d := by
  rw [Bool.and_eq_true, List.all_eq_true, List.all_eq_true] at h
  refine ⟨fun i => ?_, fun m ρ hm => ?_⟩
  · simp only [stS]
    split
    · rename_i p hp; exact h.1 p (List.mem_of_find?_eq_some hp)
    · rfl
  · simp only [stS] at hm
    split at hm
    · rename_i p hp
      have he := List.find?_some hp
      simp at he
      cases hm
      have := h.2 p (List.mem_of_find?_eq_some hp)
      rw [Bool.and_eq_true] at this
      refine ⟨fun e => ?_, this.2⟩
      rw [he, e] at this
      simp at this
    · cases hm
theorem opOk_lit0F {t e : TypeId} {by_ d : Nat} {K : Vst nn → Prop} (ho : o.op = .buildSlice t 0 #[]) (hd : o.dst = some d) (hdl : Nat.ble d 999999 = true) (he : elemOk X.P t = some (e, by_)) (hfr : Fresh st d)
    (hK : K ((st.res d (.tok e 0)).put (some d) (.own d e []))) : OpOk X o st K := by
  refine opOk_lit0 ho hd hdl he ?_
  rw [fresh_kill hfr]; exact hK
/-- what an operation yields holds none of these names -/
def nfB (fr : List Nat) (v : V) (u : List (Nat × Res)) : Bool := fr.all fun d => v.free d && u.all fun p => !(Nat.beq p.1 d) && p.2.free d
inductive YldA (X : Cx) (ops : Array Oper) (fr rd wr : List Nat) (o : Oper) (st : Vst nn) : V → List (Nat × Res) → Prop where
  | old {v : V} {u : List (Nat × Res)} (h : YldG X ops rd wr o st v u) (hf : nfB fr v u = true) : YldA X ops fr rd wr o st v u
  | alloc {t : TypeId} {d : Nat} {vs : List V} (hg : o.guard = none) (ho : o.op = .alloc t) (hd : o.dst = some d) (hdl : Nat.ble d 999999 = true) (hc : zeroV X.P t = some vs) (hfd : freeL d vs = true) (hw : wr.contains d = true) (hf : nfB fr (.bx d 0) [(d, .box t vs)] = true) : YldA X ops fr rd wr o st (.bx d 0) [(d, .box t vs)]
  | lit0 {t e : TypeId} {by_ d : Nat} (hg : o.guard = none) (ho : o.op = .buildSlice t 0 #[]) (hd : o.dst = some d) (hdl : Nat.ble d 999999 = true) (he : elemOk X.P t = some (e, by_)) (hw : wr.contains d = true) (hf : nfB fr (.own d e []) [(d, .tok e 0)] = true) : YldA X ops fr rd wr o st (.own d e []) [(d, .tok e 0)]
  | app {t e : TypeId} {by_ k : Nat} {x y : Operand} {l l2 : List D} (hg : o.guard = none) (hw : wr.contains k = true) (ho : o.op = .call { callee := .builtin .append, args := #[x, y], argTypes := #[t, t] }) (he : elemOk X.P t = some (e, by_)) (hleaf : ∀ d, (cellsV X.P 12 e d).all V.leaf = true)
      (hx : ev st x = .own k e l) (hr : st.rs k = some (.tok e l.length)) (hy : (ev st y).out = .sl e l2) (hp : l.length + l2.length ≤ maxLen ∧ (l.length + l2.length) * by_ ≤ 140737488355328) (hf : nfB fr (.own k e (l ++ l2)) [(k, .tok e (l.length + l2.length))] = true) :
      YldA X ops fr rd wr o st (.own k e (l ++ l2)) [(k, .tok e (l.length + l2.length))]
theorem YldA.of {fr rd wr : List Nat} {d : Option Tmp} {v v' : V} {u u' : List (Nat × Res)} (hd : ∀ t, d = some t → t ∉ o.looksAt ops) (hu : Off rd wr u') :
    YldA X ops fr rd wr o (stp st d v' u') v u ↔ YldA X ops fr rd wr o st v u := by
  have evs : ∀ x ∈ o.op.operands, ev (stp st d v' u') x = ev st x := fun x hx => ev_stp fun t ht hxt => hd t ht (by
    subst hxt
    exact List.mem_append_left _ (List.mem_filterMap.2 ⟨.tmp t, by simpa using hx, rfl⟩))
  have hrs : ∀ n, wr.contains n = true → (stp st d v' u').rs n = st.rs n := fun n hn => by
    rw [stp_rs]; exact updL_off hu (.inr hn)
  constructor
  · intro h
    cases h with
    | old h hf => exact .old ((YldG.of hd hu).1 h) hf
    | alloc hg ho hd' hdl hc hfd hw hf => exact .alloc hg ho hd' hdl hc hfd hw hf
    | lit0 hg ho hd' hdl he hw hf => exact .lit0 hg ho hd' hdl he hw hf
    | app hg hw ho he hleaf hx hr hy hp hf =>
      rw [evs _ (by rw [ho]; simp [Op.operands, Call.operands])] at hx
      rw [evs _ (by rw [ho]; simp [Op.operands, Call.operands])] at hy
      rw [hrs _ hw] at hr
      exact .app hg hw ho he hleaf hx hr hy hp hf
  · intro h
    cases h with
    | old h hf => exact .old ((YldG.of hd hu).2 h) hf
    | alloc hg ho hd' hdl hc hfd hw hf => exact .alloc hg ho hd' hdl hc hfd hw hf
    | lit0 hg ho hd' hdl he hw hf => exact .lit0 hg ho hd' hdl he hw hf
    | app hg hw ho he hleaf hx hr hy hp hf =>
      rw [← evs _ (by rw [ho]; simp [Op.operands, Call.operands])] at hx
      rw [← evs _ (by rw [ho]; simp [Op.operands, Call.operands])] at hy
      rw [← hrs _ hw] at hr
      exact .app hg hw ho he hleaf hx hr hy hp hf
theorem YldA.names {fr rd wr : List Nat} {v : V} {u : List (Nat × Res)} (h : YldA X ops fr rd wr o st v u) : ∀ p ∈ u, wr.contains p.1 = true := by
  cases h with
  | old h hf => exact h.names
  | alloc hg ho hd' hdl hc hfd hw hf => exact fun p hp => by simp at hp; subst hp; exact hw
  | lit0 hg ho hd' hdl he hw hf => exact fun p hp => by simp at hp; subst hp; exact hw
  | app hg hw ho he hleaf hx hr hy hp hf => exact fun p hp => by simp at hp; subst hp; exact hw
theorem YldA.nf {fr rd wr : List Nat} {v : V} {u : List (Nat × Res)} (h : YldA X ops fr rd wr o st v u) : nfB fr v u = true := by
  cases h with
  | old h hf => exact hf
  | alloc hg ho hd' hdl hc hfd hw hf => exact hf
  | lit0 hg ho hd' hdl he hw hf => exact hf
  | app hg hw ho he hleaf hx hr hy hp hf => exact hf
theorem nfB_ok {fr : List Nat} {v : V} {u : List (Nat × Res)} (h : nfB fr v u = true) {d : Nat} (hd : d ∈ fr) : v.free d = true ∧ ∀ p ∈ u, p.1 ≠ d ∧ p.2.free d = true := by
  have := List.all_eq_true.1 h d hd
  rw [Bool.and_eq_true, List.all_eq_true] at this
  refine ⟨this.1, fun p hp => ?_⟩
  have h2 := this.2 p hp
  rw [Bool.and_eq_true] at h2
  exact ⟨fun e => by rw [e] at h2; simp at h2, h2.2⟩
variable {fr rd wr : Nat → List Nat}
def aOpH (X : Cx) (ops : Array Oper) (fr rd wr : Nat → List Nat) (i : Nat) (K : Vst nn → Prop) (st : Vst nn) : Prop :=
  match ops[i]? with
  | none => K st
  | some o => ∃ v u, YldA X ops (fr i) (rd i) (wr i) o st v u ∧ K (stp st o.dst v u)
theorem aOpH_mono {i : Nat} {K K' : Vst nn → Prop} (h : ∀ st, K st → K' st) (hh : aOpH X ops fr rd wr i K st) : aOpH X ops fr rd wr i K' st := by
  unfold aOpH at *
  split
  · rename_i hn; simp only [hn] at hh; exact h _ hh
  · rename_i o ho
    simp only [ho] at hh
    obtain ⟨v, u, h1, h2⟩ := hh
    exact ⟨v, u, h1, h _ h2⟩
def absAnyH (X : Cx) (ops : Array Oper) (fr rd wr : Nat → List Nat) (Q : Vst nn → Prop) : Nat → Array Bool → Vst nn → Prop
  | 0, listed, st => Region.ready .any ops listed = [] ∧ Q st
  | fuel + 1, listed, st => (Region.ready .any ops listed = [] → Q st) ∧ ∀ i ∈ Region.ready .any ops listed, aOpH X ops fr rd wr i (absAnyH X ops fr rd wr Q fuel (listed.setIfInBounds i true)) st
theorem aOpH_put {i j : Nat} {oi oj : Oper} {v : V} {u : List (Nat × Res)} (hj : ops[j]? = some oj) (hap : oi.apart ops oj = true) (hn : disjB (wr i) (rd j) = true ∧ disjB (wr i) (wr j) = true ∧ disjB (wr j) (rd i) = true) {K : Vst nn → Prop} (hy : YldA X ops (fr i) (rd i) (wr i) oi st v u) (h : aOpH X ops fr rd wr j K (stp st oi.dst v u)) :
    aOpH X ops fr rd wr j (fun st' => YldA X ops (fr i) (rd i) (wr i) oi st' v u ∧ K (stp st' oi.dst v u)) st := by
  obtain ⟨h1, h2, h3⟩ := Oper.apart_spec hap
  unfold aOpH at *
  simp only [hj] at *
  obtain ⟨v', u', hy', hK⟩ := h
  have hu : Off (rd j) (wr j) u := fun p hp => by
    have hw := hy.names p hp
    refine ⟨?_, ?_⟩
    · cases hq : (rd j).contains p.1
      · rfl
      · exact (disjB_ok hn.1 hw hq).elim
    · cases hq : (wr j).contains p.1
      · rfl
      · exact (disjB_ok hn.2.1 hw hq).elim
  have hyj : YldA X ops (fr j) (rd j) (wr j) oj st v' u' := (YldA.of h1 hu).1 hy'
  have hu' : Off (rd i) (wr i) u' := fun p hp => by
    have hw := hyj.names p hp
    refine ⟨?_, ?_⟩
    · cases hq : (rd i).contains p.1
      · rfl
      · exact (disjB_ok hn.2.2 hw hq).elim
    · cases hq : (wr i).contains p.1
      · rfl
      · exact (disjB_ok hn.2.1 hq hw).elim
  have huu : ∀ p ∈ u, ∀ q ∈ u', p.1 ≠ q.1 := fun p hp q hq e => by
    have h5 := hy.names p hp
    have h6 := hyj.names q hq
    rw [← e] at h6
    exact disjB_ok hn.2.1 h5 h6
  exact ⟨v', u', hyj, (YldA.of h3 hu').2 hy, by rw [← stp_commG h2 huu]; exact hK⟩
theorem absAnyH_first {Q : Vst nn → Prop} {i : Nat} {oi : Oper} {v : V} {u : List (Nat × Res)} (hi : ops[i]? = some oi) (hN : namesB ops rd wr = true) :
    ∀ (fuel : Nat) (listed : Array Bool) (st : Vst nn), Closed ops listed → (∀ j, j < i → listed.getD j false = true) →
      (∀ j oj, ops[j]? = some oj → j ≠ i → listed.getD j true = false → (∀ e ∈ oj.after, Region.binds .any e = true → e.on ≠ i) → oi.apart ops oj = true) →
      i ∈ Region.ready .any ops listed → YldA X ops (fr i) (rd i) (wr i) oi st v u →
      absAnyH X ops fr rd wr Q fuel (listed.setIfInBounds i true) (stp st oi.dst v u) → absAnyH X ops fr rd wr Q (fuel + 1) listed st := by
  intro fuel
  induction fuel with
  | zero =>
    intro listed st _ _ _ hr hy H
    refine ⟨fun h => (by rw [h] at hr; cases hr), fun j hj => ?_⟩
    by_cases hji : j = i
    · subst hji; unfold aOpH; simp only [hi]; exact ⟨v, u, hy, H⟩
    · have := ready_mono hj hji
      rw [H.1] at this
      cases this
  | succ fuel ih =>
    intro listed st hcl hlow hfree hr hy H
    refine ⟨fun h => (by rw [h] at hr; cases hr), fun j hj => ?_⟩
    by_cases hji : j = i
    · subst hji; unfold aOpH; simp only [hi]; exact ⟨v, u, hy, H⟩
    · have h1 := H.2 j (ready_mono hj hji)
      obtain ⟨hjun, oj, hoj, hall⟩ := mem_ready.1 hj
      have hiun := (mem_ready.1 hr).1
      have hnot : ∀ e ∈ oj.after, Region.binds .any e = true → e.on ≠ i := fun e he hb heq => by
        have h1 := hall e he hb
        rw [heq] at h1
        exact listed_both hiun h1
      have hij : i < j := by
        rcases Nat.lt_trichotomy i j with h | h | h
        · exact h
        · exact absurd h.symm hji
        · exact (listed_both hjun (hlow j h)).elim
      have hsz : j < ops.size := (Array.getElem?_eq_some_iff.1 hoj).1
      have hnm : disjB (wr i) (rd j) = true ∧ disjB (wr i) (wr j) = true ∧ disjB (wr j) (rd i) = true := by
        have h2 := List.all_eq_true.1 (List.all_eq_true.1 hN j (List.mem_range.2 hsz)) i (List.mem_range.2 hij)
        rw [Bool.or_eq_true] at h2
        rcases h2 with h2 | h2
        · simp only [Bool.and_eq_true] at h2; exact ⟨h2.1.1, h2.1.2, h2.2⟩
        · refine (listed_both hiun (reach_ok hcl _ _ (fun k hk => ?_) i (by simpa using h2))).elim
          unfold waits at hk
          rw [hoj] at hk
          obtain ⟨e, he, rfl⟩ := List.mem_map.1 hk
          obtain ⟨h2, h3⟩ := List.mem_filter.1 he
          exact hall e (by simpa using h2) h3
      have h2 := aOpH_put (i := i) hoj (hfree j oj hoj hji hjun hnot) hnm hy h1
      have hfree' : ∀ k ok, ops[k]? = some ok → k ≠ i → (listed.setIfInBounds j true).getD k true = false →
          (∀ e ∈ ok.after, Region.binds .any e = true → e.on ≠ i) → oi.apart ops ok = true := fun k ok hk hki hun hno => by
        refine hfree k ok hk hki ?_ hno
        by_cases hjk : j = k
        · subst hjk; exact hjun
        · rw [getD_set_ne true hjk] at hun; exact hun
      refine aOpH_mono (fun st' h3 => ih (listed.setIfInBounds j true) st' (hcl.set hj) (fun k hk => getD_set_true (hlow k hk)) hfree' (ready_mono hr (Ne.symm hji)) h3.1 ?_) h2
      rw [Array.setIfInBounds_comm _ _ hji]
      exact h3.2
/-- the walk of the text's order -/
def absLexH (X : Cx) (ops : Array Oper) (fr rd wr : Nat → List Nat) (Q : Vst nn → Prop) : Nat → List Oper → Vst nn → Prop
  | _, [], st => Q st
  | k, o :: rest, st => ∃ v u, YldA X ops (fr k) (rd k) (wr k) o st v u ∧ absLexH X ops fr rd wr Q (k + 1) rest (stp st o.dst v u)
theorem absAnyH_lex {Q : Vst nn → Prop} (hN : namesB ops rd wr = true) : ∀ (l : List Oper) (k : Nat) (listed : Array Bool) (st : Vst nn), (∀ j, l[j]? = ops[k + j]?) → Closed ops listed → (∀ j, j < k → listed.getD j false = true) → listed.size = ops.size →
    Region.lexFrom .any ops l.length k listed = true → absLexH X ops fr rd wr Q k l st → absAnyH X ops fr rd wr Q l.length listed st
  | [], _, _, _, _, _, _, _, hB, h => ⟨by simpa [Region.lexFrom] using hB, h⟩
  | o :: l, k, listed, st, hl, hcl, hlow, hsz, hB, h => by
    have h0 : ops[k]? = some o := by simpa using (hl 0).symm
    have hk : k < ops.size := (Array.getElem?_eq_some_iff.1 h0).1
    simp only [List.length_cons, Region.lexFrom, Bool.and_eq_true] at hB
    obtain ⟨⟨hr, hf⟩, hB'⟩ := hB
    have hr : k ∈ Region.ready .any ops listed := by simpa using hr
    obtain ⟨v, u, hy, hK⟩ := h
    exact absAnyH_first h0 hN l.length listed st hcl hlow (Region.free_spec h0 hf) hr hy
      (absAnyH_lex hN l (k + 1) _ _ (fun j => by have := hl (j + 1); simpa [Nat.add_assoc, Nat.add_comm 1 j] using this) (hcl.set hr) (fun j hj => by
        by_cases e : j = k
        · subst e; exact set_self_true (by omega)
        · exact getD_set_true (hlow j (by omega))) (by simpa using hsz) hB' hK)
/-- names that an operation must not hold: those of variables that may be laid behind it -/
def frOf (ops : Array Oper) (R : List (Nat × Nat)) (j : Nat) : List Nat := (R.filter fun p => !(Nat.beq p.1 j) && !(reachS ops ops.size (waits ops j)).contains p.1).map (·.2)
theorem wpAny_of_absH (R : List (Nat × Nat)) (hR : ∀ i o t d, ops[i]? = some o → (o.op = .alloc t ∨ o.op = .buildSlice t 0 #[]) → o.dst = some d → (i, d) ∈ R) {Q : Vst nn → Prop} {Q' : Exit → Act → World → Prop} (hP : PQ X nn Q') (hQ : ∀ st' s' w' a', Inv X st' s' w' a' → Q st' → Q' .normal a' w') : ∀ (fuel : Nat) (listed : Array Bool) (st : Vst nn) (s : Sg) (w : World) (a : Act), Closed ops listed → (∀ p ∈ R, listed.getD p.1 true = false → Fresh st p.2) → Inv X st s w a →
    absAnyH X ops (frOf ops R) rd wr Q fuel listed st → wpAny X.P .any ops Q' fuel listed a w
  | 0, _, _, _, _, _, _, _, hI, h => ⟨h.1, hQ _ _ _ _ hI h.2⟩
  | fuel + 1, listed, st, s, w, a, hcl, hfr, hI, h => ⟨fun h0 => hQ _ _ _ _ hI (h.1 h0), fun i hi => by
    have h1 := h.2 i hi
    obtain ⟨hiun, oi, hoi, hall⟩ := mem_ready.1 hi
    unfold aOpH at h1
    unfold wpOp
    simp only [hoi] at h1 ⊢
    obtain ⟨v, u, hy, hK⟩ := h1
    have hnf := hy.nf
    have hfr' : ∀ p ∈ R, (listed.setIfInBounds i true).getD p.1 true = false → Fresh (stp st oi.dst v u) p.2 := fun p hp hl => by
      have hne : p.1 ≠ i := fun e => by
        rw [e] at hl
        have hsz : i < listed.size ∨ ¬ i < listed.size := Nat.lt_or_ge i listed.size |>.imp id fun h => by omega
        rw [Array.getD_eq_getD_getElem?, Array.getElem?_setIfInBounds] at hl
        rcases hsz with hsz | hsz
        · simp [hsz] at hl
        · simp [hsz] at hl
      have hl2 : listed.getD p.1 true = false := by rwa [getD_set_ne true (Ne.symm hne)] at hl
      have hmem : p.2 ∈ frOf ops R i := by
        refine List.mem_map.2 ⟨p, List.mem_filter.2 ⟨hp, ?_⟩, rfl⟩
        rw [Bool.and_eq_true]
        refine ⟨by cases hb : Nat.beq p.1 i; rfl; exact (hne (Nat.eq_of_beq_eq_true hb)).elim, ?_⟩
        rw [Bool.not_eq_true']
        cases hq : (reachS ops ops.size (waits ops i)).contains p.1
        · rfl
        · refine (listed_both hl2 (reach_ok hcl _ _ (fun k hk => ?_) p.1 (by simpa using hq))).elim
          unfold waits at hk
          rw [hoi] at hk
          obtain ⟨e, he, rfl⟩ := List.mem_map.1 hk
          obtain ⟨h2, h3⟩ := List.mem_filter.1 he
          exact hall e (by simpa using h2) h3
      have := nfB_ok hnf hmem
      exact fresh_stp (hfr p hp hl2) this.1 this.2
    have go : ∀ {st' : Vst nn} {s' w' a'}, Inv X st' s' w' a' → (absAnyH X ops (frOf ops R) rd wr Q fuel (listed.setIfInBounds i true) st' ∧ ∀ p ∈ R, (listed.setIfInBounds i true).getD p.1 true = false → Fresh st' p.2) → wpAny X.P .any ops Q' fuel (listed.setIfInBounds i true) a' w' :=
      fun hI' hK' => wpAny_of_absH R hR hP hQ fuel _ _ _ _ _ (hcl.set hi) hK'.2 hI' hK'.1
    cases hy with
    | old hy hf =>
      rcases hy with ⟨hg, hy⟩ | ⟨hg, rfl, rfl⟩
      · rw [if_pos (gw_ok hg hI)]
        exact .inl (opOk_yldN (K := fun st' => absAnyH X ops (frOf ops R) rd wr Q fuel (listed.setIfInBounds i true) st' ∧ ∀ p ∈ R, (listed.setIfInBounds i true).getD p.1 true = false → Fresh st' p.2) hy ⟨hK, hfr'⟩ s w a hI _ _ hP fun st' s' w' a' hI' hK' => go hI' hK')
      · rw [if_neg (by rw [gw_ok hg hI]; simp)]
        exact go (hI.put oi.dst (by simp [rel])) ⟨hK, hfr'⟩
    | alloc hg ho hd hdl hc hfd hw hf =>
      rename_i t d vs
      rw [if_pos (gw_ok (by simp [gw, hg]) hI)]
      have hst : stp st oi.dst (.bx d 0) [(d, .box t vs)] = ((st.res d (.box t vs)).put (some d) (.bx d 0)) := by rw [stp_one, hd]
      refine .inl (opOk_allocF (K := fun st' => absAnyH X ops (frOf ops R) rd wr Q fuel (listed.setIfInBounds i true) st' ∧ ∀ p ∈ R, (listed.setIfInBounds i true).getD p.1 true = false → Fresh st' p.2) ho hd hdl hc hfd (hfr _ (hR i oi t d hoi (.inl ho) hd) hiun) ?_ s w a hI _ _ hP fun st' s' w' a' hI' hK' => go hI' hK')
      rw [← hst]
      exact ⟨hK, hfr'⟩
    | lit0 hg ho hd hdl he hw hf =>
      rename_i t e by_ d
      rw [if_pos (gw_ok (by simp [gw, hg]) hI)]
      have hst : stp st oi.dst (.own d e []) [(d, .tok e 0)] = ((st.res d (.tok e 0)).put (some d) (.own d e [])) := by rw [stp_one, hd]
      refine .inl (opOk_lit0F (K := fun st' => absAnyH X ops (frOf ops R) rd wr Q fuel (listed.setIfInBounds i true) st' ∧ ∀ p ∈ R, (listed.setIfInBounds i true).getD p.1 true = false → Fresh st' p.2) ho hd hdl he (hfr _ (hR i oi t d hoi (.inr ho) hd) hiun) ?_ s w a hI _ _ hP fun st' s' w' a' hI' hK' => go hI' hK')
      rw [← hst]
      exact ⟨hK, hfr'⟩
    | app hg hw ho he hleaf hx hr hy hp hf =>
      rename_i t e by_ k x y l l2
      rw [if_pos (gw_ok (by simp [gw, hg]) hI)]
      have hst : stp st oi.dst (.own k e (l ++ l2)) [(k, .tok e (l.length + l2.length))] = ((st.res k (.tok e (l.length + l2.length))).put oi.dst (.own k e (l ++ l2))) := stp_one
      refine .inl (opOk_appendG (K := fun st' => absAnyH X ops (frOf ops R) rd wr Q fuel (listed.setIfInBounds i true) st' ∧ ∀ p ∈ R, (listed.setIfInBounds i true).getD p.1 true = false → Fresh st' p.2) ho he hleaf hx hr hy hp.1 hp.2 ?_ s w a hI _ _ hP fun st' s' w' a' hI' hK' => go hI' hK')
      rw [← hst]
      exact ⟨hK, hfr'⟩⟩
/-- a region that draws its order and lays variables; R: the places and names of these -/
theorem aw_drawH (r w : List (Nat × List Nat)) (R : List (Nat × Nat)) {id : Nat} {l : List Oper} {K : Exit → Vst nn → Prop} (hm : X.P.follows .mixedOrders = true) (hB : Region.lexB .any l.toArray = true) (hN : namesB l.toArray (nmf r) (nmf w) = true)
    (hR : ∀ i o t d, l.toArray[i]? = some o → (o.op = .alloc t ∨ o.op = .buildSlice t 0 #[]) → o.dst = some d → (i, d) ∈ R) (hF : ∀ p ∈ R, Fresh st p.2) (h : absLexH X l.toArray (frOf l.toArray R) (nmf r) (nmf w) (K .normal) 0 l st) : AW X (.region id l.toArray true) st K := fun s wd a hI => by
  simp only [Region.lexB, Bool.and_eq_true] at hB
  have hlow : ∀ k, (Array.replicate l.toArray.size false).getD k false = false := fun k => by
    rw [Array.getD_eq_getD_getElem?, Array.getElem?_replicate]
    split <;> rfl
  refine wp_region_any hm (wpAny_of_absH R hR (rd := nmf r) (wr := nmf w) (Q := K .normal) (fun pv st' s' w' a' hI' hp => ⟨st', s', hI', .inr ⟨pv, rfl, hp⟩⟩) (fun st' s' w' a' hI' hK => ⟨st', s', hI', .inl hK⟩) _ _ st s _ a (fun k o _ hk => by rw [hlow k] at hk; cases hk) (fun p hp _ => hF p hp) hI.drew ?_)
  have := absAnyH_lex (X := X) (fr := frOf l.toArray R) (rd := nmf r) (wr := nmf w) (Q := K .normal) hN l 0 (Array.replicate l.toArray.size false) st (by simp) (fun k o _ hk => by rw [hlow k] at hk; cases hk) (fun j hj => absurd hj (Nat.not_lt_zero j)) (by simp) (by simpa using hB.2) h
  simpa using this
def allocsB (ops : Array Oper) (R : List (Nat × Nat)) : Bool := (List.range ops.size).all fun i => match ops[i]? with
  | some o => (match o.op, o.dst with | .alloc _, some d => R.contains (i, d) | .buildSlice _ _ _, some d => R.contains (i, d) | _, _ => true)
  | none => true
theorem allocsB_ok {R : List (Nat × Nat)} (h : allocsB ops R = true) : ∀ i o t d, ops[i]? = some o → (o.op = .alloc t ∨ o.op = .buildSlice t 0 #[]) → o.dst = some d → (i, d) ∈ R := fun i o t d hi ho hd => by
  have := List.all_eq_true.1 h i (List.mem_range.2 (Array.getElem?_eq_some_iff.1 hi).1)
  rw [hi] at this
  rcases ho with ho | ho
  · simp only [ho, hd] at this
    simpa using this
  · simp only [ho, hd] at this
    simpa using this
theorem aw_drawA (r w : List (Nat × List Nat)) (R : List (Nat × Nat)) {id : Nat} {l : List Oper} {K : Exit → Vst nn → Prop} (hm : X.P.follows .mixedOrders = true) (hB : Region.lexB .any l.toArray = true) (hN : namesB l.toArray (nmf r) (nmf w) = true)
    (hA : allocsB l.toArray R = true) (hF : ∀ p ∈ R, Fresh st p.2) (h : absLexH X l.toArray (frOf l.toArray R) (nmf r) (nmf w) (K .normal) 0 l st) : AW X (.region id l.toArray true) st K :=
  aw_drawH r w R hm hB hN (allocsB_ok hA) hF h
section
variable {l : List Oper} {Q : Vst nn → Prop} {d : Option Tmp} {k : Nat}
theorem h_nil (h : Q st) : absLexH X ops fr rd wr Q k [] st := h
theorem h_val {p : Prop} {v : V} (hg : o.guard = none) (hd : o.dst = d) (h : act1 X.P st.rs (ev st) o.op = .val p v) (hf : nfB (fr k) v [] = true) (hK : absLexH X ops fr rd wr Q (k + 1) l (st.put d v)) (hp : p) (hl : inO (rd k) (loads (ev st) o.op) = true) : absLexH X ops fr rd wr Q k (o :: l) st :=
  ⟨v, [], .old (.inl ⟨by simp [gw, hg], .val h hp hl⟩) hf, by rw [hd]; exact hK⟩
theorem h_alloc {t : TypeId} {m : Nat} {vs : List V} (hg : o.guard = none) (ho : o.op = .alloc t) (hd : o.dst = some m) (hdl : Nat.ble m 999999 = true) (hc : zeroV X.P t = some vs) (hfd : freeL m vs = true) (hw : (wr k).contains m = true) (hf : nfB (fr k) (.bx m 0) [(m, .box t vs)] = true)
    (hK : absLexH X ops fr rd wr Q (k + 1) l ((st.res m (.box t vs)).put (some m) (.bx m 0))) : absLexH X ops fr rd wr Q k (o :: l) st :=
  ⟨_, _, .alloc hg ho hd hdl hc hfd hw hf, by rw [stp_one, hd]; exact hK⟩
theorem h_store {t : TypeId} {x y : Operand} {m off : Nat} {t' : TypeId} {vs xs : List V} (hg : o.guard = none) (ho : o.op = .store t x y) (hd : o.dst = none) (hx : ev st x = .bx m off) (hw : (wr k).contains m = true) (hr : st.rs m = some (.box t' vs)) (hc : cellsOf (ev st y) = some xs)
    (hs : X.P.cellsOf t = xs.length ∧ (X.P.info? t).isSome) (hl : Nat.ble (off + xs.length) vs.length = true) (hf : nfB (fr k) .any [(m, .box t' (splice vs off xs))] = true) (hK : absLexH X ops fr rd wr Q (k + 1) l (st.res m (.box t' (splice vs off xs)))) : absLexH X ops fr rd wr Q k (o :: l) st :=
  ⟨_, _, .old (.inl ⟨by simp [gw, hg], .store hw ho hd hx hr hc hs (Nat.le_of_ble_eq_true hl)⟩) hf, by rw [hd, stp_one]; exact hK⟩
end
end
end Go.Proofs.YthjiclhfhjdjpaaGreatDoor
namespace Go.Proofs.YthjiclhfhjdjpaaGreatDoor
open Go.RowKit
set_option linter.unusedSectionVars false
attribute [local irreducible] wpList Calls Code.wp AW AWo OpOk seqK blockK scopeK loopK endK AC absLex Yld Sub
attribute [local irreducible] ACB ACX ACE absLexG YldG absLexH
set_option maxHeartbeats 8000000 in
set_option maxRecDepth 100000 in
theorem at_in {i n : Nat} (h : i < n) : 0 ≤ (i : Int) ∧ (i : Int) < (n : Int) := ⟨Int.natCast_nonneg i, Int.ofNat_lt.2 h⟩
set_option maxHeartbeats 8000000 in
set_option maxRecDepth 100000 in
theorem ints_ac (a : Int) : AC EN5 Tryz.prog 285 [.c (.int .i64 a), .c (.int .i64 a)] (.c (.int .i64 0)) := by
  have f1 : decide (a < a) = false := decide_eq_false (by omega)
  have f2 : decide (a > a) = false := decide_eq_false (by omega)
  refine ac_enter 11 Tryz.func285 rfl rfl rfl rfl ?_
  intro s w he
  repeat' (first
 | (apply aw_cond_kf
    · conv => lhs; whnf
    · assumption)
 | refine aw_seq ?_
 | refine aw_region ?_
 | refine awo_nil ?_
 | refine k_seq ?_
 | refine aw_skip ?_
 | (apply s_val rfl
    · conv => lhs; whnf
    · conv => lhs; whnf; arg 2; whnf)
 | refine aw_ret ?_
 | refine k_end_ret ?_
 | (refine ⟨_, by conv => lhs; whnf; arg 2; whnf, ?_⟩; conv => rhs; whnf)
 | exact trivial)
set_option maxHeartbeats 8000000 in
set_option maxRecDepth 100000 in
theorem less_self : ∀ l : List UInt8, Op.bytesLess l l = false
  | [] => rfl
  | c :: r => by
    have := less_self r
    unfold Op.bytesLess
    simp [this]
set_option maxHeartbeats 8000000 in
set_option maxRecDepth 100000 in
theorem strs_ac (a : ByteArray) : AC EN5 Tryz.prog 286 [.c (.string a), .c (.string a)] (.c (.int .i64 0)) := by
  have f1 := less_self a.toList
  have f2 : (!(Op.bytesLess a.toList a.toList || a.toList == a.toList)) = false := by simp
  refine ac_enter 11 Tryz.func286 rfl rfl rfl rfl ?_
  intro s w he
  repeat' (first
 | (apply aw_cond_kf
    · conv => lhs; whnf
    · assumption)
 | refine aw_seq ?_
 | refine aw_region ?_
 | refine awo_nil ?_
 | refine k_seq ?_
 | refine aw_skip ?_
 | (apply s_val rfl
    · conv => lhs; whnf
    · conv => lhs; whnf; arg 2; whnf)
 | refine aw_ret ?_
 | refine k_end_ret ?_
 | (refine ⟨_, by conv => lhs; whnf; arg 2; whnf, ?_⟩; conv => rhs; whnf)
 | exact trivial)
def keyK (d : D) (i : Nat) : ByteArray := if i < (d.f 4).l.length then (gD (d.f 4).l i).s else { data := #[] }
set_option maxHeartbeats 8000000 in
set_option maxRecDepth 100000 in
theorem keyK_ac (d : D) (i : Nat) : AC EN5 Tryz.prog 287 [.agg (cellsV Tryz.prog 12 84 d), .c (.int .i64 (i : Int))] (.c (.string (keyK d i))) := by
  unfold keyK
  by_cases h : i < (d.f 4).l.length
  · have f1 : decide ((i : Int) < ((d.f 4).l.length : Nat)) = true := decide_eq_true (by omega)
    rw [if_pos h]
    refine ac_enter 15 Tryz.func287 rfl rfl rfl rfl ?_
    intro s w he
    repeat' (first
 | (apply aw_cond_kt
    · conv => lhs; whnf
    · assumption)
 | refine aw_seq ?_
 | refine aw_region ?_
 | refine awo_nil ?_
 | refine k_seq ?_
 | (apply s_val rfl
    · conv => lhs; whnf
    · conv => lhs; whnf; arg 2; whnf)
 | (apply s_box rfl rfl rfl rfl
    · conv => lhs; whnf; arg 1; whnf
    · rfl)
 | refine aw_ret ?_
 | refine k_seq_ret ?_
 | refine k_end_ret ?_
 | (refine ⟨_, by conv => lhs; whnf; arg 2; whnf, ?_⟩; conv => rhs; whnf)
 | exact trivial)
    all_goals first
      | exact at_in h
      | rfl
  · have f1 : decide ((i : Int) < ((d.f 4).l.length : Nat)) = false := decide_eq_false (by omega)
    rw [if_neg h]
    refine ac_enter 15 Tryz.func287 rfl rfl rfl rfl ?_
    intro s w he
    repeat' (first
 | (apply aw_cond_kf
    · conv => lhs; whnf
    · assumption)
 | refine aw_seq ?_
 | refine aw_region ?_
 | refine awo_nil ?_
 | refine k_seq ?_
 | refine aw_skip ?_
 | (apply s_val rfl
    · conv => lhs; whnf
    · conv => lhs; whnf; arg 2; whnf)
 | (apply s_box rfl rfl rfl rfl
    · conv => lhs; whnf; arg 1; whnf
    · rfl)
 | refine aw_ret ?_
 | refine k_end_ret ?_
 | (refine ⟨_, by conv => lhs; whnf; arg 2; whnf, ?_⟩; conv => rhs; whnf)
 | exact trivial)
noncomputable def HCm (d : D) (i : Nat) : Vst 70 := stS 70 [(2, .bx 2 0), (3, .bx 3 0), (5, .c (.int .i64 0)), (6, .c (.int .i64 (i : Int)))] [(2, .box 84 (cellsV Tryz.prog 12 84 d)), (3, .box 84 (cellsV Tryz.prog 12 84 d))]
set_option maxHeartbeats 8000000 in
set_option maxRecDepth 100000 in
theorem cmp_ac : ∀ (k : Nat) (d : D), Dp k d → bulkD d ≤ 1000000000 → AC EN5 Tryz.prog 215 [.agg (cellsV Tryz.prog 12 84 d), .agg (cellsV Tryz.prog 12 84 d)] (.c (.int .i64 0))
  | 0, _, h, _ => h.elim
  | k + 1, d, h, hw => by
    have hin := bk_in hw
    have hl := hin.items
    have ih := fun i (hi : i < (d.f 3).l.length) => cmp_ac k (gD (d.f 3).l i) (h i hi) (by have := hin.at_ i hi; omega)
    have h1 := ints_ac (d.f 0).n
    have h2 := ints_ac (d.f 1).n
    have h3 := strs_ac (d.f 2).s
    have h4 := ints_ac ((d.f 3).l.length : Nat)
    refine ac_enter 70 Tryz.func215 rfl rfl rfl rfl ?_
    intro s w he
    repeat' (first
 | refine aw_seq ?_
 | refine aw_region ?_
 | refine awo_nil ?_
 | refine k_seq ?_
 | refine aw_block ?_
 | (apply s_val rfl
    · conv => lhs; whnf
    · conv => lhs; whnf; arg 2; whnf)
 | (apply s_call rfl
    · conv => lhs; whnf
    · conv => lhs; whnf
    · first | exact h1 | exact h2 | exact h3)
 | (apply s_box rfl rfl rfl rfl
    · conv => lhs; whnf; arg 1; whnf
    · rfl)
 | (apply aw_cond_t
    · conv => lhs; whnf; arg 1; arg 1; whnf)
 | exact trivial)
    refine aw_loop (fun j st => ∃ i, i + j = (d.f 3).l.length ∧ Sub (cx EN5 Tryz.prog s w he) st (HCm d i)) (d.f 3).l.length ⟨0, by omega, Sub.live ⟨rfl, rfl, rfl, rfl, trivial⟩ ⟨rfl, rfl, trivial⟩⟩ ?_
    rintro j st ⟨i, hij, hs2⟩
    refine aw_sub hs2 ?_
    clear hs2 h1 h2 h3
    by_cases hi : i < (d.f 3).l.length
    · have f0 : decide ((i : Int) ≥ ((d.f 3).l.length : Nat)) = false := decide_eq_false (by omega)
      have k0 : (decide ((i : Int) ≥ ((d.f 3).l.length : Nat)) == false) = false → False := fun h => by rw [f0] at h; cases h
      have ih2 := ih i hi
      have hk := keyK_ac d i
      have hks := strs_ac (keyK d i)
      repeat' (first
 | (apply aw_cond_kf
    · conv => lhs; whnf
    · assumption)
 | exact (k0 (by assumption)).elim
 | refine aw_seq ?_
 | refine aw_region ?_
 | refine awo_nil ?_
 | refine k_seq ?_
 | refine k_block ?_
 | refine aw_block ?_
 | refine aw_skip ?_
 | (apply s_pick_f rfl rfl
    · conv => lhs; whnf
    · conv => lhs; whnf
    · first | exact bF1 (by assumption) | exact bF2 (by assumption))
 | (apply s_val rfl
    · conv => lhs; whnf
    · conv => lhs; whnf; arg 2; whnf)
 | (apply s_wanted_val rfl
    · conv => lhs; whnf
    · conv => lhs; whnf
    · first | rfl | assumption
    · conv => lhs; whnf; arg 2; whnf)
 | (apply s_guard_valU rfl
    · conv => lhs; whnf
    · conv => lhs; whnf
    · conv => lhs; whnf; arg 2; whnf)
 | (apply aw_draw (by kernel_rfl) (by kernel_rfl))
 | apply y_nil
 | (apply y_val rfl
    · conv => lhs; whnf
    · conv => lhs; whnf; arg 2; whnf)
 | (apply y_call rfl
    · conv => lhs; whnf
    · conv => lhs; whnf
    · first | exact ih2 | exact hk | exact hks)
 | exact apartB_none
 | exact apartB_nil
 | exact (1000000 : Nat)
 | (apply aw_cond_t
    · conv => lhs; whnf; arg 1; arg 1; whnf)
 | exact trivial
 | intro hg)
      all_goals first
        | exact i64_ok (by omega)
        | exact at_in hi
        | exact k_loop_next (j' := j - 1) (by omega) ⟨i + 1, by omega, Sub.live ⟨rfl, rfl, rfl, rfl, trivial⟩ ⟨rfl, rfl, trivial⟩⟩
    · have f0 : decide ((i : Int) ≥ ((d.f 3).l.length : Nat)) = true := decide_eq_true (by omega)
      have k0 : (decide ((i : Int) ≥ ((d.f 3).l.length : Nat)) == false) = true → False := fun h => by rw [f0] at h; cases h
      repeat' (first
 | exact (k0 (by assumption)).elim
 | refine aw_seq ?_
 | refine aw_region ?_
 | refine awo_nil ?_
 | refine k_seq ?_
 | refine aw_block ?_
 | refine aw_skip ?_
 | (apply s_pick_t rfl rfl
    · conv => lhs; whnf
    · conv => lhs; whnf
    · first | exact bT1 (by assumption) | exact bT2 (by assumption))
 | (apply s_val rfl
    · conv => lhs; whnf
    · conv => lhs; whnf; arg 2; whnf)
 | (apply s_call rfl
    · conv => lhs; whnf
    · conv => lhs; whnf
    · first | exact h4)
 | (apply s_skipU rfl
    · conv => lhs; whnf
    · conv => lhs; whnf
    · first | rfl | assumption)
 | (apply s_guard_valU rfl
    · conv => lhs; whnf
    · conv => lhs; whnf
    · conv => lhs; whnf; arg 2; whnf)
 | (apply aw_cond_t
    · conv => lhs; whnf; arg 1; arg 1; whnf)
 | refine aw_ret ?_
 | refine k_seq_ret ?_
 | refine k_block_ret ?_
 | refine k_loop_ret ?_
 | refine k_end_ret ?_
 | (refine ⟨_, by conv => lhs; whnf; arg 2; whnf, ?_⟩; conv => rhs; whnf)
 | exact trivial
 | intro hg)
set_option maxHeartbeats 8000000 in
set_option maxRecDepth 100000 in
theorem same_ac (d : D) (hw : bulkD d ≤ 1000000000) : AC EN5 Tryz.prog 137 [.agg (cellsV Tryz.prog 12 84 d), .agg (cellsV Tryz.prog 12 84 d)] (.c (.bool true)) := by
  have h := cmp_ac _ d (dp_bulk (bulkD d) d (Nat.le_refl _)) hw
  refine ac_enter 9 Tryz.func137 rfl rfl rfl rfl ?_
  intro s w he
  repeat' (first
 | refine aw_seq ?_
 | refine aw_region ?_
 | refine awo_nil ?_
 | refine k_seq ?_
 | (apply s_val rfl
    · conv => lhs; whnf
    · conv => lhs; whnf; arg 2; whnf)
 | (apply s_call rfl
    · conv => lhs; whnf
    · conv => lhs; whnf
    · first | exact h)
 | (apply s_box rfl rfl rfl rfl
    · conv => lhs; whnf; arg 1; whnf
    · rfl)
 | refine aw_ret ?_
 | refine k_end_ret ?_
 | (refine ⟨_, by conv => lhs; whnf; arg 2; whnf, ?_⟩; conv => rhs; whnf)
 | exact trivial)
  rfl
noncomputable def HWr (l : List D) (i : Nat) : Vst 26 := stS 26 [(0, .sl 3 l), (1, .sl 3 l), (5, .c (.int .i64 (i : Int)))] []
set_option maxHeartbeats 8000000 in
set_option maxRecDepth 100000 in
theorem wraps_ac (l : List D) (hl : l.length ≤ 1000000000) : AC EN5 Tryz.prog 140 [.sl 3 l, .sl 3 l] (.c (.bool true)) := by
  have f0 : ((l.length : Int) != (l.length : Int)) = false := by simp
  refine ac_enter 26 Tryz.func140 rfl rfl rfl rfl ?_
  intro s w he
  repeat' (first
 | (apply aw_cond_kf
    · conv => lhs; whnf
    · assumption)
 | refine aw_seq ?_
 | refine aw_region ?_
 | refine awo_nil ?_
 | refine k_seq ?_
 | refine aw_block ?_
 | refine aw_skip ?_
 | (apply s_val rfl
    · conv => lhs; whnf
    · conv => lhs; whnf; arg 2; whnf)
 | exact trivial)
  refine aw_loop (fun j st => ∃ i, i + j = l.length ∧ Sub (cx EN5 Tryz.prog s w he) st (HWr l i)) l.length ⟨0, by omega, Sub.live ⟨rfl, rfl, rfl, trivial⟩ trivial⟩ ?_
  rintro j st ⟨i, hij, hs2⟩
  refine aw_sub hs2 ?_
  clear hs2
  by_cases hi : i < l.length
  · have f1 : decide ((i : Int) < (l.length : Nat)) = true := decide_eq_true (by omega)
    have f2 : ((gD l i).n != (gD l i).n) = false := by simp
    repeat' (first
 | (apply aw_cond_kt
    · conv => lhs; whnf
    · assumption)
 | (apply aw_cond_kf
    · conv => lhs; whnf
    · assumption)
 | refine aw_seq ?_
 | refine aw_region ?_
 | refine awo_nil ?_
 | refine k_seq ?_
 | refine k_block ?_
 | refine aw_block ?_
 | refine aw_skip ?_
 | (apply s_val rfl
    · conv => lhs; whnf
    · conv => lhs; whnf; arg 2; whnf)
 | (apply aw_draw (by kernel_rfl) (by kernel_rfl))
 | apply y_nil
 | (apply y_val rfl
    · conv => lhs; whnf
    · conv => lhs; whnf; arg 2; whnf)
 | exact apartB_none
 | exact apartB_nil
 | exact (1000000 : Nat)
 | exact trivial)
    all_goals first
      | exact i64_ok (by omega)
      | exact at_in hi
      | exact k_loop_next (j' := j - 1) (by omega) ⟨i + 1, by omega, Sub.live ⟨rfl, rfl, rfl, trivial⟩ trivial⟩
  · have f1 : decide ((i : Int) < (l.length : Nat)) = false := decide_eq_false (by omega)
    repeat' (first
 | (apply aw_cond_kf
    · conv => lhs; whnf
    · assumption)
 | refine aw_seq ?_
 | refine aw_region ?_
 | refine awo_nil ?_
 | refine k_seq ?_
 | (apply s_val rfl
    · conv => lhs; whnf
    · conv => lhs; whnf; arg 2; whnf)
 | refine aw_ret ?_
 | refine aw_exit ?_
 | refine k_seq_exit ?_
 | refine k_block_hit rfl ?_
 | refine k_loop_exit ?_
 | refine k_end_ret ?_
 | (refine ⟨_, by conv => lhs; whnf; arg 2; whnf, ?_⟩; conv => rhs; whnf)
 | exact trivial)
set_option maxHeartbeats 8000000 in
set_option maxRecDepth 100000 in
theorem sameRef_ac (d : D) (hl : (d.f 1).l.length ≤ 1000000000) : AC EN5 Tryz.prog 72 [.agg (cellsV Tryz.prog 12 71 d), .agg (cellsV Tryz.prog 12 71 d)] (.c (.bool true)) := by
  have h := wraps_ac (d.f 1).l hl
  have f0 : ((d.f 0).s.toList == (d.f 0).s.toList) = true := by simp
  have k0 : (((d.f 0).s.toList == (d.f 0).s.toList) == true) = false → False := fun h => by rw [f0] at h; cases h
  refine ac_enter 17 Tryz.func72 rfl rfl rfl rfl ?_
  intro s w he
  repeat' (first
 | exact (k0 (by assumption)).elim
 | refine aw_seq ?_
 | refine aw_region ?_
 | refine awo_nil ?_
 | refine k_seq ?_
 | (apply s_pick_t rfl rfl
    · conv => lhs; whnf
    · conv => lhs; whnf
    · first | exact bT1 (by assumption) | exact bT2 (by assumption))
 | (apply s_val rfl
    · conv => lhs; whnf
    · conv => lhs; whnf; arg 2; whnf)
 | (apply s_box rfl rfl rfl rfl
    · conv => lhs; whnf; arg 1; whnf
    · rfl)
 | (apply s_wanted_val rfl
    · conv => lhs; whnf
    · conv => lhs; whnf
    · first | rfl | assumption
    · conv => lhs; whnf; arg 2; whnf)
 | (apply s_wanted_call rfl
    · conv => lhs; whnf
    · conv => lhs; whnf
    · first | rfl | assumption
    · conv => lhs; whnf
    · first | exact h)
 | (apply s_guard_valU rfl
    · conv => lhs; whnf
    · conv => lhs; whnf
    · conv => lhs; whnf; arg 2; whnf)
 | refine aw_ret ?_
 | refine k_end_ret ?_
 | (refine ⟨_, by conv => lhs; whnf; arg 2; whnf, ?_⟩; conv => rhs; whnf)
 | exact trivial
 | intro hg)
noncomputable def HAr (l : List D) (i : Nat) : Vst 42 := stS 42 [(0, .sl 86 l), (1, .sl 86 l), (5, .c (.int .i64 (i : Int)))] []
set_option maxHeartbeats 8000000 in
set_option maxRecDepth 100000 in
theorem sameArgs_ac (l : List D) (hw : bulkL l ≤ 1000000000) : AC EN5 Tryz.prog 138 [.sl 86 l, .sl 86 l] (.c (.bool true)) := by
  have hl := bulkL_len l
  have f0 : ((l.length : Int) != (l.length : Int)) = false := by simp
  refine ac_enter 42 Tryz.func138 rfl rfl rfl rfl ?_
  intro s w he
  repeat' (first
 | (apply aw_cond_kf
    · conv => lhs; whnf
    · assumption)
 | refine aw_seq ?_
 | refine aw_region ?_
 | refine awo_nil ?_
 | refine k_seq ?_
 | refine aw_block ?_
 | refine aw_skip ?_
 | (apply s_val rfl
    · conv => lhs; whnf
    · conv => lhs; whnf; arg 2; whnf)
 | exact trivial)
  refine aw_loop (fun j st => ∃ i, i + j = l.length ∧ Sub (cx EN5 Tryz.prog s w he) st (HAr l i)) l.length ⟨0, by omega, Sub.live ⟨rfl, rfl, rfl, trivial⟩ trivial⟩ ?_
  rintro j st ⟨i, hij, hs2⟩
  refine aw_sub hs2 ?_
  clear hs2
  by_cases hi : i < l.length
  · have f1 : decide ((i : Int) < (l.length : Nat)) = true := decide_eq_true (by omega)
    have hv := same_ac ((gD l i).f 1) (by have := bulkL_get hi; have := bulkD_wD (gD l i); have := wD_f (gD l i) 1; have := bulkD_wD ((gD l i).f 1); omega)
    have f2 : (!(((gD l i).f 0).s.toList == ((gD l i).f 0).s.toList)) = false := by simp
    have g2 : ((!(((gD l i).f 0).s.toList == ((gD l i).f 0).s.toList)) == false) = true := by simp
    repeat' (first
 | (apply aw_cond_kt
    · conv => lhs; whnf
    · assumption)
 | refine aw_seq ?_
 | refine aw_region ?_
 | refine awo_nil ?_
 | refine k_seq ?_
 | refine k_block ?_
 | refine aw_block ?_
 | refine aw_skip ?_
 | (apply s_val rfl
    · conv => lhs; whnf
    · conv => lhs; whnf; arg 2; whnf)
 | (apply aw_draw (by kernel_rfl) (by kernel_rfl))
 | apply y_nil
 | (apply y_pick_f rfl rfl
    · conv => lhs; whnf
    · conv => lhs; whnf
    · first | exact bF1 (by assumption) | exact bF2 (by assumption))
 | (apply y_val rfl
    · conv => lhs; whnf
    · conv => lhs; whnf; arg 2; whnf)
 | (apply y_wanted_val rfl
    · conv => lhs; whnf
    · conv => lhs; whnf
    · first | rfl | assumption
    · conv => lhs; whnf; arg 2; whnf)
 | (apply y_wanted_call rfl
    · conv => lhs; whnf
    · conv => lhs; whnf
    · first | rfl | assumption
    · conv => lhs; whnf
    · first | exact hv)
 | exact apartB_none
 | exact ([] : List Nat)
 | exact (1000000 : Nat)
 | (apply aw_cond_f
    · conv => lhs; whnf; arg 1; arg 1; whnf)
 | exact trivial)
    all_goals first
      | exact i64_ok (by omega)
      | exact at_in hi
      | exact k_loop_next (j' := j - 1) (by omega) ⟨i + 1, by omega, Sub.live ⟨rfl, rfl, rfl, trivial⟩ trivial⟩
  · have f1 : decide ((i : Int) < (l.length : Nat)) = false := decide_eq_false (by omega)
    repeat' (first
 | (apply aw_cond_kf
    · conv => lhs; whnf
    · assumption)
 | refine aw_seq ?_
 | refine aw_region ?_
 | refine awo_nil ?_
 | refine k_seq ?_
 | (apply s_val rfl
    · conv => lhs; whnf
    · conv => lhs; whnf; arg 2; whnf)
 | refine aw_ret ?_
 | refine aw_exit ?_
 | refine k_seq_exit ?_
 | refine k_block_hit rfl ?_
 | refine k_loop_exit ?_
 | refine k_end_ret ?_
 | (refine ⟨_, by conv => lhs; whnf; arg 2; whnf, ?_⟩; conv => rhs; whnf)
 | exact trivial)
noncomputable def HDr (l : List D) (i : Nat) : Vst 42 := stS 42 [(0, .sl 150 l), (1, .sl 150 l), (5, .c (.int .i64 (i : Int)))] []
set_option maxHeartbeats 8000000 in
set_option maxRecDepth 100000 in
theorem sameDirs_ac (l : List D) (hw : bulkL l ≤ 1000000000) : AC EN5 Tryz.prog 139 [.sl 150 l, .sl 150 l] (.c (.bool true)) := by
  have hl := bulkL_len l
  have f0 : ((l.length : Int) != (l.length : Int)) = false := by simp
  refine ac_enter 42 Tryz.func139 rfl rfl rfl rfl ?_
  intro s w he
  repeat' (first
 | (apply aw_cond_kf
    · conv => lhs; whnf
    · assumption)
 | refine aw_seq ?_
 | refine aw_region ?_
 | refine awo_nil ?_
 | refine k_seq ?_
 | refine aw_block ?_
 | refine aw_skip ?_
 | (apply s_val rfl
    · conv => lhs; whnf
    · conv => lhs; whnf; arg 2; whnf)
 | exact trivial)
  refine aw_loop (fun j st => ∃ i, i + j = l.length ∧ Sub (cx EN5 Tryz.prog s w he) st (HDr l i)) l.length ⟨0, by omega, Sub.live ⟨rfl, rfl, rfl, trivial⟩ trivial⟩ ?_
  rintro j st ⟨i, hij, hs2⟩
  refine aw_sub hs2 ?_
  clear hs2
  by_cases hi : i < l.length
  · have f1 : decide ((i : Int) < (l.length : Nat)) = true := decide_eq_true (by omega)
    have hv := sameArgs_ac ((gD l i).f 1).l (by have := bulkL_get hi; have := bulkD_wD (gD l i); have := wD_f (gD l i) 1; have := wD_list ((gD l i).f 1); omega)
    have f2 : (!(((gD l i).f 0).s.toList == ((gD l i).f 0).s.toList)) = false := by simp
    have g2 : ((!(((gD l i).f 0).s.toList == ((gD l i).f 0).s.toList)) == false) = true := by simp
    repeat' (first
 | (apply aw_cond_kt
    · conv => lhs; whnf
    · assumption)
 | refine aw_seq ?_
 | refine aw_region ?_
 | refine awo_nil ?_
 | refine k_seq ?_
 | refine k_block ?_
 | refine aw_block ?_
 | refine aw_skip ?_
 | (apply s_val rfl
    · conv => lhs; whnf
    · conv => lhs; whnf; arg 2; whnf)
 | (apply aw_draw (by kernel_rfl) (by kernel_rfl))
 | apply y_nil
 | (apply y_pick_f rfl rfl
    · conv => lhs; whnf
    · conv => lhs; whnf
    · first | exact bF1 (by assumption) | exact bF2 (by assumption))
 | (apply y_val rfl
    · conv => lhs; whnf
    · conv => lhs; whnf; arg 2; whnf)
 | (apply y_wanted_val rfl
    · conv => lhs; whnf
    · conv => lhs; whnf
    · first | rfl | assumption
    · conv => lhs; whnf; arg 2; whnf)
 | (apply y_wanted_call rfl
    · conv => lhs; whnf
    · conv => lhs; whnf
    · first | rfl | assumption
    · conv => lhs; whnf
    · first | exact hv)
 | exact apartB_none
 | exact ([] : List Nat)
 | exact (1000000 : Nat)
 | (apply aw_cond_f
    · conv => lhs; whnf; arg 1; arg 1; whnf)
 | exact trivial)
    all_goals first
      | exact i64_ok (by omega)
      | exact at_in hi
      | exact k_loop_next (j' := j - 1) (by omega) ⟨i + 1, by omega, Sub.live ⟨rfl, rfl, rfl, trivial⟩ trivial⟩
  · have f1 : decide ((i : Int) < (l.length : Nat)) = false := decide_eq_false (by omega)
    repeat' (first
 | (apply aw_cond_kf
    · conv => lhs; whnf
    · assumption)
 | refine aw_seq ?_
 | refine aw_region ?_
 | refine awo_nil ?_
 | refine k_seq ?_
 | (apply s_val rfl
    · conv => lhs; whnf
    · conv => lhs; whnf; arg 2; whnf)
 | refine aw_ret ?_
 | refine aw_exit ?_
 | refine k_seq_exit ?_
 | refine k_block_hit rfl ?_
 | refine k_loop_exit ?_
 | refine k_end_ret ?_
 | (refine ⟨_, by conv => lhs; whnf; arg 2; whnf, ?_⟩; conv => rhs; whnf)
 | exact trivial)
noncomputable def HSs (l : List D) (i : Nat) : Vst 77 := stS 77 [(0, .sl 76 l), (1, .sl 76 l), (5, .c (.int .i64 (i : Int)))] []
set_option maxHeartbeats 8000000 in
set_option maxRecDepth 100000 in
theorem sameSels_ac : ∀ (k : Nat) (l : List D), bulkL l ≤ k → k ≤ 1000000000 → AC EN5 Tryz.prog 71 [.sl 76 l, .sl 76 l] (.c (.bool true)) := by
  intro k
  induction k with
  | zero =>
    intro l hw _
    have hl := bulkL_len l
    have hn : l = [] := List.eq_nil_of_length_eq_zero (by omega)
    subst hn
    refine ac_enter 77 Tryz.func71 rfl rfl rfl rfl ?_
    intro s w he
    repeat' (first
 | refine aw_seq ?_
 | refine aw_region ?_
 | refine awo_nil ?_
 | refine k_seq ?_
 | refine aw_block ?_
 | refine aw_skip ?_
 | (apply s_val rfl
    · conv => lhs; whnf
    · conv => lhs; whnf; arg 2; whnf)
 | (apply aw_cond_f
    · conv => lhs; whnf; arg 1; arg 1; whnf)
 | exact trivial)
    refine aw_loop (fun j st => Sub (cx EN5 Tryz.prog s w he) st (HSs [] 0)) 0 (Sub.live ⟨rfl, rfl, rfl, trivial⟩ trivial) ?_
    rintro j st hs2
    refine aw_sub hs2 ?_
    clear hs2
    repeat' (first
 | refine aw_seq ?_
 | refine aw_region ?_
 | refine awo_nil ?_
 | refine k_seq ?_
 | (apply s_val rfl
    · conv => lhs; whnf
    · conv => lhs; whnf; arg 2; whnf)
 | (apply aw_cond_f
    · conv => lhs; whnf; arg 1; arg 1; whnf)
 | refine aw_ret ?_
 | refine aw_exit ?_
 | refine k_seq_exit ?_
 | refine k_block_hit rfl ?_
 | refine k_loop_exit ?_
 | refine k_end_ret ?_
 | (refine ⟨_, by conv => lhs; whnf; arg 2; whnf, ?_⟩; conv => rhs; whnf)
 | exact trivial)
  | succ k ih =>
    intro l hw hk
    have hl := bulkL_len l
    have f0 : ((l.length : Int) != (l.length : Int)) = false := by simp
    refine ac_enter 77 Tryz.func71 rfl rfl rfl rfl ?_
    intro s w he
    repeat' (first
 | (apply aw_cond_kf
    · conv => lhs; whnf
    · assumption)
 | refine aw_seq ?_
 | refine aw_region ?_
 | refine awo_nil ?_
 | refine k_seq ?_
 | refine aw_block ?_
 | refine aw_skip ?_
 | (apply s_val rfl
    · conv => lhs; whnf
    · conv => lhs; whnf; arg 2; whnf)
 | exact trivial)
    refine aw_loop (fun j st => ∃ i, i + j = l.length ∧ Sub (cx EN5 Tryz.prog s w he) st (HSs l i)) l.length ⟨0, by omega, Sub.live ⟨rfl, rfl, rfl, trivial⟩ trivial⟩ ?_
    rintro j st ⟨i, hij, hs2⟩
    refine aw_sub hs2 ?_
    clear hs2
    by_cases hi : i < l.length
    · have f1 : decide ((i : Int) < (l.length : Nat)) = true := decide_eq_true (by omega)
      have b0 := bulkL_get hi
      have b1 := bulkD_wD (gD l i)
      have b4 := wD_f (gD l i) 4; have b4' := wD_list ((gD l i).f 4)
      have b5 := wD_f (gD l i) 5; have b5' := wD_list ((gD l i).f 5)
      have b6 := wD_f (gD l i) 6; have b6' := wD_list ((gD l i).f 6)
      have h1 := sameArgs_ac ((gD l i).f 4).l (by omega)
      have h2 := sameDirs_ac ((gD l i).f 5).l (by omega)
      have h3 := ih ((gD l i).f 6).l (by omega) (by omega)
      have q0 : (((gD l i).f 0).n != ((gD l i).f 0).n) = false := by simp
      have q : ∀ a : ByteArray, (!(a.toList == a.toList)) = false := fun a => by simp
      have f2 := q ((gD l i).f 1).s
      have f3 := q ((gD l i).f 2).s
      have f4 := q ((gD l i).f 3).s
      have k0 : ((((gD l i).f 0).n != ((gD l i).f 0).n) == false) = false → False := fun h => by rw [q0] at h; cases h
      have k1 : ((!(((gD l i).f 1).s.toList == ((gD l i).f 1).s.toList)) == false) = false → False := fun h => by rw [f2] at h; cases h
      have k2 : ((!(((gD l i).f 2).s.toList == ((gD l i).f 2).s.toList)) == false) = false → False := fun h => by rw [f3] at h; cases h
      have k3 : ((!(((gD l i).f 3).s.toList == ((gD l i).f 3).s.toList)) == false) = false → False := fun h => by rw [f4] at h; cases h
      repeat' (first
 | (apply aw_drawA ([]) ([(8,[6]),(9,[7]),(10,[6]),(11,[7])]) ([(8,6),(9,7)]) rfl (by kernel_rfl) (by kernel_rfl) (by kernel_rfl) (by intro p hp; simp only [List.mem_cons, List.not_mem_nil, or_false] at hp; rcases hp with rfl | rfl <;> (repeat' (first | exact fresh_S rfl | refine fresh_put ?_ rfl | refine fresh_res ?_ rfl rfl))))
 | apply h_nil
 | (apply h_alloc rfl rfl rfl rfl
    · conv => lhs; whnf; arg 1; whnf
    · rfl
    · rfl
    · kernel_rfl)
 | (apply h_val rfl
    · conv => lhs; whnf
    · conv => lhs; whnf; arg 2; whnf
    · kernel_rfl)
 | (apply h_store rfl rfl rfl
    · conv => lhs; whnf
    · rfl
    · conv => lhs; whnf; arg 1; whnf
    · conv => lhs; whnf; arg 1; whnf
    · exact ⟨by kernel_rfl, by kernel_rfl⟩
    · rfl
    · kernel_rfl)
 | (show inO _ _ = true; rfl)
 | (apply aw_cond_kt
    · conv => lhs; whnf
    · assumption)
 | exact (k0 (by assumption)).elim
 | exact (k1 (by assumption)).elim
 | exact (k2 (by assumption)).elim
 | exact (k3 (by assumption)).elim
 | refine aw_seq ?_
 | refine aw_region ?_
 | refine awo_nil ?_
 | refine k_seq ?_
 | refine k_block ?_
 | refine aw_block ?_
 | refine aw_skip ?_
 | (apply s_pick_f rfl rfl
    · conv => lhs; whnf
    · conv => lhs; whnf
    · first | exact bF1 (by assumption) | exact bF2 (by assumption))
 | (apply s_val rfl
    · conv => lhs; whnf
    · conv => lhs; whnf; arg 2; whnf)
 | (apply s_wanted_val rfl
    · conv => lhs; whnf
    · conv => lhs; whnf
    · first | rfl | assumption
    · conv => lhs; whnf; arg 2; whnf)
 | (apply s_wanted_call rfl
    · conv => lhs; whnf
    · conv => lhs; whnf
    · first | rfl | assumption
    · conv => lhs; whnf
    · first | exact h1 | exact h2 | exact h3)
 | (apply s_guard_valU rfl
    · conv => lhs; whnf
    · conv => lhs; whnf
    · conv => lhs; whnf; arg 2; whnf)
 | (apply aw_cond_f
    · conv => lhs; whnf; arg 1; arg 1; whnf)
 | exact trivial
 | intro hg)
      all_goals first
        | exact i64_ok (by omega)
        | exact at_in hi
        | exact k_loop_next (j' := j - 1) (by omega) ⟨i + 1, by omega, Sub.live ⟨rfl, rfl, rfl, trivial⟩ trivial⟩
    · have f1 : decide ((i : Int) < (l.length : Nat)) = false := decide_eq_false (by omega)
      repeat' (first
 | (apply aw_cond_kf
    · conv => lhs; whnf
    · assumption)
 | refine aw_seq ?_
 | refine aw_region ?_
 | refine awo_nil ?_
 | refine k_seq ?_
 | (apply s_val rfl
    · conv => lhs; whnf
    · conv => lhs; whnf; arg 2; whnf)
 | refine aw_ret ?_
 | refine aw_exit ?_
 | refine k_seq_exit ?_
 | refine k_block_hit rfl ?_
 | refine k_loop_exit ?_
 | refine k_end_ret ?_
 | (refine ⟨_, by conv => lhs; whnf; arg 2; whnf, ?_⟩; conv => rhs; whnf)
 | exact trivial)
end Go.Proofs.YthjiclhfhjdjpaaGreatDoor
