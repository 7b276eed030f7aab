/- Parts of a proof, merged by a program (shake.py). -/
import Derived.Test.YthjiclhfhjdjpaaGreatDoorQ35
set_option linter.unusedVariables false
set_option linter.unusedSimpArgs false
namespace Go.Proofs.YthjiclhfhjdjpaaGreatDoor
open Go.RowKit
set_option linter.unusedSectionVars false
attribute [local irreducible] wpList Calls Code.wp AW AWo OpOk seqK blockK scopeK loopK endK AC absLex Yld Sub
attribute [local irreducible] ACB ACX ACE absLexG YldG
set_option maxHeartbeats 8000000 in
set_option maxRecDepth 100000 in
theorem sel1_acb (x : D) (lv : Nat) (b : Bool) (h : AC EN5 Tryz.prog 159 [.agg (cellsV Tryz.prog 12 76 x), .c (.int .i64 (lv : Int))] (.c (.bool b))) :
    ACB EN5 Tryz.prog 158 [.agg (cellsV Tryz.prog 12 76 x), .bx (pn 0) 0] [.box 3 [.c (.int .i64 (lv : Int))]] (.c (.bool (!b))) [.box 3 [.c (.int .i64 (lv : Int))]] := by
  refine acb_enter (fn := Tryz.f158) 8 Tryz.func158 rfl rfl ?_
  intro pas w0 w he hpp
  repeat' (first
 | refine aw_seq ?_
 | refine aw_region ?_
 | refine awo_nil ?_
 | refine k_seq ?_
 | (apply s_val rfl
    · conv => lhs; whnf
    · conv => lhs; whnf; arg 2; whnf)
 | (apply s_call rfl
    · conv => lhs; whnf
    · conv => lhs; whnf
    · first | exact h)
 | (apply s_box rfl rfl rfl rfl
    · conv => lhs; whnf; arg 1; whnf
    · rfl)
 | refine aw_ret ?_
 | refine k_endB ⟨?_, ?_⟩
 | (refine ⟨_, by conv => lhs; whnf; arg 2; whnf, ?_⟩; conv => rhs; whnf)
 | exact trivial)
  exact ⟨rfl, trivial⟩
set_option maxHeartbeats 8000000 in
set_option maxRecDepth 100000 in
theorem sels_of (l : List D) (least lv : Nat) (p : D → Bool) (hw : bulkL l ≤ 1000000000) (hc : ∀ i, i < l.length → AC EN5 Tryz.prog 159 [.agg (cellsV Tryz.prog 12 76 (gD l i)), .c (.int .i64 (lv : Int))] (.c (.bool (p (gD l i))))) :
    AC EN5 Tryz.prog 80 [.sl 76 l, .c (.int .i64 (least : Int)), .c (.int .i64 (lv : Int))] (.c (.bool (selsR p l least lv))) := by
  have hl := bulkL_len l
  have hcs := containsSel_acb (lv : Int) l (fun x => !p x) (by omega) fun i hi => sel1_acb _ lv _ (hc i hi)
  have e1 : decide ((l.length : Int) < (least : Int)) = !decide (least ≤ l.length) := by rw [Bool.eq_iff_iff]; simp
  have e2 : decide ((l.length : Int) > 64) = !decide (l.length ≤ 64) := by rw [Bool.eq_iff_iff]; simp; omega
  have e3 : decide ((l.length : Int) > 0) = !decide (l.length = 0) := by
    rw [Bool.eq_iff_iff]
    simp only [decide_eq_true_eq, Bool.not_eq_true', decide_eq_false_iff_not]
    omega
  have e4 : decide ((lv : Int) > 24) = !decide (lv ≤ 24) := by rw [Bool.eq_iff_iff]; simp; omega
  unfold selsR
  refine ac_enter 29 Tryz.func80 rfl rfl rfl rfl ?_
  intro s w he
  repeat' (first
 | (apply s_wpick_t rfl rfl rfl
    · conv => lhs; whnf
    · first | rfl | assumption
    · conv => lhs; whnf
    · first | exact bT1 (by assumption) | exact bT2 (by assumption) | rfl)
 | (apply s_wpick_f rfl rfl rfl
    · conv => lhs; whnf
    · first | rfl | assumption
    · conv => lhs; whnf
    · first | exact bF1 (by assumption) | exact bF2 (by assumption) | rfl)
 | (apply s_boxw (m := 5) rfl
    · conv => lhs; whnf
    · conv => lhs; whnf
    · rfl
    · conv => lhs; whnf; arg 1; whnf
    · exact fun _ => rfl
    · first | exact hcs
    · exact fun _ => rfl
    · exact fun _ => rfl
    · exact fun _ => rfl)
 | refine aw_seq ?_
 | refine aw_region ?_
 | refine awo_nil ?_
 | refine k_seq ?_
 | refine aw_skip ?_
 | (apply s_pick_t rfl rfl
    · conv => lhs; whnf
    · conv => lhs; whnf
    · first | exact bT1 (by assumption) | exact bT2 (by assumption))
 | (apply s_pick_f rfl rfl
    · conv => lhs; whnf
    · conv => lhs; whnf
    · first | exact bF1 (by assumption) | exact bF2 (by assumption))
 | (apply s_val rfl
    · conv => lhs; whnf
    · conv => lhs; whnf; arg 2; whnf)
 | (apply s_box rfl rfl rfl rfl
    · conv => lhs; whnf; arg 1; whnf
    · rfl)
 | (apply s_wanted_val rfl
    · conv => lhs; whnf
    · conv => lhs; whnf
    · first | rfl | assumption
    · conv => lhs; whnf; arg 2; whnf)
 | (apply s_skipU rfl
    · conv => lhs; whnf
    · conv => lhs; whnf
    · first | rfl | assumption)
 | (apply s_dead rfl
    · conv => lhs; whnf
    · rfl
    · rfl)
 | (apply s_guard_valU rfl
    · conv => lhs; whnf
    · conv => lhs; whnf
    · conv => lhs; whnf; arg 2; whnf)
 | (apply aw_cond_t
    · conv => lhs; whnf; arg 1; arg 1; whnf)
 | (apply aw_cond_f
    · conv => lhs; whnf; arg 1; arg 1; whnf)
 | (refine aw_cond (by conv => lhs; whnf) ?_ ?_ <;> intro hb)
 | refine aw_ret ?_
 | refine k_seq_ret ?_
 | refine k_end_ret ?_
 | (refine ⟨_, by conv => lhs; whnf; arg 2; whnf, ?_⟩; conv => rhs; whnf)
 | exact trivial
 | intro hg)
  all_goals
    clear hcs he hc
    refine congrArg (fun b => V.c (.bool b)) ?_
    simp only [e1, e2, e3, e4] at *
    clear e1 e2 e3 e4
    generalize decide (least ≤ l.length) = a1 at *
    generalize decide (l.length ≤ 64) = a2 at *
    generalize decide (l.length = 0) = a3 at *
    generalize decide (lv ≤ 24) = a4 at *
    generalize (l.any fun x => !p x) = a5 at *
    simp_all
/-- bounds of a selection's parts -/
structure SelB (d : D) (B : Nat) : Prop where
  s1 : (d.f 1).s.size ≤ B
  s2 : (d.f 2).s.size ≤ B
  s3 : (d.f 3).s.size ≤ B
  l4 : bulkL (d.f 4).l ≤ B
  l5 : bulkL (d.f 5).l ≤ B
  l6 : bulkL (d.f 6).l < bulkD d
  l6B : bulkL (d.f 6).l ≤ B
set_option maxHeartbeats 8000000 in
set_option maxRecDepth 100000 in
theorem sel_b {d : D} {B : Nat} (h : bulkD d ≤ B) : SelB d B := by
  have h0 := bulkD_wD d
  have q := fun i => wD_f d i
  have q1 := q 1; have q2 := q 2; have q3 := q 3; have q4 := q 4; have q5 := q 5; have q6 := q 6
  have s1 := wD_str (d.f 1); have s2 := wD_str (d.f 2); have s3 := wD_str (d.f 3)
  have l4 := wD_list (d.f 4); have l5 := wD_list (d.f 5); have l6 := wD_list (d.f 6)
  exact ⟨by omega, by omega, by omega, by omega, by omega, by omega, by omega⟩
set_option maxHeartbeats 8000000 in
set_option maxRecDepth 100000 in
theorem noneS_is (s : ByteArray) : (s.toList == ({ data := #[] } : ByteArray).toList) = noneS s := str_is s []
set_option maxHeartbeats 8000000 in
set_option maxRecDepth 100000 in
theorem sel_ac : ∀ (k lv : Nat) (d : D), bulkD d ≤ k → k ≤ 1000000000 → lv + k ≤ 2000000000 → AC EN5 Tryz.prog 159 [.agg (cellsV Tryz.prog 12 76 d), .c (.int .i64 (lv : Int))] (.c (.bool (selR k lv d)))
  | 0, _, d, h, _, _ => by have := bulkD_pos d; omega
  | k + 1, lv, d, h, hk, hlv => by
    have hB := sel_b (B := 1000000000) (d := d) (by omega)
    have h1 := name_ac (d.f 1).s hB.s1
    have h2 := name_ac (d.f 2).s hB.s2
    have h3 := name_ac (d.f 3).s hB.s3
    have h4 := args_ac (d.f 4).l hB.l4
    have h5 := dirs_ac (d.f 5).l hB.l5
    have h6 := title_ac (d.f 2).s hB.s2
    have hs := fun least => sels_of (d.f 6).l least (lv + 1) (selR k (lv + 1)) hB.l6B fun i hi => sel_ac k (lv + 1) _ (by have := bulkL_get hi; have := hB.l6; omega) (by omega) (by omega)
    have hs0 := hs 0
    have hs1 := hs 1
    have hz4 : (((d.f 4).l.length : Int) == 0) = decide ((d.f 4).l.length = 0) := by rw [Bool.eq_iff_iff]; simp
    have hz6 : (((d.f 6).l.length : Int) == 0) = decide ((d.f 6).l.length = 0) := by rw [Bool.eq_iff_iff]; simp
    have n1 := noneS_is (d.f 1).s
    have n2 := noneS_is (d.f 2).s
    have n3 := noneS_is (d.f 3).s
    have e : cellsV Tryz.prog 12 76 d = [.c (.int .i64 (d.f 0).n), .c (.string (d.f 1).s), .c (.string (d.f 2).s), .c (.string (d.f 3).s), .sl 86 (d.f 4).l, .sl 150 (d.f 5).l, .sl 76 (d.f 6).l] := rfl
    unfold selR
    rw [e]
    by_cases k1 : (d.f 0).n = 1
    · rw [if_pos k1, k1]
      refine ac_enter 104 Tryz.func159 rfl rfl rfl rfl ?_
      intro s w he
      repeat' (first
 | (apply s_wpick_t rfl rfl rfl
    · conv => lhs; whnf
    · first | rfl | assumption
    · conv => lhs; whnf
    · first | exact bT1 (by assumption) | exact bT2 (by assumption) | rfl)
 | (apply s_wpick_f rfl rfl rfl
    · conv => lhs; whnf
    · first | rfl | assumption
    · conv => lhs; whnf
    · first | exact bF1 (by assumption) | exact bF2 (by assumption) | rfl)
 | refine aw_seq ?_
 | refine aw_region ?_
 | refine awo_nil ?_
 | refine k_seq ?_
 | refine aw_block ?_
 | refine aw_skip ?_
 | (apply s_pick_t rfl rfl
    · conv => lhs; whnf
    · conv => lhs; whnf
    · first | exact bT1 (by assumption) | exact bT2 (by assumption))
 | (apply s_pick_f rfl rfl
    · conv => lhs; whnf
    · conv => lhs; whnf
    · first | exact bF1 (by assumption) | exact bF2 (by assumption))
 | (apply s_val rfl
    · conv => lhs; whnf
    · conv => lhs; whnf; arg 2; whnf)
 | (apply s_call rfl
    · conv => lhs; whnf
    · conv => lhs; whnf
    · first | exact h1 | exact h2 | exact h4 | exact h5 | exact hs0)
 | (apply s_box rfl rfl rfl rfl
    · conv => lhs; whnf; arg 1; whnf
    · rfl)
 | (apply s_wanted_val rfl
    · conv => lhs; whnf
    · conv => lhs; whnf
    · first | rfl | assumption
    · conv => lhs; whnf; arg 2; whnf)
 | (apply s_wanted_call rfl
    · conv => lhs; whnf
    · conv => lhs; whnf
    · first | rfl | assumption
    · conv => lhs; whnf
    · first | exact h1 | exact h2 | exact h4 | exact h5 | exact hs0)
 | (apply s_skipU rfl
    · conv => lhs; whnf
    · conv => lhs; whnf
    · first | rfl | assumption)
 | (apply s_dead rfl
    · conv => lhs; whnf
    · rfl
    · rfl)
 | (apply s_guard_valU rfl
    · conv => lhs; whnf
    · conv => lhs; whnf
    · conv => lhs; whnf; arg 2; whnf)
 | (apply aw_cond_t
    · conv => lhs; whnf; arg 1; arg 1; whnf)
 | (refine aw_cond (by conv => lhs; whnf) ?_ ?_ <;> intro hb)
 | refine aw_ret ?_
 | refine k_seq_ret ?_
 | refine k_block_ret ?_
 | refine k_end_ret ?_
 | (refine ⟨_, by conv => lhs; whnf; arg 2; whnf, ?_⟩; conv => rhs; whnf)
 | exact trivial
 | intro hg)
      all_goals first
        | exact i64_ok (by omega)
        | (clear h1 h2 h3 h4 h5 h6 hs hs0 hs1 he e hB
           refine congrArg (fun b => V.c (.bool b)) ?_
           simp only [n1, n2, n3, hz4, hz6] at *
           clear n1 n2 n3 hz4 hz6
           generalize argsR (d.f 4).l = a1 at *
           generalize dirsR (d.f 5).l = a2 at *
           generalize noneS (d.f 1).s = a3 at *
           generalize noneS (d.f 3).s = a4 at *
           generalize nameB (d.f 1).s = a5 at *
           generalize nameB (d.f 2).s = a6 at *
           generalize selsR (selR k (lv + 1)) (d.f 6).l 0 (lv + 1) = a7 at *
           clear k1 h hk hlv
           simp_all)
    rw [if_neg k1]
    by_cases k2 : (d.f 0).n = 2
    · rw [if_pos k2, k2]
      refine ac_enter 104 Tryz.func159 rfl rfl rfl rfl ?_
      intro s w he
      repeat' (first
 | refine aw_seq ?_
 | refine aw_region ?_
 | refine awo_nil ?_
 | refine k_seq ?_
 | refine aw_block ?_
 | refine aw_skip ?_
 | (apply s_pick_t rfl rfl
    · conv => lhs; whnf
    · conv => lhs; whnf
    · first | exact bT1 (by assumption) | exact bT2 (by assumption))
 | (apply s_pick_f rfl rfl
    · conv => lhs; whnf
    · conv => lhs; whnf
    · first | exact bF1 (by assumption) | exact bF2 (by assumption))
 | (apply s_val rfl
    · conv => lhs; whnf
    · conv => lhs; whnf; arg 2; whnf)
 | (apply s_call rfl
    · conv => lhs; whnf
    · conv => lhs; whnf
    · first | exact h4 | exact h5 | exact h6)
 | (apply s_box rfl rfl rfl rfl
    · conv => lhs; whnf; arg 1; whnf
    · rfl)
 | (apply s_wanted_val rfl
    · conv => lhs; whnf
    · conv => lhs; whnf
    · first | rfl | assumption
    · conv => lhs; whnf; arg 2; whnf)
 | (apply s_wanted_call rfl
    · conv => lhs; whnf
    · conv => lhs; whnf
    · first | rfl | assumption
    · conv => lhs; whnf
    · first | exact h4 | exact h5 | exact h6)
 | (apply s_skipU rfl
    · conv => lhs; whnf
    · conv => lhs; whnf
    · first | rfl | assumption)
 | (apply s_guard_valU rfl
    · conv => lhs; whnf
    · conv => lhs; whnf
    · conv => lhs; whnf; arg 2; whnf)
 | (apply aw_cond_t
    · conv => lhs; whnf; arg 1; arg 1; whnf)
 | (apply aw_cond_f
    · conv => lhs; whnf; arg 1; arg 1; whnf)
 | (refine aw_cond (by conv => lhs; whnf) ?_ ?_ <;> intro hb)
 | refine aw_ret ?_
 | refine k_seq_ret ?_
 | refine k_block_ret ?_
 | refine k_end_ret ?_
 | (refine ⟨_, by conv => lhs; whnf; arg 2; whnf, ?_⟩; conv => rhs; whnf)
 | exact trivial
 | intro hg)
      all_goals
        clear h1 h2 h3 h4 h5 h6 hs hs0 hs1 he e hB
        refine congrArg (fun b => V.c (.bool b)) ?_
        simp only [n1, n2, n3, hz4, hz6] at *
        clear n1 n2 n3 hz4 hz6
        generalize argsR (d.f 4).l = a1 at *
        generalize dirsR (d.f 5).l = a2 at *
        generalize noneS (d.f 1).s = a3 at *
        generalize noneS (d.f 3).s = a4 at *
        generalize decide ((d.f 4).l.length = 0) = a5 at *
        generalize decide ((d.f 6).l.length = 0) = a6 at *
        generalize titleR (d.f 2).s = a7 at *
        clear k1 k2 h hk hlv
        simp_all
    rw [if_neg k2]
    by_cases k3 : (d.f 0).n = 3
    · rw [if_pos k3, k3]
      refine ac_enter 104 Tryz.func159 rfl rfl rfl rfl ?_
      intro s w he
      repeat' (first
 | (apply s_wpick_t rfl rfl rfl
    · conv => lhs; whnf
    · first | rfl | assumption
    · conv => lhs; whnf
    · first | exact bT1 (by assumption) | exact bT2 (by assumption) | rfl)
 | (apply s_wpick_f rfl rfl rfl
    · conv => lhs; whnf
    · first | rfl | assumption
    · conv => lhs; whnf
    · first | exact bF1 (by assumption) | exact bF2 (by assumption) | rfl)
 | refine aw_seq ?_
 | refine aw_region ?_
 | refine awo_nil ?_
 | refine k_seq ?_
 | refine aw_block ?_
 | refine aw_skip ?_
 | (apply s_pick_t rfl rfl
    · conv => lhs; whnf
    · conv => lhs; whnf
    · first | exact bT1 (by assumption) | exact bT2 (by assumption))
 | (apply s_pick_f rfl rfl
    · conv => lhs; whnf
    · conv => lhs; whnf
    · first | exact bF1 (by assumption) | exact bF2 (by assumption))
 | (apply s_val rfl
    · conv => lhs; whnf
    · conv => lhs; whnf; arg 2; whnf)
 | (apply s_call rfl
    · conv => lhs; whnf
    · conv => lhs; whnf
    · first | exact h3 | exact h4 | exact h5 | exact hs1)
 | (apply s_box rfl rfl rfl rfl
    · conv => lhs; whnf; arg 1; whnf
    · rfl)
 | (apply s_wanted_val rfl
    · conv => lhs; whnf
    · conv => lhs; whnf
    · first | rfl | assumption
    · conv => lhs; whnf; arg 2; whnf)
 | (apply s_wanted_call rfl
    · conv => lhs; whnf
    · conv => lhs; whnf
    · first | rfl | assumption
    · conv => lhs; whnf
    · first | exact h3 | exact h4 | exact h5 | exact hs1)
 | (apply s_skipU rfl
    · conv => lhs; whnf
    · conv => lhs; whnf
    · first | rfl | assumption)
 | (apply s_dead rfl
    · conv => lhs; whnf
    · rfl
    · rfl)
 | (apply s_guard_valU rfl
    · conv => lhs; whnf
    · conv => lhs; whnf
    · conv => lhs; whnf; arg 2; whnf)
 | (apply aw_cond_t
    · conv => lhs; whnf; arg 1; arg 1; whnf)
 | (apply aw_cond_f
    · conv => lhs; whnf; arg 1; arg 1; whnf)
 | (refine aw_cond (by conv => lhs; whnf) ?_ ?_ <;> intro hb)
 | refine aw_ret ?_
 | refine k_seq_ret ?_
 | refine k_block_ret ?_
 | refine k_end_ret ?_
 | (refine ⟨_, by conv => lhs; whnf; arg 2; whnf, ?_⟩; conv => rhs; whnf)
 | exact trivial
 | intro hg)
      all_goals first
        | exact i64_ok (by omega)
        | (clear h1 h2 h3 h4 h5 h6 hs hs0 hs1 he e hB
           refine congrArg (fun b => V.c (.bool b)) ?_
           simp only [n1, n2, n3, hz4, hz6] at *
           clear n1 n2 n3 hz4 hz6
           generalize argsR (d.f 4).l = a1 at *
           generalize dirsR (d.f 5).l = a2 at *
           generalize noneS (d.f 1).s = a3 at *
           generalize noneS (d.f 2).s = a4 at *
           generalize noneS (d.f 3).s = a5 at *
           generalize nameB (d.f 3).s = a6 at *
           generalize decide ((d.f 4).l.length = 0) = a8 at *
           generalize selsR (selR k (lv + 1)) (d.f 6).l 1 (lv + 1) = a7 at *
           clear k1 k2 k3 h hk hlv
           simp_all)
    rw [if_neg k3]
    have f1 : ((d.f 0).n == 1) = false := by simpa using k1
    have f2 : ((d.f 0).n == 2) = false := by simpa using k2
    have f3 : ((d.f 0).n == 3) = false := by simpa using k3
    refine ac_enter 104 Tryz.func159 rfl rfl rfl rfl ?_
    intro s w he
    repeat' (first
 | (apply aw_cond_kf
    · conv => lhs; whnf
    · assumption)
 | refine aw_seq ?_
 | refine aw_region ?_
 | refine awo_nil ?_
 | refine k_seq ?_
 | refine k_block ?_
 | refine aw_block ?_
 | refine aw_skip ?_
 | (apply s_pick_t rfl rfl
    · conv => lhs; whnf
    · conv => lhs; whnf
    · first | exact bT1 (by assumption) | exact bT2 (by assumption))
 | (apply s_pick_f rfl rfl
    · conv => lhs; whnf
    · conv => lhs; whnf
    · first | exact bF1 (by assumption) | exact bF2 (by assumption))
 | (apply s_val rfl
    · conv => lhs; whnf
    · conv => lhs; whnf; arg 2; whnf)
 | (apply s_call rfl
    · conv => lhs; whnf
    · conv => lhs; whnf
    · first | exact h4 | exact h5)
 | (apply s_box rfl rfl rfl rfl
    · conv => lhs; whnf; arg 1; whnf
    · rfl)
 | (apply s_wanted_val rfl
    · conv => lhs; whnf
    · conv => lhs; whnf
    · first | rfl | assumption
    · conv => lhs; whnf; arg 2; whnf)
 | (apply s_wanted_call rfl
    · conv => lhs; whnf
    · conv => lhs; whnf
    · first | rfl | assumption
    · conv => lhs; whnf
    · first | exact h4 | exact h5)
 | (apply s_skipU rfl
    · conv => lhs; whnf
    · conv => lhs; whnf
    · first | rfl | assumption)
 | (apply s_guard_valU rfl
    · conv => lhs; whnf
    · conv => lhs; whnf
    · conv => lhs; whnf; arg 2; whnf)
 | (apply aw_cond_t
    · conv => lhs; whnf; arg 1; arg 1; whnf)
 | (refine aw_cond (by conv => lhs; whnf) ?_ ?_ <;> intro hb)
 | refine aw_ret ?_
 | refine k_seq_ret ?_
 | refine k_end_ret ?_
 | (refine ⟨_, by conv => lhs; whnf; arg 2; whnf, ?_⟩; conv => rhs; whnf)
 | exact trivial
 | intro hg)
    all_goals
      clear h1 h2 h3 h4 h5 h6 hs hs0 hs1 he e hB
      refine congrArg (fun b => V.c (.bool b)) ?_
      simp
set_option maxHeartbeats 8000000 in
set_option maxRecDepth 100000 in
/-- a set of selections is right -/
theorem set_ac (l : List D) (hw : bulkL l ≤ 1000000000) : AC EN5 Tryz.prog 80 [.sl 76 l, .c (.int .i64 1), .c (.int .i64 1)] (.c (.bool (setR l))) :=
  sels_of l 1 1 (selR (bulkL l) 1) hw fun i hi => sel_ac _ _ _ (bulkL_get hi) hw (by omega)
end Go.Proofs.YthjiclhfhjdjpaaGreatDoor
namespace Go.Proofs.YthjiclhfhjdjpaaGreatDoor
open Go.RowKit
attribute [local irreducible] wpList Calls Code.wp
section
variable {P : Program} {s : Sg} {w w' : World} {pas : Nat → Prop} {B : Nat} {rs : Nat → Option Res}
end
section
variable {X : Cx} {nn : Nat} {st : Vst nn} {o : Oper} {K : Vst nn → Prop}
end
end Go.Proofs.YthjiclhfhjdjpaaGreatDoor
namespace Go.Proofs.YthjiclhfhjdjpaaGreatDoor
open Go.RowKit
attribute [local irreducible] wpList Calls Code.wp
section
variable {X : Cx} {nn : Nat} {st : Vst nn} {ops : Array Oper} {o : Oper}
/-- what an operation yields holds none of these names -/
def nfB (fr : List Nat) (v : V) (u : List (Nat × Res)) : Bool := fr.all fun d => v.free d && u.all fun p => !(Nat.beq p.1 d) && p.2.free d
inductive YldA (X : Cx) (ops : Array Oper) (fr rd wr : List Nat) (o : Oper) (st : Vst nn) : V → List (Nat × Res) → Prop where
  | old {v : V} {u : List (Nat × Res)} (h : YldG X ops rd wr o st v u) (hf : nfB fr v u = true) : YldA X ops fr rd wr o st v u
  | alloc {t : TypeId} {d : Nat} {vs : List V} (hg : o.guard = none) (ho : o.op = .alloc t) (hd : o.dst = some d) (hdl : Nat.ble d 999999 = true) (hc : zeroV X.P t = some vs) (hfd : freeL d vs = true) (hw : wr.contains d = true) (hf : nfB fr (.bx d 0) [(d, .box t vs)] = true) : YldA X ops fr rd wr o st (.bx d 0) [(d, .box t vs)]
  | lit0 {t e : TypeId} {by_ d : Nat} (hg : o.guard = none) (ho : o.op = .buildSlice t 0 #[]) (hd : o.dst = some d) (hdl : Nat.ble d 999999 = true) (he : elemOk X.P t = some (e, by_)) (hw : wr.contains d = true) (hf : nfB fr (.own d e []) [(d, .tok e 0)] = true) : YldA X ops fr rd wr o st (.own d e []) [(d, .tok e 0)]
  | app {t e : TypeId} {by_ k : Nat} {x y : Operand} {l l2 : List D} (hg : o.guard = none) (hw : wr.contains k = true) (ho : o.op = .call { callee := .builtin .append, args := #[x, y], argTypes := #[t, t] }) (he : elemOk X.P t = some (e, by_)) (hleaf : ∀ d, (cellsV X.P 12 e d).all V.leaf = true)
      (hx : ev st x = .own k e l) (hr : st.rs k = some (.tok e l.length)) (hy : (ev st y).out = .sl e l2) (hp : l.length + l2.length ≤ maxLen ∧ (l.length + l2.length) * by_ ≤ 140737488355328) (hf : nfB fr (.own k e (l ++ l2)) [(k, .tok e (l.length + l2.length))] = true) :
      YldA X ops fr rd wr o st (.own k e (l ++ l2)) [(k, .tok e (l.length + l2.length))]
theorem YldA.of {fr rd wr : List Nat} {d : Option Tmp} {v v' : V} {u u' : List (Nat × Res)} (hd : ∀ t, d = some t → t ∉ o.looksAt ops) (hu : Off rd wr u') :
    YldA X ops fr rd wr o (stp st d v' u') v u ↔ YldA X ops fr rd wr o st v u := by
  have evs : ∀ x ∈ o.op.operands, ev (stp st d v' u') x = ev st x := fun x hx => ev_stp fun t ht hxt => hd t ht (by
    subst hxt
    exact List.mem_append_left _ (List.mem_filterMap.2 ⟨.tmp t, by simpa using hx, rfl⟩))
  have hrs : ∀ n, wr.contains n = true → (stp st d v' u').rs n = st.rs n := fun n hn => by
    rw [stp_rs]; exact updL_off hu (.inr hn)
  constructor
  · intro h
    cases h with
    | old h hf => exact .old ((YldG.of hd hu).1 h) hf
    | alloc hg ho hd' hdl hc hfd hw hf => exact .alloc hg ho hd' hdl hc hfd hw hf
    | lit0 hg ho hd' hdl he hw hf => exact .lit0 hg ho hd' hdl he hw hf
    | app hg hw ho he hleaf hx hr hy hp hf =>
      rw [evs _ (by rw [ho]; simp [Op.operands, Call.operands])] at hx
      rw [evs _ (by rw [ho]; simp [Op.operands, Call.operands])] at hy
      rw [hrs _ hw] at hr
      exact .app hg hw ho he hleaf hx hr hy hp hf
  · intro h
    cases h with
    | old h hf => exact .old ((YldG.of hd hu).2 h) hf
    | alloc hg ho hd' hdl hc hfd hw hf => exact .alloc hg ho hd' hdl hc hfd hw hf
    | lit0 hg ho hd' hdl he hw hf => exact .lit0 hg ho hd' hdl he hw hf
    | app hg hw ho he hleaf hx hr hy hp hf =>
      rw [← evs _ (by rw [ho]; simp [Op.operands, Call.operands])] at hx
      rw [← evs _ (by rw [ho]; simp [Op.operands, Call.operands])] at hy
      rw [← hrs _ hw] at hr
      exact .app hg hw ho he hleaf hx hr hy hp hf
theorem YldA.names {fr rd wr : List Nat} {v : V} {u : List (Nat × Res)} (h : YldA X ops fr rd wr o st v u) : ∀ p ∈ u, wr.contains p.1 = true := by
  cases h with
  | old h hf => exact h.names
  | alloc hg ho hd' hdl hc hfd hw hf => exact fun p hp => by simp at hp; subst hp; exact hw
  | lit0 hg ho hd' hdl he hw hf => exact fun p hp => by simp at hp; subst hp; exact hw
  | app hg hw ho he hleaf hx hr hy hp hf => exact fun p hp => by simp at hp; subst hp; exact hw
theorem YldA.nf {fr rd wr : List Nat} {v : V} {u : List (Nat × Res)} (h : YldA X ops fr rd wr o st v u) : nfB fr v u = true := by
  cases h with
  | old h hf => exact hf
  | alloc hg ho hd' hdl hc hfd hw hf => exact hf
  | lit0 hg ho hd' hdl he hw hf => exact hf
  | app hg hw ho he hleaf hx hr hy hp hf => exact hf
variable {fr rd wr : Nat → List Nat}
section
variable {l : List Oper} {Q : Vst nn → Prop} {d : Option Tmp} {k : Nat}
end
end
end Go.Proofs.YthjiclhfhjdjpaaGreatDoor
namespace Go.Proofs.YthjiclhfhjdjpaaGreatDoor
open Go.RowKit
set_option linter.unusedSectionVars false
attribute [local irreducible] wpList Calls Code.wp AW AWo OpOk seqK blockK scopeK loopK endK AC absLex Yld Sub
attribute [local irreducible] ACB ACX ACE absLexG YldG
set_option maxHeartbeats 8000000 in
set_option maxRecDepth 100000 in
theorem at_in {i n : Nat} (h : i < n) : 0 ≤ (i : Int) ∧ (i : Int) < (n : Int) := ⟨Int.natCast_nonneg i, Int.ofNat_lt.2 h⟩
noncomputable def HWr (l : List D) (i : Nat) : Vst 26 := stS 26 [(0, .sl 3 l), (1, .sl 3 l), (5, .c (.int .i64 (i : Int)))] []
set_option maxHeartbeats 8000000 in
set_option maxRecDepth 100000 in
theorem wraps_ac (l : List D) (hl : l.length ≤ 1000000000) : AC EN5 Tryz.prog 140 [.sl 3 l, .sl 3 l] (.c (.bool true)) := by
  have f0 : ((l.length : Int) != (l.length : Int)) = false := by simp
  refine ac_enter 26 Tryz.func140 rfl rfl rfl rfl ?_
  intro s w he
  repeat' (first
 | (apply aw_cond_kf
    · conv => lhs; whnf
    · assumption)
 | refine aw_seq ?_
 | refine aw_region ?_
 | refine awo_nil ?_
 | refine k_seq ?_
 | refine aw_block ?_
 | refine aw_skip ?_
 | (apply s_val rfl
    · conv => lhs; whnf
    · conv => lhs; whnf; arg 2; whnf)
 | exact trivial)
  refine aw_loop (fun j st => ∃ i, i + j = l.length ∧ Sub (cx EN5 Tryz.prog s w he) st (HWr l i)) l.length ⟨0, by omega, Sub.live ⟨rfl, rfl, rfl, trivial⟩ trivial⟩ ?_
  rintro j st ⟨i, hij, hs2⟩
  refine aw_sub hs2 ?_
  clear hs2
  by_cases hi : i < l.length
  · have f1 : decide ((i : Int) < (l.length : Nat)) = true := decide_eq_true (by omega)
    have f2 : ((gD l i).n != (gD l i).n) = false := by simp
    repeat' (first
 | (apply aw_cond_kt
    · conv => lhs; whnf
    · assumption)
 | (apply aw_cond_kf
    · conv => lhs; whnf
    · assumption)
 | refine aw_seq ?_
 | refine aw_region ?_
 | refine awo_nil ?_
 | refine k_seq ?_
 | refine k_block ?_
 | refine aw_block ?_
 | refine aw_skip ?_
 | (apply s_val rfl
    · conv => lhs; whnf
    · conv => lhs; whnf; arg 2; whnf)
 | (apply aw_draw (by kernel_rfl) (by kernel_rfl))
 | apply y_nil
 | (apply y_val rfl
    · conv => lhs; whnf
    · conv => lhs; whnf; arg 2; whnf)
 | exact apartB_none
 | exact apartB_nil
 | exact (1000000 : Nat)
 | exact trivial)
    all_goals first
      | exact i64_ok (by omega)
      | exact at_in hi
      | exact k_loop_next (j' := j - 1) (by omega) ⟨i + 1, by omega, Sub.live ⟨rfl, rfl, rfl, trivial⟩ trivial⟩
  · have f1 : decide ((i : Int) < (l.length : Nat)) = false := decide_eq_false (by omega)
    repeat' (first
 | (apply aw_cond_kf
    · conv => lhs; whnf
    · assumption)
 | refine aw_seq ?_
 | refine aw_region ?_
 | refine awo_nil ?_
 | refine k_seq ?_
 | (apply s_val rfl
    · conv => lhs; whnf
    · conv => lhs; whnf; arg 2; whnf)
 | refine aw_ret ?_
 | refine aw_exit ?_
 | refine k_seq_exit ?_
 | refine k_block_hit rfl ?_
 | refine k_loop_exit ?_
 | refine k_end_ret ?_
 | (refine ⟨_, by conv => lhs; whnf; arg 2; whnf, ?_⟩; conv => rhs; whnf)
 | exact trivial)
set_option maxHeartbeats 8000000 in
set_option maxRecDepth 100000 in
theorem sameRef_ac (d : D) (hl : (d.f 1).l.length ≤ 1000000000) : AC EN5 Tryz.prog 72 [.agg (cellsV Tryz.prog 12 71 d), .agg (cellsV Tryz.prog 12 71 d)] (.c (.bool true)) := by
  have h := wraps_ac (d.f 1).l hl
  have f0 : ((d.f 0).s.toList == (d.f 0).s.toList) = true := by simp
  have k0 : (((d.f 0).s.toList == (d.f 0).s.toList) == true) = false → False := fun h => by rw [f0] at h; cases h
  refine ac_enter 17 Tryz.func72 rfl rfl rfl rfl ?_
  intro s w he
  repeat' (first
 | exact (k0 (by assumption)).elim
 | refine aw_seq ?_
 | refine aw_region ?_
 | refine awo_nil ?_
 | refine k_seq ?_
 | (apply s_pick_t rfl rfl
    · conv => lhs; whnf
    · conv => lhs; whnf
    · first | exact bT1 (by assumption) | exact bT2 (by assumption))
 | (apply s_val rfl
    · conv => lhs; whnf
    · conv => lhs; whnf; arg 2; whnf)
 | (apply s_box rfl rfl rfl rfl
    · conv => lhs; whnf; arg 1; whnf
    · rfl)
 | (apply s_wanted_val rfl
    · conv => lhs; whnf
    · conv => lhs; whnf
    · first | rfl | assumption
    · conv => lhs; whnf; arg 2; whnf)
 | (apply s_wanted_call rfl
    · conv => lhs; whnf
    · conv => lhs; whnf
    · first | rfl | assumption
    · conv => lhs; whnf
    · first | exact h)
 | (apply s_guard_valU rfl
    · conv => lhs; whnf
    · conv => lhs; whnf
    · conv => lhs; whnf; arg 2; whnf)
 | refine aw_ret ?_
 | refine k_end_ret ?_
 | (refine ⟨_, by conv => lhs; whnf; arg 2; whnf, ?_⟩; conv => rhs; whnf)
 | exact trivial
 | intro hg)
end Go.Proofs.YthjiclhfhjdjpaaGreatDoor
